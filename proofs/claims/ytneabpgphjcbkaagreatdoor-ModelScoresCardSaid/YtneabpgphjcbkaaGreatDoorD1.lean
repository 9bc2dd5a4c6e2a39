/-
  Small functions and the stream of the generator, as the value machine turns them and run by it.
-/
import Derived.Test.YtneabpgphjcbkaaGreatDoorVB
namespace Go.Proofs.YtneabpgphjcbkaaGreatDoor.Vm
open Go.RowKit

def F_wrap : FnM := FnM.mk 6 (MC.seq (MC.lst [MO.mk 0 false (some 2) none (MOp.mv (Od.c (V.val (Value.int IntKind.i64 0))))]) (MC.seq (MC.lst [MO.mk 0 false (some 3) none (MOp.mv (Od.t 0)), MO.mk 1 false (some 4) none (MOp.conv IntKind.i32 (Od.t 3)), MO.mk 2 false (some 5) none (MOp.conv IntKind.i64 (Od.t 4)), MO.mk 3 false (some 2) none (MOp.mv (Od.t 5))]) MC.ret)) [RV.t 2]
theorem c_wrap : compF Tryz.prog 70 = some F_wrap := by kernel_rfl
def F_dot : FnM := FnM.mk 27 (MC.seq (MC.lst [MO.mk 0 false (some 4) none (MOp.mv (Od.c (V.val (Value.int IntKind.i64 0))))]) (MC.seq (MC.lst [MO.mk 0 false (some 5) none (MOp.mv (Od.c (V.val (Value.int IntKind.i64 0))))]) (MC.seq (MC.seq (MC.lst [MO.mk 0 false (some 7) none (MOp.mv (Od.t 0)), MO.mk 1 false (some 8) none (MOp.len (Od.t 7)), MO.mk 2 false (some 9) none (MOp.mv (Od.c (V.val (Value.int IntKind.i64 0))))]) (MC.block 0 (MC.loop (MC.seq (MC.lst [MO.mk 0 false (some 10) none (MOp.bin BinOp.lss (Od.t 9) (Od.t 8))]) (MC.seq (MC.cond (Od.t 10) MC.skip (MC.exit 0)) (MC.seq (MC.block 1 (MC.seq (MC.lst [MO.mk 0 false (some 11) none (MOp.mv (Od.t 9)), MO.mk 1 false (some 6) none (MOp.mv (Od.t 11))]) (MC.flat [MO.mk 0 true (some 12) none (MOp.mv (Od.t 5)), MO.mk 1 true (some 13) none (MOp.mv (Od.t 0)), MO.mk 2 true (some 14) none (MOp.mv (Od.t 6)), MO.mk 3 true (some 15) none (MOp.iadr 1 (Od.t 13) (Od.t 14)), MO.mk 4 true (some 16) none (MOp.load false 1 (Od.t 15)), MO.mk 5 true (some 17) none (MOp.mv (Od.t 1)), MO.mk 6 true (some 18) none (MOp.mv (Od.t 6)), MO.mk 7 true (some 19) none (MOp.iadr 1 (Od.t 17) (Od.t 18)), MO.mk 8 true (some 20) none (MOp.load false 1 (Od.t 19)), MO.mk 9 true (some 21) none (MOp.bin BinOp.mul (Od.t 16) (Od.t 20)), MO.mk 10 false (some 22) none (MOp.call 70 [Od.t 21]), MO.mk 11 false (some 23) none (MOp.bin BinOp.add (Od.t 12) (Od.t 22)), MO.mk 12 false (some 24) none (MOp.call 70 [Od.t 23]), MO.mk 13 false (some 5) none (MOp.mv (Od.t 24))]))) (MC.lst [MO.mk 0 false (some 25) none (MOp.bin BinOp.add (Od.t 9) (Od.c (V.val (Value.int IntKind.i64 1)))), MO.mk 1 false (some 9) none (MOp.mv (Od.t 25))]))))))) (MC.seq (MC.lst [MO.mk 0 false (some 26) none (MOp.mv (Od.t 5)), MO.mk 1 false (some 4) none (MOp.mv (Od.t 26))]) MC.ret)))) [RV.t 4]
theorem c_dot : compF Tryz.prog 72 = some F_dot := by kernel_rfl
def F_shift : FnM := FnM.mk 12 (MC.seq (MC.lst [MO.mk 0 false (some 4) none (MOp.mv (Od.c (V.val (Value.int IntKind.i64 0))))]) (MC.seq (MC.lst [MO.mk 0 false (some 5) none (MOp.mv (Od.t 0)), MO.mk 1 false (some 6) none (MOp.mv (Od.t 1)), MO.mk 2 false (some 7) none (MOp.bin BinOp.sub (Od.t 6) (Od.c (V.val (Value.int IntKind.i64 1)))), MO.mk 3 false (some 8) none (MOp.bin BinOp.shl (Od.c (V.val (Value.int IntKind.i64 1))) (Od.t 7)), MO.mk 4 false (some 9) none (MOp.bin BinOp.add (Od.t 5) (Od.t 8)), MO.mk 5 false (some 10) none (MOp.mv (Od.t 1)), MO.mk 6 false (some 11) none (MOp.bin BinOp.shr (Od.t 9) (Od.t 10)), MO.mk 7 false (some 4) none (MOp.mv (Od.t 11))]) MC.ret)) [RV.t 4]
theorem c_shift : compF Tryz.prog 71 = some F_shift := by kernel_rfl
def F_row : FnM := FnM.mk 16 (MC.seq (MC.lst [MO.mk 0 false (some 6) none (MOp.mv (Od.c (V.lst true [])))]) (MC.seq (MC.lst [MO.mk 0 false (some 7) none (MOp.mv (Od.t 0)), MO.mk 1 false (some 8) none (MOp.mv (Od.t 1)), MO.mk 2 false (some 9) none (MOp.mv (Od.t 2)), MO.mk 3 false (some 10) none (MOp.bin BinOp.mul (Od.t 8) (Od.t 9)), MO.mk 4 false (some 11) none (MOp.mv (Od.t 1)), MO.mk 5 false (some 12) none (MOp.bin BinOp.add (Od.t 11) (Od.c (V.val (Value.int IntKind.i64 1)))), MO.mk 6 false (some 13) none (MOp.mv (Od.t 2)), MO.mk 7 false (some 14) none (MOp.bin BinOp.mul (Od.t 12) (Od.t 13)), MO.mk 8 false (some 15) none (MOp.sl 1 (Od.t 7) (some (Od.t 10)) (some (Od.t 14))), MO.mk 9 false (some 6) none (MOp.mv (Od.t 15))]) MC.ret)) [RV.t 6]
theorem c_row : compF Tryz.prog 69 = some F_row := by kernel_rfl
def F_rows : FnM := FnM.mk 14 (MC.seq (MC.lst [MO.mk 0 false (some 4) none (MOp.mv (Od.c (V.val (Value.int IntKind.i64 0))))]) (MC.seq (MC.seq (MC.lst [MO.mk 0 false (some 5) none (MOp.mv (Od.t 0)), MO.mk 1 false (some 6) none (MOp.len (Od.t 5)), MO.mk 2 false (some 7) none (MOp.mv (Od.t 1)), MO.mk 3 false (some 8) none (MOp.bin BinOp.rem (Od.t 6) (Od.t 7)), MO.mk 4 false (some 9) none (MOp.bin BinOp.neq (Od.t 8) (Od.c (V.val (Value.int IntKind.i64 0))))]) (MC.cond (Od.t 9) (MC.seq (MC.lst [MO.mk 0 false (some 4) none (MOp.mv (Od.c (V.val (Value.int IntKind.i64 0))))]) MC.ret) MC.skip)) (MC.seq (MC.lst [MO.mk 0 false (some 10) none (MOp.mv (Od.t 0)), MO.mk 1 false (some 11) none (MOp.len (Od.t 10)), MO.mk 2 false (some 12) none (MOp.mv (Od.t 1)), MO.mk 3 false (some 13) none (MOp.bin BinOp.quo (Od.t 11) (Od.t 12)), MO.mk 4 false (some 4) none (MOp.mv (Od.t 13))]) MC.ret))) [RV.t 4]
theorem c_rows : compF Tryz.prog 65 = some F_rows := by kernel_rfl
def F_matrix : FnM := FnM.mk 14 (MC.seq (MC.lst [MO.mk 0 false (some 2) none (MOp.box 27 (Od.t 0)), MO.mk 1 false (some 4) none (MOp.mv (Od.c (V.lst true [])))]) (MC.seq (MC.lst [MO.mk 0 false (some 5) none (MOp.fadr 7 (Od.t 2)), MO.mk 1 false (some 6) none (MOp.load false 1 (Od.t 5)), MO.mk 2 false (some 7) none (MOp.mv (Od.t 1)), MO.mk 3 false (some 8) none (MOp.fadr 2 (Od.t 2)), MO.mk 4 false (some 9) none (MOp.load false 1 (Od.t 8)), MO.mk 5 false (some 10) none (MOp.fadr 2 (Od.t 2)), MO.mk 6 false (some 11) none (MOp.load false 1 (Od.t 10)), MO.mk 7 false (some 12) none (MOp.bin BinOp.mul (Od.t 9) (Od.t 11)), MO.mk 8 false (some 13) none (MOp.call 69 [Od.t 6, Od.t 7, Od.t 12]), MO.mk 9 false (some 4) none (MOp.mv (Od.t 13))]) MC.ret)) [RV.t 4]
theorem c_matrix : compF Tryz.prog 73 = some F_matrix := by kernel_rfl
def F_entry : FnM := FnM.mk 79 (MC.seq (MC.lst [MO.mk 0 false (some 3) none (MOp.box 27 (Od.t 0)), MO.mk 1 false (some 6) none (MOp.mv (Od.c (V.lst true [])))]) (MC.seq (MC.lst [MO.mk 0 false (some 14) none (MOp.fadr 2 (Od.t 3)), MO.mk 1 false (some 15) none (MOp.load false 1 (Od.t 14)), MO.mk 2 false (some 7) none (MOp.mv (Od.t 15))]) (MC.seq (MC.lst [MO.mk 0 false (some 16) none (MOp.fadr 5 (Od.t 3)), MO.mk 1 false (some 17) none (MOp.load false 1 (Od.t 16)), MO.mk 2 false (some 18) none (MOp.mv (Od.t 1)), MO.mk 3 false (some 19) none (MOp.mv (Od.t 7)), MO.mk 4 false (some 20) none (MOp.call 69 [Od.t 17, Od.t 18, Od.t 19]), MO.mk 5 false (some 21) none (MOp.call 53 [Od.t 20]), MO.mk 6 false (some 8) none (MOp.mv (Od.t 21))]) (MC.seq (MC.seq (MC.flat [MO.mk 0 true (some 22) none (MOp.fadr 6 (Od.t 3)), MO.mk 1 true (some 23) none (MOp.load false 1 (Od.t 22)), MO.mk 2 true (some 24) none (MOp.mv (Od.t 2)), MO.mk 3 true (some 25) none (MOp.fadr 6 (Od.t 3)), MO.mk 4 true (some 26) none (MOp.load false 1 (Od.t 25)), MO.mk 5 true (some 27) none (MOp.mv (Od.t 7)), MO.mk 8 true (some 30) none (MOp.mv (Od.t 7)), MO.mk 11 true (some 33) none (MOp.mv (Od.c (V.val (Value.int IntKind.i64 0)))), MO.mk 6 false (some 28) none (MOp.call 65 [Od.t 26, Od.t 27]), MO.mk 7 false (some 29) none (MOp.bin BinOp.rem (Od.t 24) (Od.t 28)), MO.mk 9 false (some 31) none (MOp.call 69 [Od.t 23, Od.t 29, Od.t 30]), MO.mk 10 false (some 32) none (MOp.len (Od.t 31))]) (MC.block 0 (MC.loop (MC.seq (MC.lst [MO.mk 0 false (some 34) none (MOp.bin BinOp.lss (Od.t 33) (Od.t 32))]) (MC.seq (MC.cond (Od.t 34) MC.skip (MC.exit 0)) (MC.seq (MC.block 1 (MC.seq (MC.lst [MO.mk 0 false (some 35) none (MOp.mv (Od.t 33)), MO.mk 1 false (some 36) none (MOp.iadr 1 (Od.t 31) (Od.t 33)), MO.mk 2 false (some 37) none (MOp.load false 1 (Od.t 36)), MO.mk 3 false (some 9) none (MOp.mv (Od.t 35)), MO.mk 4 false (some 10) none (MOp.mv (Od.t 37))]) (MC.lst [MO.mk 0 false (some 38) none (MOp.mv (Od.t 8)), MO.mk 1 false (some 39) none (MOp.mv (Od.t 9)), MO.mk 2 false (some 40) none (MOp.mv (Od.t 8)), MO.mk 3 false (some 41) none (MOp.mv (Od.t 9)), MO.mk 4 false (some 42) none (MOp.iadr 1 (Od.t 40) (Od.t 41)), MO.mk 5 false (some 43) none (MOp.load false 1 (Od.t 42)), MO.mk 6 false (some 44) none (MOp.mv (Od.t 10)), MO.mk 7 false (some 45) none (MOp.bin BinOp.add (Od.t 43) (Od.t 44)), MO.mk 8 false (some 46) none (MOp.call 70 [Od.t 45]), MO.mk 9 false (some 47) none (MOp.iadr 1 (Od.t 38) (Od.t 39)), MO.mk 10 false none none (MOp.store 1 (Od.t 47) (Od.t 46))]))) (MC.lst [MO.mk 0 false (some 48) none (MOp.bin BinOp.add (Od.t 33) (Od.c (V.val (Value.int IntKind.i64 1)))), MO.mk 1 false (some 33) none (MOp.mv (Od.t 48))]))))))) (MC.seq (MC.seq (MC.lst [MO.mk 0 false (some 49) none (MOp.fadr 0 (Od.t 3)), MO.mk 1 false (some 50) none (MOp.load false 1 (Od.t 49)), MO.mk 2 false (some 51) none (MOp.bin BinOp.neq (Od.t 50) (Od.c (V.val (Value.int IntKind.i64 1))))]) (MC.cond (Od.t 51) (MC.seq (MC.lst [MO.mk 0 false (some 52) none (MOp.mv (Od.t 8)), MO.mk 1 false (some 6) none (MOp.mv (Od.t 52))]) MC.ret) MC.skip)) (MC.seq (MC.lst [MO.mk 0 false (some 11) none (MOp.mv (Od.c (V.lst true [])))]) (MC.seq (MC.seq (MC.lst [MO.mk 0 false (some 53) none (MOp.mv (Od.c (V.val (Value.int IntKind.i64 0))))]) (MC.block 2 (MC.loop (MC.seq (MC.lst [MO.mk 0 false (some 54) none (MOp.bin BinOp.lss (Od.t 53) (Od.c (V.val (Value.int IntKind.i64 3))))]) (MC.seq (MC.cond (Od.t 54) MC.skip (MC.exit 2)) (MC.seq (MC.block 3 (MC.seq (MC.lst [MO.mk 0 false (some 55) none (MOp.mv (Od.t 53)), MO.mk 1 false (some 12) none (MOp.mv (Od.t 55))]) (MC.seq (MC.lst [MO.mk 0 false (some 56) none (MOp.mv (Od.t 7)), MO.mk 1 false (some 57) none (MOp.mv (Od.c (V.val (Value.int IntKind.i64 0))))]) (MC.block 4 (MC.loop (MC.seq (MC.lst [MO.mk 0 false (some 58) none (MOp.bin BinOp.lss (Od.t 57) (Od.t 56))]) (MC.seq (MC.cond (Od.t 58) MC.skip (MC.exit 4)) (MC.seq (MC.block 5 (MC.seq (MC.lst [MO.mk 0 false (some 59) none (MOp.mv (Od.t 57)), MO.mk 1 false (some 13) none (MOp.mv (Od.t 59))]) (MC.flat [MO.mk 0 true (some 60) none (MOp.mv (Od.t 11)), MO.mk 1 true (some 61) none (MOp.load true 11 (Od.t 3)), MO.mk 2 true (some 62) none (MOp.mv (Od.t 12)), MO.mk 4 true (some 64) none (MOp.mv (Od.t 13)), MO.mk 5 true (some 65) none (MOp.mv (Od.t 7)), MO.mk 7 true (some 67) none (MOp.mv (Od.t 8)), MO.mk 9 true (some 69) none (MOp.fadr 4 (Od.t 3)), MO.mk 10 true (some 70) none (MOp.load false 1 (Od.t 69)), MO.mk 11 true (some 71) none (MOp.iadr 1 (Od.t 70) (Od.c (V.val (Value.int IntKind.i64 0)))), MO.mk 12 true (some 72) none (MOp.load false 1 (Od.t 71)), MO.mk 3 false (some 63) none (MOp.call 73 [Od.t 61, Od.t 62]), MO.mk 6 false (some 66) none (MOp.call 69 [Od.t 63, Od.t 64, Od.t 65]), MO.mk 8 false (some 68) none (MOp.call 72 [Od.t 66, Od.t 67]), MO.mk 13 false (some 73) none (MOp.call 71 [Od.t 68, Od.t 72]), MO.mk 14 false (some 74) none (MOp.bsl 3 1 1 (V.val (Value.int IntKind.i64 0)) [(0, Od.t 73)]), MO.mk 15 false (some 75) none (MOp.app 3 1 8 (Od.t 60) (Od.t 74)), MO.mk 16 false (some 11) none (MOp.mv (Od.t 75))]))) (MC.lst [MO.mk 0 false (some 76) none (MOp.bin BinOp.add (Od.t 57) (Od.c (V.val (Value.int IntKind.i64 1)))), MO.mk 1 false (some 57) none (MOp.mv (Od.t 76))]))))))))) (MC.lst [MO.mk 0 false (some 77) none (MOp.bin BinOp.add (Od.t 53) (Od.c (V.val (Value.int IntKind.i64 1)))), MO.mk 1 false (some 53) none (MOp.mv (Od.t 77))]))))))) (MC.seq (MC.lst [MO.mk 0 false (some 78) none (MOp.mv (Od.t 11)), MO.mk 1 false (some 6) none (MOp.mv (Od.t 78))]) MC.ret)))))))) [RV.t 6]
theorem c_entry : compF Tryz.prog 48 = some F_entry := by kernel_rfl
def F_cloneI : FnM := FnM.mk 8 (MC.seq (MC.lst [MO.mk 0 false (some 2) none (MOp.mv (Od.c (V.lst true [])))]) (MC.seq (MC.seq (MC.lst [MO.mk 0 false (some 3) none (MOp.mv (Od.t 0)), MO.mk 1 false (some 4) none (MOp.snil false (Od.t 3))]) (MC.cond (Od.t 4) (MC.seq (MC.lst [MO.mk 0 false (some 2) none (MOp.mv (Od.c (V.lst true [])))]) MC.ret) MC.skip)) (MC.seq (MC.lst [MO.mk 0 false (some 5) none MOp.emp, MO.mk 1 false (some 6) none (MOp.mv (Od.t 0)), MO.mk 2 false (some 7) none (MOp.app 3 1 8 (Od.t 5) (Od.t 6)), MO.mk 3 false (some 2) none (MOp.mv (Od.t 7))]) MC.ret))) [RV.t 2]
theorem c_cloneI : compF Tryz.prog 53 = some F_cloneI := by kernel_rfl
end Go.Proofs.YtneabpgphjcbkaaGreatDoor.Vm

namespace Go.Proofs.YtneabpgphjcbkaaGreatDoor.Vm
open Go.RowKit

theorem hmix : Tryz.prog.follows .mixedOrders = true := by kernel_rfl
theorem le_of {a b : Nat} (h : Nat.ble a b = true) : a ≤ b := Nat.le_of_ble_eq_true h
def w32 (n : Int) : Int := IntKind.i32.wrap n
def ints (l : List Int) : List V := l.map I
@[simp] theorem ints_len (l : List Int) : (ints l).length = l.length := by simp [ints]
theorem ints_get {l : List Int} {k : Nat} {x : Int} (h : l[k]? = some x) : (ints l)[k]? = some (I x) := by simp [ints, h]
/-- sums of products, wrapped -/
def dotK (a b : List Int) : Nat → Int
  | 0 => 0
  | k + 1 => w32 (dotK a b k + w32 ((a[k]?).getD 0 * (b[k]?).getD 0))
section
variable {T : Tbl} {M : Nat → Bool} {st : St} {K : V → St → Prop} {Kp : List PanicEntry → St → Prop}
theorem w64_w32 (n : Int) : IntKind.i64.wrap (IntKind.i32.wrap n) = w32 n := by
  unfold w32
  simp only [IntKind.wrap_i64, IntKind.wrap_i32]
  omega
theorem w32_w64 (n : Int) : w32 (IntKind.i64.wrap n) = w32 n := by
  unfold w32
  simp only [IntKind.wrap_i64, IntKind.wrap_i32]
  omega
theorem wrap_v (n : Int) (hK : K (I (w32 n)) st) : CallV Tryz.prog T M 70 [I n] st K Kp := by
  refine fun_ok hmix c_wrap (le_of rfl) ?_
  simp [F_wrap, w64_w32, hK]
theorem row_v (f : Bool) (l : List V) (at_ w : Int) (h1 : 0 ≤ at_ ∧ at_ ≤ 1000000) (h2 : 0 ≤ w ∧ w ≤ 1000000) (h3 : at_ * w + w ≤ l.length) (h4 : ∀ x ∈ l, x.cells.length = 1)
    (hK : ∀ g, K (.lst g ((l.drop (at_ * w).toNat).take w.toNat)) st) : CallV Tryz.prog T M 69 [.lst f l, I at_, I w] st K Kp := by
  refine fun_ok hmix c_row (le_of rfl) ?_
  have e0 : 0 ≤ at_ * w := Int.mul_nonneg h1.1 h2.1
  have e1 : at_ * w ≤ 1000000 * 1000000 := Int.mul_le_mul h1.2 h2.2 h2.1 (by omega)
  have e2 : (at_ + 1) * w = at_ * w + w := by rw [Int.add_mul, Int.one_mul]
  have e3 : (at_ * w + w).toNat - (at_ * w).toNat = w.toNat := by omega
  have e4 : (at_ * w).toNat ≤ (at_ * w + w).toNat := by omega
  have e5 : (at_ * w + w).toNat ≤ l.length := by omega
  simp [F_row, w64 (n := at_ * w) (by omega) (by omega), w64 (n := at_ + 1) (by omega) (by omega), w64 (n := at_ * w + w) (by omega) (by omega), e2, e0, e3, e5, show 0 ≤ at_ * w + w by omega]
  exact ⟨⟨by omega, h4⟩, hK _⟩
theorem dot_v (f g : Bool) (a b : List Int) (h : a.length ≤ b.length) (hl : a.length ≤ 1000000000) (hK : K (I (dotK a b a.length)) st) : CallV Tryz.prog T M 72 [.lst f (ints a), .lst g (ints b)] st K Kp := by
  refine fun_ok hmix c_dot (le_of rfl) ?_
  simp [F_dot]
  refine wp_mloop (fun fr s => ∃ k : Nat, k ≤ a.length ∧ s = st ∧ fr.df = [] ∧ fr.g 0 = .lst f (ints a) ∧ fr.g 1 = .lst g (ints b) ∧ fr.g 8 = I a.length ∧ fr.g 9 = I k ∧ fr.g 5 = I (dotK a b k)) (fun fr _ => a.length - nat (fr.g 9)) ⟨0, by simp [dotK]⟩ ?_
  rintro fr s ⟨k, hk, rfl, hdf, g0, g1, g8, g9, g5⟩
  by_cases hlt : k < a.length
  · have ha := List.getElem?_eq_getElem hlt
    have hb := List.getElem?_eq_getElem (show k < b.length by omega)
    simp [g8, g9, hlt]
    refine wp_mflat [] [] ?_
    simp [g0, g1, g9, g5, ints_get ha, ints_get hb]
    refine wrap_v _ ?_
    simp
    refine wrap_v _ ?_
    simp [g8, hdf, w64 (n := (k : Int) + 1) (by omega) (by omega)]
    refine ⟨⟨k + 1, by omega, by omega, ?_⟩, by omega⟩
    simp [dotK, w32_w64, List.getElem?_eq_getElem hlt, List.getElem?_eq_getElem (show k < b.length by omega)]
  · obtain rfl : k = a.length := by omega
    simp [g8, g9, g5, hdf]
    exact hK
end
end Go.Proofs.YtneabpgphjcbkaaGreatDoor.Vm

namespace Go.Proofs.YtneabpgphjcbkaaGreatDoor.Vm
open Go.RowKit

def F_below : FnM := FnM.mk 16 (MC.seq (MC.lst [MO.mk 0 false (some 4) none (MOp.mv (Od.c (V.val (Value.int IntKind.i64 0))))]) (MC.seq (MC.seq (MC.lst [MO.mk 0 false (some 5) none (MOp.mv (Od.t 1)), MO.mk 1 false (some 6) none (MOp.bin BinOp.lss (Od.t 5) (Od.c (V.val (Value.int IntKind.i64 1))))]) (MC.cond (Od.t 6) (MC.seq (MC.lst [MO.mk 0 false (some 4) none (MOp.mv (Od.c (V.val (Value.int IntKind.i64 0))))]) MC.ret) MC.skip)) (MC.seq (MC.lst [MO.mk 0 false (some 7) none (MOp.mv (Od.t 0)), MO.mk 1 false (some 8) none (MOp.mv (Od.t 1)), MO.mk 2 false (some 9) none (MOp.bin BinOp.rem (Od.t 7) (Od.t 8)), MO.mk 3 false (some 0) none (MOp.mv (Od.t 9))]) (MC.seq (MC.seq (MC.lst [MO.mk 0 false (some 10) none (MOp.mv (Od.t 0)), MO.mk 1 false (some 11) none (MOp.bin BinOp.lss (Od.t 10) (Od.c (V.val (Value.int IntKind.i64 0))))]) (MC.cond (Od.t 11) (MC.lst [MO.mk 0 false (some 12) none (MOp.mv (Od.t 0)), MO.mk 1 false (some 13) none (MOp.mv (Od.t 1)), MO.mk 2 false (some 14) none (MOp.bin BinOp.add (Od.t 12) (Od.t 13)), MO.mk 3 false (some 0) none (MOp.mv (Od.t 14))]) MC.skip)) (MC.seq (MC.lst [MO.mk 0 false (some 15) none (MOp.mv (Od.t 0)), MO.mk 1 false (some 4) none (MOp.mv (Od.t 15))]) MC.ret))))) [RV.t 4]
theorem c_below : compF Tryz.prog 17 = some F_below := by kernel_rfl
def F_next : FnM := FnM.mk 64 (MC.seq (MC.lst [MO.mk 0 false (some 4) none (MOp.mv (Od.c (V.val (Value.int IntKind.i64 0))))]) (MC.seq (MC.lst [MO.mk 0 false (some 7) none (MOp.mv (Od.t 0)), MO.mk 1 false (some 8) none (MOp.nilck (Od.t 7)), MO.mk 2 false (some 9) none (MOp.fadr 1 (Od.t 8)), MO.mk 3 false (some 10) none (MOp.load false 1 (Od.t 9)), MO.mk 4 false (some 11) none (MOp.bin BinOp.add (Od.t 10) (Od.c (V.val (Value.int IntKind.i64 1)))), MO.mk 5 false (some 12) none (MOp.nilck (Od.t 7)), MO.mk 6 false (some 13) none (MOp.fadr 1 (Od.t 12)), MO.mk 7 false none none (MOp.store 1 (Od.t 13) (Od.t 11))]) (MC.seq (MC.seq (MC.lst [MO.mk 0 false (some 14) none (MOp.mv (Od.t 0)), MO.mk 1 false (some 15) none (MOp.nilck (Od.t 14)), MO.mk 2 false (some 16) none (MOp.fadr 0 (Od.t 15)), MO.mk 3 false (some 17) none (MOp.load false 1 (Od.t 16)), MO.mk 4 false (some 18) none (MOp.len (Od.t 17)), MO.mk 5 false (some 19) none (MOp.bin BinOp.eql (Od.t 18) (Od.c (V.val (Value.int IntKind.i64 0))))]) (MC.cond (Od.t 19) (MC.seq (MC.lst [MO.mk 0 false (some 20) none (MOp.mv (Od.t 0)), MO.mk 1 false (some 21) none (MOp.nilck (Od.t 20)), MO.mk 2 false (some 22) none (MOp.fadr 1 (Od.t 21)), MO.mk 3 false (some 23) none (MOp.load false 1 (Od.t 22)), MO.mk 4 false (some 24) none (MOp.bin BinOp.mul (Od.t 23) (Od.c (V.val (Value.int IntKind.i64 7919)))), MO.mk 5 false (some 25) none (MOp.mv (Od.t 1)), MO.mk 6 false (some 26) none (MOp.call 17 [Od.t 24, Od.t 25]), MO.mk 7 false (some 4) none (MOp.mv (Od.t 26))]) MC.ret) MC.skip)) (MC.seq (MC.flat [MO.mk 0 true (some 27) none (MOp.mv (Od.t 0)), MO.mk 1 true (some 28) none (MOp.nilck (Od.t 27)), MO.mk 2 true (some 29) none (MOp.fadr 1 (Od.t 28)), MO.mk 3 true (some 30) none (MOp.load false 1 (Od.t 29)), MO.mk 4 true (some 31) none (MOp.bin BinOp.sub (Od.t 30) (Od.c (V.val (Value.int IntKind.i64 1)))), MO.mk 5 true (some 32) none (MOp.mv (Od.t 0)), MO.mk 6 true (some 33) none (MOp.nilck (Od.t 32)), MO.mk 7 true (some 34) none (MOp.fadr 0 (Od.t 33)), MO.mk 8 true (some 35) none (MOp.load false 1 (Od.t 34)), MO.mk 9 true (some 36) none (MOp.len (Od.t 35)), MO.mk 10 true (some 37) none (MOp.bin BinOp.rem (Od.t 31) (Od.t 36)), MO.mk 11 true (some 5) none (MOp.mv (Od.t 37))]) (MC.seq (MC.flat [MO.mk 0 true (some 38) none (MOp.mv (Od.t 0)), MO.mk 1 true (some 39) none (MOp.nilck (Od.t 38)), MO.mk 2 true (some 40) none (MOp.fadr 1 (Od.t 39)), MO.mk 3 true (some 41) none (MOp.load false 1 (Od.t 40)), MO.mk 4 true (some 42) none (MOp.bin BinOp.sub (Od.t 41) (Od.c (V.val (Value.int IntKind.i64 1)))), MO.mk 5 true (some 43) none (MOp.mv (Od.t 0)), MO.mk 6 true (some 44) none (MOp.nilck (Od.t 43)), MO.mk 7 true (some 45) none (MOp.fadr 0 (Od.t 44)), MO.mk 8 true (some 46) none (MOp.load false 1 (Od.t 45)), MO.mk 9 true (some 47) none (MOp.len (Od.t 46)), MO.mk 10 true (some 48) none (MOp.bin BinOp.quo (Od.t 42) (Od.t 47)), MO.mk 11 true (some 6) none (MOp.mv (Od.t 48))]) (MC.seq (MC.lst [MO.mk 0 false (some 49) none (MOp.mv (Od.t 0)), MO.mk 1 false (some 50) none (MOp.nilck (Od.t 49)), MO.mk 2 false (some 51) none (MOp.fadr 0 (Od.t 50)), MO.mk 3 false (some 52) none (MOp.load false 1 (Od.t 51)), MO.mk 4 false (some 53) none (MOp.mv (Od.t 5)), MO.mk 5 false (some 54) none (MOp.iadr 1 (Od.t 52) (Od.t 53)), MO.mk 6 false (some 55) none (MOp.load false 1 (Od.t 54)), MO.mk 7 false (some 56) none (MOp.call 17 [Od.t 55, Od.c (V.val (Value.int IntKind.i64 1073741824))]), MO.mk 8 false (some 57) none (MOp.mv (Od.t 6)), MO.mk 9 false (some 58) none (MOp.mv (Od.t 5)), MO.mk 10 false (some 59) none (MOp.bin BinOp.add (Od.c (V.val (Value.int IntKind.i64 7919))) (Od.t 58)), MO.mk 11 false (some 60) none (MOp.bin BinOp.mul (Od.t 57) (Od.t 59)), MO.mk 12 false (some 61) none (MOp.bin BinOp.add (Od.t 56) (Od.t 60)), MO.mk 13 false (some 62) none (MOp.mv (Od.t 1)), MO.mk 14 false (some 63) none (MOp.call 17 [Od.t 61, Od.t 62]), MO.mk 15 false (some 4) none (MOp.mv (Od.t 63))]) MC.ret)))))) [RV.t 4]
theorem c_next : compF Tryz.prog 26 = some F_next := by kernel_rfl
def F_range : FnM := FnM.mk 19 (MC.seq (MC.lst [MO.mk 0 false (some 6) none (MOp.mv (Od.c (V.val (Value.int IntKind.i64 0))))]) (MC.seq (MC.seq (MC.lst [MO.mk 0 false (some 7) none (MOp.mv (Od.t 2)), MO.mk 1 false (some 8) none (MOp.mv (Od.t 1)), MO.mk 2 false (some 9) none (MOp.bin BinOp.lss (Od.t 7) (Od.t 8))]) (MC.cond (Od.t 9) (MC.seq (MC.lst [MO.mk 0 false (some 10) none (MOp.mv (Od.t 1)), MO.mk 1 false (some 6) none (MOp.mv (Od.t 10))]) MC.ret) MC.skip)) (MC.seq (MC.lst [MO.mk 0 false (some 11) none (MOp.mv (Od.t 1)), MO.mk 1 false (some 12) none (MOp.mv (Od.t 0)), MO.mk 2 false (some 13) none (MOp.mv (Od.t 2)), MO.mk 3 false (some 14) none (MOp.mv (Od.t 1)), MO.mk 4 false (some 15) none (MOp.bin BinOp.sub (Od.t 13) (Od.t 14)), MO.mk 5 false (some 16) none (MOp.bin BinOp.add (Od.t 15) (Od.c (V.val (Value.int IntKind.i64 1)))), MO.mk 6 false (some 17) none (MOp.call 26 [Od.t 12, Od.t 16]), MO.mk 7 false (some 18) none (MOp.bin BinOp.add (Od.t 11) (Od.t 17)), MO.mk 8 false (some 6) none (MOp.mv (Od.t 18))]) MC.ret))) [RV.t 6]
theorem c_range : compF Tryz.prog 27 = some F_range := by kernel_rfl
def F_flip : FnM := FnM.mk 9 (MC.seq (MC.lst [MO.mk 0 false (some 4) none (MOp.mv (Od.c (V.val (Value.bool false))))]) (MC.seq (MC.lst [MO.mk 0 false (some 5) none (MOp.mv (Od.t 0)), MO.mk 1 false (some 6) none (MOp.mv (Od.t 1)), MO.mk 2 false (some 7) none (MOp.call 26 [Od.t 5, Od.t 6]), MO.mk 3 false (some 8) none (MOp.bin BinOp.eql (Od.t 7) (Od.c (V.val (Value.int IntKind.i64 0)))), MO.mk 4 false (some 4) none (MOp.mv (Od.t 8))]) MC.ret)) [RV.t 4]
theorem c_flip : compF Tryz.prog 16 = some F_flip := by kernel_rfl
def F_pick : FnM := FnM.mk 12 (MC.seq (MC.lst [MO.mk 0 false (some 4) none (MOp.mv (Od.c (V.val (Value.int IntKind.i64 0))))]) (MC.seq (MC.lst [MO.mk 0 false (some 5) none (MOp.mv (Od.t 1)), MO.mk 1 false (some 6) none (MOp.mv (Od.t 0)), MO.mk 2 false (some 7) none (MOp.mv (Od.t 1)), MO.mk 3 false (some 8) none (MOp.len (Od.t 7)), MO.mk 4 false (some 9) none (MOp.call 26 [Od.t 6, Od.t 8]), MO.mk 5 false (some 10) none (MOp.iadr 1 (Od.t 5) (Od.t 9)), MO.mk 6 false (some 11) none (MOp.load false 1 (Od.t 10)), MO.mk 7 false (some 4) none (MOp.mv (Od.t 11))]) MC.ret)) [RV.t 4]
theorem c_pick : compF Tryz.prog 28 = some F_pick := by kernel_rfl
end Go.Proofs.YtneabpgphjcbkaaGreatDoor.Vm

namespace Go.Proofs.YtneabpgphjcbkaaGreatDoor.Vm
open Go.RowKit

/-- the block of a stream -/
def strm (f : Bool) (xs : List Int) (a : Int) : Blk := .row 25 2 [.agg [.lst f (ints xs), I a]]
section
variable {T : Tbl} {M : Nat → Bool} {st : St} {K : V → St → Prop} {Kp : List PanicEntry → St → Prop}
theorem below_v (x n : Int) (_hx : -9223372036854775808 ≤ x ∧ x ≤ 9223372036854775807) (hn : n ≤ 9223372036854775807) (hK : ∀ r, (n < 1 → r = 0) → (1 ≤ n → 0 ≤ r ∧ r < n) → K (I r) st) : CallV Tryz.prog T M 17 [I x, I n] st K Kp := by
  refine fun_ok hmix c_below (le_of rfl) ?_
  by_cases h : n < 1
  · simp [F_below, h]
    exact hK 0 (fun _ => rfl) (by omega)
  · have h0 : n ≠ 0 := by omega
    have hr := Int.tmod_lt_of_pos x (show 0 < n by omega)
    have hr2 : -n < x.tmod n := by
      have := Int.lt_tmod_of_pos x (show 0 < n by omega)
      exact this
    by_cases h2 : x.tmod n < 0
    · simp [F_below, h, h0, h2, w64 (n := x.tmod n + n) (by omega) (by omega)]
      exact hK _ (by omega) (by omega)
    · simp [F_below, h, h0, h2]
      exact hK _ (by omega) (by omega)
set_option maxRecDepth 10000 in
theorem next_v (s : Nat) (f : Bool) (xs : List Int) (a n : Int) (hs : st[s]? = some (strm f xs a)) (hM : M s = true) (hxs : xs.length ≤ 9223372036854775807) (hin : ∀ x ∈ xs, -9223372036854775808 ≤ x ∧ x ≤ 9223372036854775807) (ha : 0 ≤ a ∧ a ≤ 1000000000) (hn : n ≤ 9223372036854775807)
    (hK : ∀ r, (n < 1 → r = 0) → (1 ≤ n → 0 ≤ r ∧ r < n) → K (I r) (st.set s (strm f xs (a + 1)))) : CallV Tryz.prog T M 26 [.ptr s 1 0 0, I n] st K Kp := by
  have hg : ∀ x, (st.set s x)[s]? = some x := fun x => List.getElem?_set_self (List.getElem?_eq_some_iff.1 hs).1
  have hM' := upM_of (n := st.length) hM
  refine fun_ok hmix c_next (le_of rfl) ?_
  by_cases h : xs.length = 0
  · simp [F_next, hs, strm, hM', w64 (n := a + 1) (by omega) (by omega), hg, h, w64 (n := (a + 1) * 7919) (by omega) (by omega)]
    refine below_v _ _ (by omega) hn fun r h1 h2 => ?_
    simpa [strm] using hK r h1 h2
  · have h0 : (xs.length : Int) ≠ 0 := by omega
    have hz : ((xs.length : Int) == 0) = false := by simpa using h0
    have hq : 0 ≤ a.tmod xs.length := Int.tmod_nonneg _ ha.1
    have hq2 : a.tmod xs.length < xs.length := Int.tmod_lt_of_pos _ (by omega)
    have hd : 0 ≤ a.tdiv xs.length := Int.tdiv_nonneg ha.1 (by omega)
    have hd2 : a.tdiv xs.length ≤ a := Int.tdiv_le_self _ ha.1
    simp [F_next, hs, strm, hM', w64 (n := a + 1) (by omega) (by omega), hg, hz]
    refine wp_mflat [] [] ?_
    simp [hg, h, w64 (n := a) (by omega) (by omega)]
    refine wp_mflat [] [] ?_
    simp [hg, h, w64 (n := a) (by omega) (by omega), w64 (n := a.tdiv xs.length) (by omega) (by omega)]
    have hi : (a.tmod xs.length).toNat < xs.length := by omega
    have hb := hin _ (List.getElem_mem hi)
    have hm0 : 0 ≤ a.tdiv xs.length * (7919 + a.tmod xs.length) := Int.mul_nonneg hd (by omega)
    have hm2 : a.tmod xs.length ≤ a := by
      have h3 := Int.mul_tdiv_add_tmod a xs.length
      have h4 : 0 ≤ (xs.length : Int) * a.tdiv xs.length := Int.mul_nonneg (by omega) hd
      omega
    have hm1 : a.tdiv xs.length * (7919 + a.tmod xs.length) ≤ 1000000000 * 1000007919 := Int.mul_le_mul (by omega) (by omega) (by omega) (by omega)
    simp [hq, ints_get (List.getElem?_eq_getElem hi)]
    refine below_v _ _ hb (by omega) fun r h1 h2 => ?_
    have h2' := h2 (by omega)
    simp [w64 (n := 7919 + a.tmod xs.length) (by omega) (by omega), w64 (n := a.tdiv xs.length * (7919 + a.tmod xs.length)) (by omega) (by omega), w64 (n := r + a.tdiv xs.length * (7919 + a.tmod xs.length)) (by omega) (by omega)]
    refine below_v _ _ (by omega) hn fun r2 h3 h4 => ?_
    simpa [strm] using hK r2 h3 h4
theorem range_v (s : Nat) (f : Bool) (xs : List Int) (a lo hi : Int) (hs : st[s]? = some (strm f xs a)) (hM : M s = true) (hxs : xs.length ≤ 9223372036854775807) (hin : ∀ x ∈ xs, -9223372036854775808 ≤ x ∧ x ≤ 9223372036854775807) (ha : 0 ≤ a ∧ a ≤ 1000000000) (hlo : -1000000000000 ≤ lo) (hhi : hi ≤ 1000000000000) (hle : lo ≤ hi)
    (hK : ∀ r, lo ≤ r → r ≤ hi → K (I r) (st.set s (strm f xs (a + 1)))) : CallV Tryz.prog T M 27 [.ptr s 1 0 0, I lo, I hi] st K Kp := by
  refine fun_ok hmix c_range (le_of rfl) ?_
  have h0 : ¬ hi < lo := by omega
  simp [F_range, h0, w64 (n := hi - lo) (by omega) (by omega), w64 (n := hi - lo + 1) (by omega) (by omega)]
  refine next_v s f xs a _ hs (upM_of hM) hxs hin ha (by omega) fun r h1 h2 => ?_
  simp [w64 (n := lo + r) (by omega) (by omega)]
  exact hK _ (by omega) (by omega)
theorem flip_v (s : Nat) (f : Bool) (xs : List Int) (a n : Int) (hs : st[s]? = some (strm f xs a)) (hM : M s = true) (hxs : xs.length ≤ 9223372036854775807) (hin : ∀ x ∈ xs, -9223372036854775808 ≤ x ∧ x ≤ 9223372036854775807) (ha : 0 ≤ a ∧ a ≤ 1000000000) (hn : n ≤ 1000000)
    (hK : ∀ b, K (Bo b) (st.set s (strm f xs (a + 1)))) : CallV Tryz.prog T M 16 [.ptr s 1 0 0, I n] st K Kp := by
  refine fun_ok hmix c_flip (le_of rfl) ?_
  simp [F_flip]
  refine next_v s f xs a _ hs (upM_of hM) hxs hin ha (by omega) fun r h1 h2 => ?_
  simpa using hK _
theorem pick_v (s : Nat) (f g : Bool) (xs l : List Int) (a : Int) (hs : st[s]? = some (strm f xs a)) (hM : M s = true) (hxs : xs.length ≤ 9223372036854775807) (hin : ∀ x ∈ xs, -9223372036854775808 ≤ x ∧ x ≤ 9223372036854775807) (ha : 0 ≤ a ∧ a ≤ 1000000000) (hl : 0 < l.length ∧ l.length ≤ 1000)
    (hK : ∀ x ∈ l, K (I x) (st.set s (strm f xs (a + 1)))) : CallV Tryz.prog T M 28 [.ptr s 1 0 0, .lst g (ints l)] st K Kp := by
  refine fun_ok hmix c_pick (le_of rfl) ?_
  simp [F_pick]
  refine next_v s f xs a _ hs (upM_of hM) hxs hin ha (by omega) fun r h1 h2 => ?_
  have hr : r.toNat < l.length := by omega
  simp [ints_get (List.getElem?_eq_getElem hr), show 0 ≤ r by omega]
  exact hK _ (List.getElem_mem hr)
end
end Go.Proofs.YtneabpgphjcbkaaGreatDoor.Vm

namespace Go.Proofs.YtneabpgphjcbkaaGreatDoor.Vm
open Go.RowKit

def F_sbytes : FnM := FnM.mk 24 (MC.seq (MC.lst [MO.mk 0 false (some 4) none (MOp.mv (Od.c (V.lst true [])))]) (MC.seq (MC.lst [MO.mk 0 false (some 5) none (MOp.mv (Od.c (V.lst true [])))]) (MC.seq (MC.seq (MC.lst [MO.mk 0 false (some 6) none (MOp.mv (Od.t 1)), MO.mk 1 false (some 7) none (MOp.mv (Od.c (V.val (Value.int IntKind.i64 0))))]) (MC.block 0 (MC.loop (MC.seq (MC.lst [MO.mk 0 false (some 8) none (MOp.bin BinOp.lss (Od.t 7) (Od.t 6))]) (MC.seq (MC.cond (Od.t 8) MC.skip (MC.exit 0)) (MC.seq (MC.block 1 (MC.seq (MC.lst [MO.mk 0 false (some 9) none (MOp.mv (Od.t 0)), MO.mk 1 false (some 10) none (MOp.call 16 [Od.t 9, Od.c (V.val (Value.int IntKind.i64 6))])]) (MC.cond (Od.t 10) (MC.lst [MO.mk 0 false (some 11) none (MOp.mv (Od.t 5)), MO.mk 1 false (some 12) none (MOp.mv (Od.t 0)), MO.mk 2 false (some 13) none (MOp.bsl 3 1 2 (V.val (Value.int IntKind.i64 0)) [(0, Od.c (V.val (Value.int IntKind.i64 (-128)))), (1, Od.c (V.val (Value.int IntKind.i64 127)))]), MO.mk 3 false (some 14) none (MOp.call 28 [Od.t 12, Od.t 13]), MO.mk 4 false (some 15) none (MOp.bsl 3 1 1 (V.val (Value.int IntKind.i64 0)) [(0, Od.t 14)]), MO.mk 5 false (some 16) none (MOp.app 3 1 8 (Od.t 11) (Od.t 15)), MO.mk 6 false (some 5) none (MOp.mv (Od.t 16))]) (MC.lst [MO.mk 0 false (some 17) none (MOp.mv (Od.t 5)), MO.mk 1 false (some 18) none (MOp.mv (Od.t 0)), MO.mk 2 false (some 19) none (MOp.call 27 [Od.t 18, Od.c (V.val (Value.int IntKind.i64 (-9))), Od.c (V.val (Value.int IntKind.i64 9))]), MO.mk 3 false (some 20) none (MOp.bsl 3 1 1 (V.val (Value.int IntKind.i64 0)) [(0, Od.t 19)]), MO.mk 4 false (some 21) none (MOp.app 3 1 8 (Od.t 17) (Od.t 20)), MO.mk 5 false (some 5) none (MOp.mv (Od.t 21))])))) (MC.lst [MO.mk 0 false (some 22) none (MOp.bin BinOp.add (Od.t 7) (Od.c (V.val (Value.int IntKind.i64 1)))), MO.mk 1 false (some 7) none (MOp.mv (Od.t 22))]))))))) (MC.seq (MC.lst [MO.mk 0 false (some 23) none (MOp.mv (Od.t 5)), MO.mk 1 false (some 4) none (MOp.mv (Od.t 23))]) MC.ret)))) [RV.t 4]
theorem c_sbytes : compF Tryz.prog 51 = some F_sbytes := by kernel_rfl
def F_gmodel : FnM := FnM.mk 111 (MC.seq (MC.lst [MO.mk 0 false (some 2) none (MOp.alloc 27 (V.agg [V.val (Value.int IntKind.i64 0), V.val (Value.int IntKind.i64 0), V.val (Value.int IntKind.i64 0), V.val (Value.int IntKind.i64 0), V.lst true [], V.lst true [], V.lst true [], V.lst true [], V.lst true [], V.lst true [], V.lst true []]))]) (MC.seq (MC.lst [MO.mk 0 false (some 5) none (MOp.mv (Od.t 0)), MO.mk 1 false (some 6) none (MOp.call 27 [Od.t 5, Od.c (V.val (Value.int IntKind.i64 1)), Od.c (V.val (Value.int IntKind.i64 3))]), MO.mk 2 false (some 7) none (MOp.mv (Od.t 0)), MO.mk 3 false (some 8) none (MOp.bsl 3 1 5 (V.val (Value.int IntKind.i64 0)) [(0, Od.c (V.val (Value.int IntKind.i64 2))), (1, Od.c (V.val (Value.int IntKind.i64 3))), (2, Od.c (V.val (Value.int IntKind.i64 5))), (3, Od.c (V.val (Value.int IntKind.i64 8))), (4, Od.c (V.val (Value.int IntKind.i64 16)))]), MO.mk 4 false (some 9) none (MOp.call 28 [Od.t 7, Od.t 8]), MO.mk 5 false (some 10) none (MOp.mv (Od.t 0)), MO.mk 6 false (some 11) none (MOp.bsl 3 1 5 (V.val (Value.int IntKind.i64 0)) [(0, Od.c (V.val (Value.int IntKind.i64 1))), (1, Od.c (V.val (Value.int IntKind.i64 2))), (2, Od.c (V.val (Value.int IntKind.i64 3))), (3, Od.c (V.val (Value.int IntKind.i64 4))), (4, Od.c (V.val (Value.int IntKind.i64 5)))]), MO.mk 7 false (some 12) none (MOp.call 28 [Od.t 10, Od.t 11]), MO.mk 8 false (some 13) none (MOp.bld [V.val (Value.int IntKind.i64 0), V.val (Value.int IntKind.i64 0), V.val (Value.int IntKind.i64 0), V.val (Value.int IntKind.i64 0), V.lst true [], V.lst true [], V.lst true [], V.lst true [], V.lst true [], V.lst true [], V.lst true []] [(0, 1, Od.t 6), (1, 1, Od.t 9), (2, 1, Od.t 12)]), MO.mk 9 false (some 3) none (MOp.alloc 27 (V.agg [V.val (Value.int IntKind.i64 0), V.val (Value.int IntKind.i64 0), V.val (Value.int IntKind.i64 0), V.val (Value.int IntKind.i64 0), V.lst true [], V.lst true [], V.lst true [], V.lst true [], V.lst true [], V.lst true [], V.lst true []])), MO.mk 10 false none none (MOp.store 11 (Od.t 3) (Od.t 13))]) (MC.seq (MC.lst [MO.mk 0 false (some 14) none (MOp.mv (Od.t 0)), MO.mk 1 false (some 15) none (MOp.fadr 1 (Od.t 3)), MO.mk 2 false (some 16) none (MOp.load false 1 (Od.t 15)), MO.mk 3 false (some 17) none (MOp.call 27 [Od.t 14, Od.c (V.val (Value.int IntKind.i64 1)), Od.t 16]), MO.mk 4 false (some 18) none (MOp.fadr 3 (Od.t 3)), MO.mk 5 false none none (MOp.store 1 (Od.t 18) (Od.t 17))]) (MC.seq (MC.seq (MC.lst [MO.mk 0 false (some 19) none (MOp.mv (Od.t 0)), MO.mk 1 false (some 20) none (MOp.call 16 [Od.t 19, Od.c (V.val (Value.int IntKind.i64 2))])]) (MC.cond (Od.t 20) (MC.lst [MO.mk 0 false (some 21) none (MOp.fadr 1 (Od.t 3)), MO.mk 1 false (some 22) none (MOp.load false 1 (Od.t 21)), MO.mk 2 false (some 23) none (MOp.fadr 3 (Od.t 3)), MO.mk 3 false none none (MOp.store 1 (Od.t 23) (Od.t 22))]) MC.skip)) (MC.seq (MC.seq (MC.lst [MO.mk 0 false (some 24) none (MOp.mv (Od.c (V.val (Value.int IntKind.i64 0))))]) (MC.block 0 (MC.loop (MC.seq (MC.lst [MO.mk 0 false (some 25) none (MOp.bin BinOp.lss (Od.t 24) (Od.c (V.val (Value.int IntKind.i64 4))))]) (MC.seq (MC.cond (Od.t 25) MC.skip (MC.exit 0)) (MC.seq (MC.block 1 (MC.tail [MO.mk 0 true (some 26) none (MOp.fadr 4 (Od.t 3)), MO.mk 1 true (some 27) none (MOp.load false 1 (Od.t 26)), MO.mk 2 true (some 28) none (MOp.mv (Od.t 0)), MO.mk 3 false (some 29) none (MOp.bsl 3 1 7 (V.val (Value.int IntKind.i64 0)) [(0, Od.c (V.val (Value.int IntKind.i64 1))), (1, Od.c (V.val (Value.int IntKind.i64 1))), (2, Od.c (V.val (Value.int IntKind.i64 2))), (3, Od.c (V.val (Value.int IntKind.i64 3))), (4, Od.c (V.val (Value.int IntKind.i64 5))), (5, Od.c (V.val (Value.int IntKind.i64 8))), (6, Od.c (V.val (Value.int IntKind.i64 15)))]), MO.mk 4 false (some 30) none (MOp.call 28 [Od.t 28, Od.t 29]), MO.mk 5 false (some 31) none (MOp.bsl 3 1 1 (V.val (Value.int IntKind.i64 0)) [(0, Od.t 30)]), MO.mk 6 false (some 32) none (MOp.app 3 1 8 (Od.t 27) (Od.t 31)), MO.mk 7 true (some 33) none (MOp.fadr 4 (Od.t 3))] [MO.mk 8 false none none (MOp.store 1 (Od.t 33) (Od.t 32))])) (MC.lst [MO.mk 0 false (some 34) none (MOp.bin BinOp.add (Od.t 24) (Od.c (V.val (Value.int IntKind.i64 1)))), MO.mk 1 false (some 24) none (MOp.mv (Od.t 34))]))))))) (MC.seq (MC.lst [MO.mk 0 false (some 4) none (MOp.mv (Od.c (V.val (Value.int IntKind.i64 3))))]) (MC.seq (MC.seq (MC.lst [MO.mk 0 false (some 35) none (MOp.fadr 0 (Od.t 3)), MO.mk 1 false (some 36) none (MOp.load false 1 (Od.t 35))]) (MC.block 2 (MC.seq (MC.lst [MO.mk 0 false (some 38) none (MOp.bin BinOp.eql (Od.t 36) (Od.c (V.val (Value.int IntKind.i64 2)))), MO.mk 1 false (some 37) none (MOp.mv (Od.t 38))]) (MC.cond (Od.t 37) (MC.lst [MO.mk 0 false (some 4) none (MOp.mv (Od.c (V.val (Value.int IntKind.i64 2))))]) (MC.seq (MC.lst [MO.mk 0 false (some 40) none (MOp.bin BinOp.eql (Od.t 36) (Od.c (V.val (Value.int IntKind.i64 3)))), MO.mk 1 false (some 39) none (MOp.mv (Od.t 40))]) (MC.cond (Od.t 39) (MC.lst [MO.mk 0 false (some 41) none (MOp.mv (Od.t 0)), MO.mk 1 false (some 42) none (MOp.call 27 [Od.t 41, Od.c (V.val (Value.int IntKind.i64 1)), Od.c (V.val (Value.int IntKind.i64 4))]), MO.mk 2 false (some 4) none (MOp.mv (Od.t 42))]) MC.skip)))))) (MC.seq (MC.tail [MO.mk 0 true (some 43) none (MOp.mv (Od.t 0)), MO.mk 1 true (some 44) none (MOp.fadr 1 (Od.t 3)), MO.mk 2 true (some 45) none (MOp.load false 1 (Od.t 44)), MO.mk 3 true (some 46) none (MOp.fadr 2 (Od.t 3)), MO.mk 4 true (some 47) none (MOp.load false 1 (Od.t 46)), MO.mk 5 true (some 48) none (MOp.bin BinOp.mul (Od.t 45) (Od.t 47)), MO.mk 7 true (some 50) none (MOp.mv (Od.t 0)), MO.mk 8 true (some 51) none (MOp.fadr 1 (Od.t 3)), MO.mk 9 true (some 52) none (MOp.load false 1 (Od.t 51)), MO.mk 10 true (some 53) none (MOp.fadr 2 (Od.t 3)), MO.mk 11 true (some 54) none (MOp.load false 1 (Od.t 53)), MO.mk 12 true (some 55) none (MOp.bin BinOp.mul (Od.t 52) (Od.t 54)), MO.mk 6 false (some 49) none (MOp.call 51 [Od.t 43, Od.t 48]), MO.mk 14 true (some 57) none (MOp.fadr 5 (Od.t 3)), MO.mk 13 false (some 56) none (MOp.call 51 [Od.t 50, Od.t 55]), MO.mk 15 false none none (MOp.store 1 (Od.t 57) (Od.t 49)), MO.mk 16 true (some 58) none (MOp.fadr 8 (Od.t 3))] [MO.mk 17 false none none (MOp.store 1 (Od.t 58) (Od.t 56))]) (MC.seq (MC.tail [MO.mk 0 true (some 59) none (MOp.mv (Od.t 0)), MO.mk 1 true (some 60) none (MOp.mv (Od.t 0)), MO.mk 4 true (some 63) none (MOp.fadr 2 (Od.t 3)), MO.mk 5 true (some 64) none (MOp.load false 1 (Od.t 63)), MO.mk 8 true (some 67) none (MOp.mv (Od.t 0)), MO.mk 9 true (some 68) none (MOp.mv (Od.t 4)), MO.mk 10 true (some 69) none (MOp.fadr 2 (Od.t 3)), MO.mk 11 true (some 70) none (MOp.load false 1 (Od.t 69)), MO.mk 12 true (some 71) none (MOp.bin BinOp.mul (Od.t 68) (Od.t 70)), MO.mk 13 true (some 72) none (MOp.fadr 2 (Od.t 3)), MO.mk 14 true (some 73) none (MOp.load false 1 (Od.t 72)), MO.mk 15 true (some 74) none (MOp.bin BinOp.mul (Od.t 71) (Od.t 73)), MO.mk 2 false (some 61) none (MOp.bsl 3 1 4 (V.val (Value.int IntKind.i64 0)) [(0, Od.c (V.val (Value.int IntKind.i64 1))), (1, Od.c (V.val (Value.int IntKind.i64 2))), (2, Od.c (V.val (Value.int IntKind.i64 4))), (3, Od.c (V.val (Value.int IntKind.i64 16)))]), MO.mk 3 false (some 62) none (MOp.call 28 [Od.t 60, Od.t 61]), MO.mk 6 false (some 65) none (MOp.bin BinOp.mul (Od.t 62) (Od.t 64)), MO.mk 7 false (some 66) none (MOp.call 51 [Od.t 59, Od.t 65]), MO.mk 17 true (some 76) none (MOp.fadr 6 (Od.t 3)), MO.mk 16 false (some 75) none (MOp.call 51 [Od.t 67, Od.t 74]), MO.mk 18 false none none (MOp.store 1 (Od.t 76) (Od.t 66)), MO.mk 19 true (some 77) none (MOp.fadr 7 (Od.t 3))] [MO.mk 20 false none none (MOp.store 1 (Od.t 77) (Od.t 75))]) (MC.seq (MC.seq (MC.lst [MO.mk 0 false (some 78) none (MOp.mv (Od.t 0)), MO.mk 1 false (some 79) none (MOp.bsl 3 1 4 (V.val (Value.int IntKind.i64 0)) [(0, Od.c (V.val (Value.int IntKind.i64 1))), (1, Od.c (V.val (Value.int IntKind.i64 2))), (2, Od.c (V.val (Value.int IntKind.i64 5))), (3, Od.c (V.val (Value.int IntKind.i64 64)))]), MO.mk 2 false (some 80) none (MOp.call 28 [Od.t 78, Od.t 79]), MO.mk 3 false (some 81) none (MOp.mv (Od.c (V.val (Value.int IntKind.i64 0))))]) (MC.block 3 (MC.loop (MC.seq (MC.lst [MO.mk 0 false (some 82) none (MOp.bin BinOp.lss (Od.t 81) (Od.t 80))]) (MC.seq (MC.cond (Od.t 82) MC.skip (MC.exit 3)) (MC.seq (MC.block 4 (MC.tail [MO.mk 0 true (some 83) none (MOp.fadr 9 (Od.t 3)), MO.mk 1 true (some 84) none (MOp.load false 1 (Od.t 83)), MO.mk 2 true (some 85) none (MOp.mv (Od.t 0)), MO.mk 3 false (some 86) none (MOp.bsl 3 1 5 (V.val (Value.int IntKind.i64 0)) [(0, Od.c (V.val (Value.int IntKind.i64 0))), (1, Od.c (V.val (Value.int IntKind.i64 1))), (2, Od.c (V.val (Value.int IntKind.i64 8))), (3, Od.c (V.val (Value.int IntKind.i64 64))), (4, Od.c (V.val (Value.int IntKind.i64 1000)))]), MO.mk 4 false (some 87) none (MOp.call 28 [Od.t 85, Od.t 86]), MO.mk 5 false (some 88) none (MOp.bsl 3 1 1 (V.val (Value.int IntKind.i64 0)) [(0, Od.t 87)]), MO.mk 6 false (some 89) none (MOp.app 3 1 8 (Od.t 84) (Od.t 88)), MO.mk 7 true (some 90) none (MOp.fadr 9 (Od.t 3))] [MO.mk 8 false none none (MOp.store 1 (Od.t 90) (Od.t 89))])) (MC.lst [MO.mk 0 false (some 91) none (MOp.bin BinOp.add (Od.t 81) (Od.c (V.val (Value.int IntKind.i64 1)))), MO.mk 1 false (some 81) none (MOp.mv (Od.t 91))]))))))) (MC.seq (MC.lst [MO.mk 0 false (some 92) none (MOp.mv (Od.t 0)), MO.mk 1 false (some 93) none (MOp.call 27 [Od.t 92, Od.c (V.val (Value.int IntKind.i64 1)), Od.c (V.val (Value.int IntKind.i64 40))]), MO.mk 2 false (some 94) none (MOp.bsl 3 1 1 (V.val (Value.int IntKind.i64 0)) [(0, Od.t 93)]), MO.mk 3 false (some 95) none (MOp.fadr 10 (Od.t 3)), MO.mk 4 false none none (MOp.store 1 (Od.t 95) (Od.t 94))]) (MC.seq (MC.seq (MC.lst [MO.mk 0 false (some 96) none (MOp.mv (Od.t 0)), MO.mk 1 false (some 97) none (MOp.bsl 3 1 4 (V.val (Value.int IntKind.i64 0)) [(0, Od.c (V.val (Value.int IntKind.i64 0))), (1, Od.c (V.val (Value.int IntKind.i64 1))), (2, Od.c (V.val (Value.int IntKind.i64 4))), (3, Od.c (V.val (Value.int IntKind.i64 63)))]), MO.mk 2 false (some 98) none (MOp.call 28 [Od.t 96, Od.t 97]), MO.mk 3 false (some 99) none (MOp.mv (Od.c (V.val (Value.int IntKind.i64 0))))]) (MC.block 5 (MC.loop (MC.seq (MC.lst [MO.mk 0 false (some 100) none (MOp.bin BinOp.lss (Od.t 99) (Od.t 98))]) (MC.seq (MC.cond (Od.t 100) MC.skip (MC.exit 5)) (MC.seq (MC.block 6 (MC.tail [MO.mk 0 true (some 101) none (MOp.fadr 10 (Od.t 3)), MO.mk 1 true (some 102) none (MOp.load false 1 (Od.t 101)), MO.mk 2 true (some 103) none (MOp.mv (Od.t 0)), MO.mk 3 false (some 104) none (MOp.bsl 3 1 4 (V.val (Value.int IntKind.i64 0)) [(0, Od.c (V.val (Value.int IntKind.i64 0))), (1, Od.c (V.val (Value.int IntKind.i64 1))), (2, Od.c (V.val (Value.int IntKind.i64 8))), (3, Od.c (V.val (Value.int IntKind.i64 1000)))]), MO.mk 4 false (some 105) none (MOp.call 28 [Od.t 103, Od.t 104]), MO.mk 5 false (some 106) none (MOp.bsl 3 1 1 (V.val (Value.int IntKind.i64 0)) [(0, Od.t 105)]), MO.mk 6 false (some 107) none (MOp.app 3 1 8 (Od.t 102) (Od.t 106)), MO.mk 7 true (some 108) none (MOp.fadr 10 (Od.t 3))] [MO.mk 8 false none none (MOp.store 1 (Od.t 108) (Od.t 107))])) (MC.lst [MO.mk 0 false (some 109) none (MOp.bin BinOp.add (Od.t 99) (Od.c (V.val (Value.int IntKind.i64 1)))), MO.mk 1 false (some 99) none (MOp.mv (Od.t 109))]))))))) (MC.seq (MC.lst [MO.mk 0 false (some 110) none (MOp.load true 11 (Od.t 3)), MO.mk 1 false none none (MOp.store 11 (Od.t 2) (Od.t 110))]) MC.ret))))))))))))) [RV.c 2 true 11]
theorem c_gmodel : compF Tryz.prog 21 = some F_gmodel := by kernel_rfl
end Go.Proofs.YtneabpgphjcbkaaGreatDoor.Vm

namespace Go.Proofs.YtneabpgphjcbkaaGreatDoor.Vm
open Go.RowKit

/-- block sb (below n) is a stream at place a; the other blocks below n are as in st -/
structure GS (n sb : Nat) (st s : St) (f : Bool) (xs : List Int) (a : Int) : Prop where
  same : Same n sb st s
  str : s[sb]? = some (strm f xs a)
  hsb : sb < n
  src : xs.length ≤ 9223372036854775807 ∧ ∀ x ∈ xs, -9223372036854775808 ≤ x ∧ x ≤ 9223372036854775807
/-- nothing but block sb is written -/
def But (sb : Nat) (s s' : St) : Prop := s'.length = s.length ∧ ∀ b, b ≠ sb → s'[b]? = s[b]?
theorem But.set (sb : Nat) (s : St) (x : Blk) : But sb s (s.set sb x) := ⟨by simp, fun b hb => List.getElem?_set_ne (Ne.symm hb)⟩
theorem OutS.but {n t k sb : Nat} {s s' : St} {v : V} {l : List V} (h : OutS n t k s v l) (hb : But sb s s') (hn : sb < n) : OutS n t k s' v l := h.keep fun b _ _ _ h1 _ => hb.2 b (by omega)
theorem get_but {sb b : Nat} {s s' : St} {x : Blk} (h : s[b]? = some x) (hb : But sb s s') (hn : b ≠ sb) : s'[b]? = some x := (hb.2 b hn).trans h
section
variable {n sb : Nat} {st s : St} {f : Bool} {xs : List Int} {a : Int} {T : Tbl} {M : Nat → Bool} {K : V → St → Prop} {Kp : List PanicEntry → St → Prop}
theorem GS.next (g : GS n sb st s f xs a) (a' : Int) : GS n sb st (s.set sb (strm f xs a')) f xs a' := ⟨g.same.set (Or.inl rfl) _, get_set g.str _, g.hsb, g.src⟩
theorem GS.more (g : GS n sb st s f xs a) (e : St) : GS n sb st (s ++ e) f xs a := ⟨g.same.more e, get_more g.str e, g.hsb, g.src⟩
theorem GS.set (g : GS n sb st s f xs a) {b : Nat} (hb : n ≤ b) (x : Blk) : GS n sb st (s.set b x) f xs a := ⟨g.same.set (Or.inr hb) x, get_ne g.str (by have := g.hsb; omega) x, g.hsb, g.src⟩
theorem GS.to (g : GS n sb st s f xs a) {s' : St} (hl : s.length ≤ s'.length) (h : ∀ b, b < n → s'[b]? = s[b]?) : GS n sb st s' f xs a := ⟨⟨Nat.le_trans g.same.len hl, fun b h1 h2 => (h b h1).trans (g.same.get b h1 h2)⟩, (h sb g.hsb).trans g.str, g.hsb, g.src⟩
theorem GS.up (g : GS n sb st s f xs a) (M : Nat → Bool) : upM n M s.length = true := by simp [upM, g.same.len]
theorem flip_g (g : GS n sb st s f xs a) (hM : M sb = true) (ha : 0 ≤ a ∧ a ≤ 1000000000) (k : Int) (hk : k ≤ 1000000) (hK : ∀ b s', GS n sb st s' f xs (a + 1) → But sb s s' → K (Bo b) s') : CallV Tryz.prog T M 16 [.ptr sb 1 0 0, I k] s K Kp :=
  flip_v sb f xs a k g.str hM g.src.1 g.src.2 ha hk fun b => hK b _ (g.next _) (But.set _ _ _)
theorem next_g (g : GS n sb st s f xs a) (hM : M sb = true) (ha : 0 ≤ a ∧ a ≤ 1000000000) (k : Int) (hk : 1 ≤ k ∧ k ≤ 1000000) (hK : ∀ r s', 0 ≤ r → r < k → GS n sb st s' f xs (a + 1) → But sb s s' → K (I r) s') : CallV Tryz.prog T M 26 [.ptr sb 1 0 0, I k] s K Kp :=
  next_v sb f xs a k g.str hM g.src.1 g.src.2 ha (by omega) fun r _ h2 => hK r _ (h2 hk.1).1 (h2 hk.1).2 (g.next _) (But.set _ _ _)
theorem range_g (g : GS n sb st s f xs a) (hM : M sb = true) (ha : 0 ≤ a ∧ a ≤ 1000000000) (lo hi : Int) (h1 : -1000000000000 ≤ lo) (h2 : hi ≤ 1000000000000) (h3 : lo ≤ hi) (hK : ∀ r s', lo ≤ r → r ≤ hi → GS n sb st s' f xs (a + 1) → But sb s s' → K (I r) s') : CallV Tryz.prog T M 27 [.ptr sb 1 0 0, I lo, I hi] s K Kp :=
  range_v sb f xs a lo hi g.str hM g.src.1 g.src.2 ha h1 h2 h3 fun r h4 h5 => hK r _ h4 h5 (g.next _) (But.set _ _ _)
/-- one of the numbers of a literal -/
theorem pick_g (g : GS n sb st s f xs a) (hM : M sb = true) (ha : 0 ≤ a ∧ a ≤ 1000000000) {b m : Nat} {l : List Int} (hb : s[b]? = some (.row 3 1 (ints l))) (hbs : b ≠ sb) (hm : l.length = m) (hl : 0 < m ∧ m ≤ 1000) (hK : ∀ x s', x ∈ l → GS n sb st s' f xs (a + 1) → But sb s s' → K (I x) s') :
    CallV Tryz.prog T M 28 [.ptr sb 1 0 0, .own b m 0 m] s K Kp := by
  subst hm
  refine fun_ok hmix c_pick (le_of rfl) ?_
  simp [F_pick, hb]
  refine next_g g (upM_of hM) ha _ (by omega) fun r s' h1 h2 g' hbut => ?_
  have hb' := get_but hb hbut hbs
  have hr : r.toNat < l.length := by omega
  simp [hb', h1, show r < (l.length : Int) by omega]
  simp [ints]
  exact hK _ _ (List.getElem_mem hr) g' hbut
theorem ints_cells (l : List Int) : ∀ x ∈ ints l, ∀ y ∈ x.cells, y.leaf = true ∧ y.pl = true := fun x hx y hy => by
  obtain ⟨z, -, rfl⟩ := List.mem_map.1 hx
  simp at hy
  subst hy
  exact ⟨rfl, rfl⟩
theorem ints_append (l m : List Int) : ints (l ++ m) = ints l ++ ints m := by simp [ints]
def BInv (n s0 m : Nat) (st : St) (f : Bool) (xs : List Int) (a : Int) (fr : Fr) (s : St) : Prop :=
  ∃ (k : Nat) (l : List Int) (a' : Int), k ≤ m ∧ l.length = k ∧ (∀ x ∈ l, -128 ≤ x ∧ x ≤ 127) ∧ a ≤ a' ∧ a' ≤ a + 2 * k ∧ GS n s0 st s f xs a' ∧ OutS n 3 1 s (fr.g 5) (ints l) ∧ fr.df = [] ∧ fr.g 0 = .ptr s0 1 0 0 ∧ fr.g 6 = I m ∧ fr.g 7 = I k
theorem sbytes_v (s0 : Nat) (m : Nat) (hm : m ≤ 400) (hs : st[s0]? = some (strm f xs a)) (hM : M s0 = true) (src : xs.length ≤ 9223372036854775807 ∧ ∀ x ∈ xs, -9223372036854775808 ≤ x ∧ x ≤ 9223372036854775807) (ha : 0 ≤ a ∧ a ≤ 100000000)
    (hK : ∀ g l a', l.length = m → (∀ x ∈ l, -128 ≤ x ∧ x ≤ 127) → a ≤ a' → a' ≤ a + 2 * m → K (.lst g (ints l)) (st.set s0 (strm f xs a'))) : CallV Tryz.prog T M 51 [.ptr s0 1 0 0, I m] st K Kp := by
  have hlt : s0 < st.length := (List.getElem?_eq_some_iff.1 hs).1
  refine CallV.give (fun_ok hmix c_sbytes (le_of rfl) ?_)
  simp [F_sbytes]
  refine wp_mloop (BInv st.length s0 m st f xs a) (fun fr _ => m - nat (fr.g 7))
    ⟨0, [], a, by simp, rfl, by simp, by simp, by simp, ⟨Same.refl (Nat.le_refl _), hs, hlt, src⟩, by simpa [ints] using OutS.nil _ _ _ _, by simp, by simp, by simp, by simp⟩ ?_
  rintro fr s ⟨k, l, a', hk, hl, hr, ha1, ha2, g, o, hdf, g0, g6, g7⟩
  have hup : upM st.length M s0 = true := upM_of hM
  by_cases hlt2 : k < m
  · simp [g6, g7, g0, hlt2]
    refine flip_g g hup (by omega) 6 (by omega) fun b s1 g1 b1 => ?_
    have o1 := o.but b1 hlt
    have fin : ∀ (a2 : Int) (s2 : St) (x : Int) (fr' : Fr) {K' : V → St → Prop}, GS st.length s0 st s2 f xs a2 → a' ≤ a2 → a2 ≤ a' + 2 → OutS st.length 3 1 s2 (fr.g 5) (ints l) → -128 ≤ x ∧ x ≤ 127 →
        (∀ v s3, OutS st.length 3 1 s3 v (ints (l ++ [x])) → GS st.length s0 st s3 f xs a2 → K' v s3) → obind2 (mApp (liftM (upM st.length M)) 3 1 8 (s2 ++ [.row 3 1 [I x]]) (fr.g 5) (.own s2.length 1 0 1)) K' := fun a2 s2 x fr' K' g2 h1 h2 o2 hx hK' => by
      refine app_out (o2.more _) (by have := g2.same.len; simp; omega) (news := [I x]) (by simp) (by simp) (Or.inl (by simp)) (fun b _ hb _ j => by simp [upM, hb]) (by simp; omega) (by simp; omega) fun v s3 o3 hl3 hb3 _ _ => ?_
      exact hK' v s3 (by rw [ints_append]; exact o3) ((g2.more _).to hl3 hb3)
    have last : ∀ (a2 : Int) (s3 : St) (x : Int) (v : V) (fr' : Fr), GS st.length s0 st s3 f xs a2 → a' ≤ a2 → a2 ≤ a' + 2 → OutS st.length 3 1 s3 v (ints (l ++ [x])) → -128 ≤ x ∧ x ≤ 127 → fr'.g 5 = v → fr'.df = [] → fr'.g 0 = .ptr s0 1 0 0 → fr'.g 6 = I m → fr'.g 7 = I ((k : Int) + 1) → BInv st.length s0 m st f xs a fr' s3 := fun a2 s3 x v fr' g3 h1 h2 o3 hx e5 e0 e1 e6 e7 =>
      ⟨k + 1, l ++ [x], a2, by omega, by simp [hl], fun y hy => by
        rcases List.mem_append.1 hy with hy | hy
        · exact hr y hy
        · simp at hy; subst hy; exact hx, by omega, by push_cast; omega, g3, by rw [e5]; exact o3, e0, e1, e6, by rw [e7]; simp⟩
    cases b with
    | true =>
      simp
      have e1 : (s1 ++ [Blk.row 3 1 [I (-128), I 127]])[s1.length]? = some (.row 3 1 (ints [-128, 127])) := by simp [ints]
      have hne : List.length s1 ≠ s0 := Nat.ne_of_gt (Nat.lt_of_lt_of_le hlt g1.same.len)
      refine pick_g (g1.more _) hup (by omega) e1 hne rfl (by simp) fun x s2 hx g2 b2 => ?_
      have o2 := (o1.more _).but b2 hlt
      have hx' : -128 ≤ x ∧ x ≤ 127 := by simp at hx; omega
      simp
      refine fin (a' + 1 + 1) s2 x fr g2 (by omega) (by omega) o2 hx' fun v s3 o3 g3 => ?_
      simp [w64 (n := (k : Int) + 1) (by omega) (by omega)]
      exact ⟨last (a' + 1 + 1) s3 x v _ g3 (by omega) (by omega) o3 hx' (by simp) (by simp [hdf]) (by simp [g0]) (by simp [g6]) (by simp), by omega⟩
    | false =>
      simp
      refine range_g g1 hup (by omega) (-9) 9 (by omega) (by omega) (by omega) fun x s2 hx1 hx2 g2 b2 => ?_
      have o2 := o1.but b2 hlt
      simp
      refine fin (a' + 1 + 1) s2 x fr g2 (by omega) (by omega) o2 (by omega) fun v s3 o3 g3 => ?_
      simp [w64 (n := (k : Int) + 1) (by omega) (by omega)]
      exact ⟨last (a' + 1 + 1) s3 x v _ g3 (by omega) (by omega) o3 (by omega) (by simp) (by simp [hdf]) (by simp [g0]) (by simp [g6]) (by simp), by omega⟩
  · obtain rfl : k = m := by omega
    simp [g6, g7, hdf]
    obtain ⟨gg, hfr⟩ := o.frz (ints_cells l)
    refine ⟨_, hfr, g.same.low g.str (by simp [V.low]), ?_⟩
    rw [g.same.take g.str]
    exact hK gg l a' hl hr ha1 ha2
end
end Go.Proofs.YtneabpgphjcbkaaGreatDoor.Vm
