/-
  Small functions and the stream of the generator, as the value machine turns them and run by it.
  Functions as the value machine turns them: models that are spoilt.
  Owned rows beside blocks; the packer; the bytes of a model.
  A model without an error keeps to what a drawn one does.
  A slice of ints that came in, read as a list.
  No function of the translation starts a goroutine.
-/
import Derived.Test.YtkcdgaijklhnaaaGreatDoorK04
import Derived.Test.YtkcdgaijklhnaaaGreatDoorK05
import Derived.Test.YtkcdgaijklhnaaaGreatDoorK06
import Derived.Test.YtkcdgaijklhnaaaGreatDoorK01
import Derived.OpenShut
import Derived.Carry
import Derived.ProofKit
import Derived.Test.YtkcdgaijklhnaaaGreatDoorCards
import Derived.WalkKit
import Derived.KernelRfl
namespace Go.Proofs.YtkcdgaijklhnaaaGreatDoor.Vm
open Go.RowKit
end Go.Proofs.YtkcdgaijklhnaaaGreatDoor.Vm
namespace Go.Proofs.YtkcdgaijklhnaaaGreatDoor.Vm
open Go.RowKit
theorem hmix : Tryz.prog.follows .mixedOrders = true := by kernel_rfl
theorem le_of {a b : Nat} (h : Nat.ble a b = true) : a ≤ b := Nat.le_of_ble_eq_true h
def ints (l : List Int) : List V := l.map I
@[simp] theorem ints_len (l : List Int) : (ints l).length = l.length := by simp [ints]
theorem ints_get {l : List Int} {k : Nat} {x : Int} (h : l[k]? = some x) : (ints l)[k]? = some (I x) := by simp [ints, h]
end Go.Proofs.YtkcdgaijklhnaaaGreatDoor.Vm
namespace Go.Proofs.YtkcdgaijklhnaaaGreatDoor.Vm
open Go.RowKit
def F_below : FnM := FnM.mk 16 (.seq (.lst [.mk 0 false (some 4) none (.mv (.c (.val (.int .i64 0))))]) (.seq (.seq (.lst [.mk 0 false (some 5) none (.mv (.t 1)), .mk 1 false (some 6) none (.bin .lss (.t 5) (.c (.val (.int .i64 1))))]) (.cond (.t 6) (.seq (.lst [.mk 0 false (some 4) none (.mv (.c (.val (.int .i64 0))))]) .ret) .skip)) (.seq (.lst [.mk 0 false (some 7) none (.mv (.t 0)), .mk 1 false (some 8) none (.mv (.t 1)), .mk 2 false (some 9) none (.bin .rem (.t 7) (.t 8)), .mk 3 false (some 0) none (.mv (.t 9))]) (.seq (.seq (.lst [.mk 0 false (some 10) none (.mv (.t 0)), .mk 1 false (some 11) none (.bin .lss (.t 10) (.c (.val (.int .i64 0))))]) (.cond (.t 11) (.lst [.mk 0 false (some 12) none (.mv (.t 0)), .mk 1 false (some 13) none (.mv (.t 1)), .mk 2 false (some 14) none (.bin .add (.t 12) (.t 13)), .mk 3 false (some 0) none (.mv (.t 14))]) .skip)) (.seq (.lst [.mk 0 false (some 15) none (.mv (.t 0)), .mk 1 false (some 4) none (.mv (.t 15))]) .ret))))) [.t 4]
theorem c_below : compF Tryz.prog 66 = some F_below := by kernel_rfl
def F_next : FnM := FnM.mk 64 (.seq (.lst [.mk 0 false (some 4) none (.mv (.c (.val (.int .i64 0))))]) (.seq (.lst [.mk 0 false (some 7) none (.mv (.t 0)), .mk 1 false (some 8) none (.nilck (.t 7)), .mk 2 false (some 9) none (.fadr 1 (.t 8)), .mk 3 false (some 10) none (.load false 1 (.t 9)), .mk 4 false (some 11) none (.bin .add (.t 10) (.c (.val (.int .i64 1)))), .mk 5 false (some 12) none (.nilck (.t 7)), .mk 6 false (some 13) none (.fadr 1 (.t 12)), .mk 7 false none none (.store 1 (.t 13) (.t 11))]) (.seq (.seq (.lst [.mk 0 false (some 14) none (.mv (.t 0)), .mk 1 false (some 15) none (.nilck (.t 14)), .mk 2 false (some 16) none (.fadr 0 (.t 15)), .mk 3 false (some 17) none (.load false 1 (.t 16)), .mk 4 false (some 18) none (.len (.t 17)), .mk 5 false (some 19) none (.bin .eql (.t 18) (.c (.val (.int .i64 0))))]) (.cond (.t 19) (.seq (.lst [.mk 0 false (some 20) none (.mv (.t 0)), .mk 1 false (some 21) none (.nilck (.t 20)), .mk 2 false (some 22) none (.fadr 1 (.t 21)), .mk 3 false (some 23) none (.load false 1 (.t 22)), .mk 4 false (some 24) none (.bin .mul (.t 23) (.c (.val (.int .i64 7919)))), .mk 5 false (some 25) none (.mv (.t 1)), .mk 6 false (some 26) none (.call 66 [.t 24, .t 25]), .mk 7 false (some 4) none (.mv (.t 26))]) .ret) .skip)) (.seq (.flat [.mk 0 true (some 27) none (.mv (.t 0)), .mk 1 true (some 28) none (.nilck (.t 27)), .mk 2 true (some 29) none (.fadr 1 (.t 28)), .mk 3 true (some 30) none (.load false 1 (.t 29)), .mk 4 true (some 31) none (.bin .sub (.t 30) (.c (.val (.int .i64 1)))), .mk 5 true (some 32) none (.mv (.t 0)), .mk 6 true (some 33) none (.nilck (.t 32)), .mk 7 true (some 34) none (.fadr 0 (.t 33)), .mk 8 true (some 35) none (.load false 1 (.t 34)), .mk 9 true (some 36) none (.len (.t 35)), .mk 10 true (some 37) none (.bin .rem (.t 31) (.t 36)), .mk 11 true (some 5) none (.mv (.t 37))]) (.seq (.flat [.mk 0 true (some 38) none (.mv (.t 0)), .mk 1 true (some 39) none (.nilck (.t 38)), .mk 2 true (some 40) none (.fadr 1 (.t 39)), .mk 3 true (some 41) none (.load false 1 (.t 40)), .mk 4 true (some 42) none (.bin .sub (.t 41) (.c (.val (.int .i64 1)))), .mk 5 true (some 43) none (.mv (.t 0)), .mk 6 true (some 44) none (.nilck (.t 43)), .mk 7 true (some 45) none (.fadr 0 (.t 44)), .mk 8 true (some 46) none (.load false 1 (.t 45)), .mk 9 true (some 47) none (.len (.t 46)), .mk 10 true (some 48) none (.bin .quo (.t 42) (.t 47)), .mk 11 true (some 6) none (.mv (.t 48))]) (.seq (.lst [.mk 0 false (some 49) none (.mv (.t 0)), .mk 1 false (some 50) none (.nilck (.t 49)), .mk 2 false (some 51) none (.fadr 0 (.t 50)), .mk 3 false (some 52) none (.load false 1 (.t 51)), .mk 4 false (some 53) none (.mv (.t 5)), .mk 5 false (some 54) none (.iadr 1 (.t 52) (.t 53)), .mk 6 false (some 55) none (.load false 1 (.t 54)), .mk 7 false (some 56) none (.call 66 [.t 55, .c (.val (.int .i64 1073741824))]), .mk 8 false (some 57) none (.mv (.t 6)), .mk 9 false (some 58) none (.mv (.t 5)), .mk 10 false (some 59) none (.bin .add (.c (.val (.int .i64 7919))) (.t 58)), .mk 11 false (some 60) none (.bin .mul (.t 57) (.t 59)), .mk 12 false (some 61) none (.bin .add (.t 56) (.t 60)), .mk 13 false (some 62) none (.mv (.t 1)), .mk 14 false (some 63) none (.call 66 [.t 61, .t 62]), .mk 15 false (some 4) none (.mv (.t 63))]) .ret)))))) [.t 4]
theorem c_next : compF Tryz.prog 24 = some F_next := by kernel_rfl
def F_range : FnM := FnM.mk 19 (.seq (.lst [.mk 0 false (some 6) none (.mv (.c (.val (.int .i64 0))))]) (.seq (.seq (.lst [.mk 0 false (some 7) none (.mv (.t 2)), .mk 1 false (some 8) none (.mv (.t 1)), .mk 2 false (some 9) none (.bin .lss (.t 7) (.t 8))]) (.cond (.t 9) (.seq (.lst [.mk 0 false (some 10) none (.mv (.t 1)), .mk 1 false (some 6) none (.mv (.t 10))]) .ret) .skip)) (.seq (.lst [.mk 0 false (some 11) none (.mv (.t 1)), .mk 1 false (some 12) none (.mv (.t 0)), .mk 2 false (some 13) none (.mv (.t 2)), .mk 3 false (some 14) none (.mv (.t 1)), .mk 4 false (some 15) none (.bin .sub (.t 13) (.t 14)), .mk 5 false (some 16) none (.bin .add (.t 15) (.c (.val (.int .i64 1)))), .mk 6 false (some 17) none (.call 24 [.t 12, .t 16]), .mk 7 false (some 18) none (.bin .add (.t 11) (.t 17)), .mk 8 false (some 6) none (.mv (.t 18))]) .ret))) [.t 6]
theorem c_range : compF Tryz.prog 17 = some F_range := by kernel_rfl
def F_flip : FnM := FnM.mk 9 (.seq (.lst [.mk 0 false (some 4) none (.mv (.c (.val (.bool false))))]) (.seq (.lst [.mk 0 false (some 5) none (.mv (.t 0)), .mk 1 false (some 6) none (.mv (.t 1)), .mk 2 false (some 7) none (.call 24 [.t 5, .t 6]), .mk 3 false (some 8) none (.bin .eql (.t 7) (.c (.val (.int .i64 0)))), .mk 4 false (some 4) none (.mv (.t 8))]) .ret)) [.t 4]
theorem c_flip : compF Tryz.prog 11 = some F_flip := by kernel_rfl
def F_pick : FnM := FnM.mk 12 (.seq (.lst [.mk 0 false (some 4) none (.mv (.c (.val (.int .i64 0))))]) (.seq (.lst [.mk 0 false (some 5) none (.mv (.t 1)), .mk 1 false (some 6) none (.mv (.t 0)), .mk 2 false (some 7) none (.mv (.t 1)), .mk 3 false (some 8) none (.len (.t 7)), .mk 4 false (some 9) none (.call 24 [.t 6, .t 8]), .mk 5 false (some 10) none (.iadr 1 (.t 5) (.t 9)), .mk 6 false (some 11) none (.load false 1 (.t 10)), .mk 7 false (some 4) none (.mv (.t 11))]) .ret)) [.t 4]
theorem c_pick : compF Tryz.prog 63 = some F_pick := by kernel_rfl
end Go.Proofs.YtkcdgaijklhnaaaGreatDoor.Vm
namespace Go.Proofs.YtkcdgaijklhnaaaGreatDoor.Vm
open Go.RowKit
def strm (f : Bool) (xs : List Int) (a : Int) : Blk := .row 25 2 [.agg [.lst f (ints xs), I a]]
section
variable {T : Tbl} {M : Nat → Bool} {st : St} {K : V → St → Prop} {Kp : List PanicEntry → St → Prop}
theorem below_v (x n : Int) (_hx : -9223372036854775808 ≤ x ∧ x ≤ 9223372036854775807) (hn : n ≤ 9223372036854775807) (hK : ∀ r, (n < 1 → r = 0) → (1 ≤ n → 0 ≤ r ∧ r < n) → K (I r) st) : CallV Tryz.prog T M 66 [I x, I n] st K Kp := by
 refine fun_ok hmix c_below (le_of rfl) ?_
 by_cases h : n < 1
 ·simp [F_below, h]
  exact hK 0 (fun _ => rfl) (by omega)
 ·have h0 : n ≠ 0 := by omega
  have hr := Int.tmod_lt_of_pos x (show 0 < n by omega)
  have hr2 : -n < x.tmod n := by
   have := Int.lt_tmod_of_pos x (show 0 < n by omega)
   exact this
  by_cases h2 : x.tmod n < 0
  ·simp [F_below, h, h0, h2, w64 (n := x.tmod n + n) (by omega) (by omega)]
   exact hK _ (by omega) (by omega)
  ·simp [F_below, h, h0, h2]
   exact hK _ (by omega) (by omega)
set_option maxRecDepth 10000 in
theorem next_v (s : Nat) (f : Bool) (xs : List Int) (a n : Int) (hs : st[s]? = some (strm f xs a)) (hM : M s = true) (hxs : xs.length ≤ 9223372036854775807) (hin : ∀ x ∈ xs, -9223372036854775808 ≤ x ∧ x ≤ 9223372036854775807) (ha : 0 ≤ a ∧ a ≤ 1000000000) (hn : n ≤ 9223372036854775807)
  (hK : ∀ r, (n < 1 → r = 0) → (1 ≤ n → 0 ≤ r ∧ r < n) → K (I r) (st.set s (strm f xs (a + 1)))) : CallV Tryz.prog T M 24 [.ptr s 1 0 0, I n] st K Kp := by
 have hg : ∀ x, (st.set s x)[s]? = some x := fun x => List.getElem?_set_self (List.getElem?_eq_some_iff.1 hs).1
 have hM' := upM_of (n := st.length) hM
 refine fun_ok hmix c_next (le_of rfl) ?_
 by_cases h : xs.length = 0
 ·simp [F_next, hs, strm, hM', w64 (n := a + 1) (by omega) (by omega), hg, h, w64 (n := (a + 1) * 7919) (by omega) (by omega)]
  refine below_v _ _ (by omega) hn fun r h1 h2 => ?_
  simpa [strm] using hK r h1 h2
 ·have h0 : (xs.length : Int) ≠ 0 := by omega
  have hz : ((xs.length : Int) == 0) = false := by simpa using h0
  have hq : 0 ≤ a.tmod xs.length := Int.tmod_nonneg _ ha.1
  have hq2 : a.tmod xs.length < xs.length := Int.tmod_lt_of_pos _ (by omega)
  have hd : 0 ≤ a.tdiv xs.length := Int.tdiv_nonneg ha.1 (by omega)
  have hd2 : a.tdiv xs.length ≤ a := Int.tdiv_le_self _ ha.1
  simp [F_next, hs, strm, hM', w64 (n := a + 1) (by omega) (by omega), hg, hz]
  refine wp_mflat [] [] ?_
  simp [hg, h, w64 (n := a) (by omega) (by omega)]
  refine wp_mflat [] [] ?_
  simp [hg, h, w64 (n := a) (by omega) (by omega), w64 (n := a.tdiv xs.length) (by omega) (by omega)]
  have hi : (a.tmod xs.length).toNat < xs.length := by omega
  have hb := hin _ (List.getElem_mem hi)
  have hm0 : 0 ≤ a.tdiv xs.length * (7919 + a.tmod xs.length) := Int.mul_nonneg hd (by omega)
  have hm2 : a.tmod xs.length ≤ a := by
   have h3 := Int.mul_tdiv_add_tmod a xs.length
   have h4 : 0 ≤ (xs.length : Int) * a.tdiv xs.length := Int.mul_nonneg (by omega) hd
   omega
  have hm1 : a.tdiv xs.length * (7919 + a.tmod xs.length) ≤ 1000000000 * 1000007919 := Int.mul_le_mul (by omega) (by omega) (by omega) (by omega)
  simp [hq, ints_get (List.getElem?_eq_getElem hi)]
  refine below_v _ _ hb (by omega) fun r h1 h2 => ?_
  have h2' := h2 (by omega)
  simp [w64 (n := 7919 + a.tmod xs.length) (by omega) (by omega), w64 (n := a.tdiv xs.length * (7919 + a.tmod xs.length)) (by omega) (by omega), w64 (n := r + a.tdiv xs.length * (7919 + a.tmod xs.length)) (by omega) (by omega)]
  refine below_v _ _ (by omega) hn fun r2 h3 h4 => ?_
  simpa [strm] using hK r2 h3 h4
theorem range_v (s : Nat) (f : Bool) (xs : List Int) (a lo hi : Int) (hs : st[s]? = some (strm f xs a)) (hM : M s = true) (hxs : xs.length ≤ 9223372036854775807) (hin : ∀ x ∈ xs, -9223372036854775808 ≤ x ∧ x ≤ 9223372036854775807) (ha : 0 ≤ a ∧ a ≤ 1000000000) (hlo : -1000000000000 ≤ lo) (hhi : hi ≤ 1000000000000) (hle : lo ≤ hi)
  (hK : ∀ r, lo ≤ r → r ≤ hi → K (I r) (st.set s (strm f xs (a + 1)))) : CallV Tryz.prog T M 17 [.ptr s 1 0 0, I lo, I hi] st K Kp := by
 refine fun_ok hmix c_range (le_of rfl) ?_
 have h0 : ¬ hi < lo := by omega
 simp [F_range, h0, w64 (n := hi - lo) (by omega) (by omega), w64 (n := hi - lo + 1) (by omega) (by omega)]
 refine next_v s f xs a _ hs (upM_of hM) hxs hin ha (by omega) fun r h1 h2 => ?_
 simp [w64 (n := lo + r) (by omega) (by omega)]
 exact hK _ (by omega) (by omega)
theorem flip_v (s : Nat) (f : Bool) (xs : List Int) (a n : Int) (hs : st[s]? = some (strm f xs a)) (hM : M s = true) (hxs : xs.length ≤ 9223372036854775807) (hin : ∀ x ∈ xs, -9223372036854775808 ≤ x ∧ x ≤ 9223372036854775807) (ha : 0 ≤ a ∧ a ≤ 1000000000) (hn : n ≤ 1000000)
  (hK : ∀ b, K (Bo b) (st.set s (strm f xs (a + 1)))) : CallV Tryz.prog T M 11 [.ptr s 1 0 0, I n] st K Kp := by
 refine fun_ok hmix c_flip (le_of rfl) ?_
 simp [F_flip]
 refine next_v s f xs a _ hs (upM_of hM) hxs hin ha (by omega) fun r h1 h2 => ?_
 simpa using hK _
end
end Go.Proofs.YtkcdgaijklhnaaaGreatDoor.Vm
namespace Go.Proofs.YtkcdgaijklhnaaaGreatDoor.Vm
open Go.RowKit
def F_sbytes : FnM := FnM.mk 24 (.seq (.lst [.mk 0 false (some 4) none (.mv (.c (.lst true [])))]) (.seq (.lst [.mk 0 false (some 5) none (.mv (.c (.lst true [])))]) (.seq (.seq (.lst [.mk 0 false (some 6) none (.mv (.t 1)), .mk 1 false (some 7) none (.mv (.c (.val (.int .i64 0))))]) (.block 0 (.loop (.seq (.lst [.mk 0 false (some 8) none (.bin .lss (.t 7) (.t 6))]) (.seq (.cond (.t 8) .skip (.exit 0)) (.seq (.block 1 (.seq (.lst [.mk 0 false (some 9) none (.mv (.t 0)), .mk 1 false (some 10) none (.call 11 [.t 9, .c (.val (.int .i64 6))])]) (.cond (.t 10) (.lst [.mk 0 false (some 11) none (.mv (.t 5)), .mk 1 false (some 12) none (.mv (.t 0)), .mk 2 false (some 13) none (.bsl 3 1 2 (.val (.int .i64 0)) [(0, .c (.val (.int .i64 (-128)))), (1, .c (.val (.int .i64 127)))]), .mk 3 false (some 14) none (.call 63 [.t 12, .t 13]), .mk 4 false (some 15) none (.bsl 3 1 1 (.val (.int .i64 0)) [(0, .t 14)]), .mk 5 false (some 16) none (.app 3 1 8 (.t 11) (.t 15)), .mk 6 false (some 5) none (.mv (.t 16))]) (.lst [.mk 0 false (some 17) none (.mv (.t 5)), .mk 1 false (some 18) none (.mv (.t 0)), .mk 2 false (some 19) none (.call 17 [.t 18, .c (.val (.int .i64 (-9))), .c (.val (.int .i64 9))]), .mk 3 false (some 20) none (.bsl 3 1 1 (.val (.int .i64 0)) [(0, .t 19)]), .mk 4 false (some 21) none (.app 3 1 8 (.t 17) (.t 20)), .mk 5 false (some 5) none (.mv (.t 21))])))) (.lst [.mk 0 false (some 22) none (.bin .add (.t 7) (.c (.val (.int .i64 1)))), .mk 1 false (some 7) none (.mv (.t 22))]))))))) (.seq (.lst [.mk 0 false (some 23) none (.mv (.t 5)), .mk 1 false (some 4) none (.mv (.t 23))]) .ret)))) [.t 4]
theorem c_sbytes : compF Tryz.prog 83 = some F_sbytes := by kernel_rfl
def F_gmodel : FnM := FnM.mk 111 (.seq (.lst [.mk 0 false (some 2) none (.alloc 27 (.agg [.val (.int .i64 0), .val (.int .i64 0), .val (.int .i64 0), .val (.int .i64 0), .lst true [], .lst true [], .lst true [], .lst true [], .lst true [], .lst true [], .lst true []]))]) (.seq (.lst [.mk 0 false (some 5) none (.mv (.t 0)), .mk 1 false (some 6) none (.call 17 [.t 5, .c (.val (.int .i64 1)), .c (.val (.int .i64 3))]), .mk 2 false (some 7) none (.mv (.t 0)), .mk 3 false (some 8) none (.bsl 3 1 5 (.val (.int .i64 0)) [(0, .c (.val (.int .i64 2))), (1, .c (.val (.int .i64 3))), (2, .c (.val (.int .i64 5))), (3, .c (.val (.int .i64 8))), (4, .c (.val (.int .i64 16)))]), .mk 4 false (some 9) none (.call 63 [.t 7, .t 8]), .mk 5 false (some 10) none (.mv (.t 0)), .mk 6 false (some 11) none (.bsl 3 1 5 (.val (.int .i64 0)) [(0, .c (.val (.int .i64 1))), (1, .c (.val (.int .i64 2))), (2, .c (.val (.int .i64 3))), (3, .c (.val (.int .i64 4))), (4, .c (.val (.int .i64 5)))]), .mk 7 false (some 12) none (.call 63 [.t 10, .t 11]), .mk 8 false (some 13) none (.bld [.val (.int .i64 0), .val (.int .i64 0), .val (.int .i64 0), .val (.int .i64 0), .lst true [], .lst true [], .lst true [], .lst true [], .lst true [], .lst true [], .lst true []] [(0, 1, .t 6), (1, 1, .t 9), (2, 1, .t 12)]), .mk 9 false (some 3) none (.alloc 27 (.agg [.val (.int .i64 0), .val (.int .i64 0), .val (.int .i64 0), .val (.int .i64 0), .lst true [], .lst true [], .lst true [], .lst true [], .lst true [], .lst true [], .lst true []])), .mk 10 false none none (.store 11 (.t 3) (.t 13))]) (.seq (.lst [.mk 0 false (some 14) none (.mv (.t 0)), .mk 1 false (some 15) none (.fadr 1 (.t 3)), .mk 2 false (some 16) none (.load false 1 (.t 15)), .mk 3 false (some 17) none (.call 17 [.t 14, .c (.val (.int .i64 1)), .t 16]), .mk 4 false (some 18) none (.fadr 3 (.t 3)), .mk 5 false none none (.store 1 (.t 18) (.t 17))]) (.seq (.seq (.lst [.mk 0 false (some 19) none (.mv (.t 0)), .mk 1 false (some 20) none (.call 11 [.t 19, .c (.val (.int .i64 2))])]) (.cond (.t 20) (.lst [.mk 0 false (some 21) none (.fadr 1 (.t 3)), .mk 1 false (some 22) none (.load false 1 (.t 21)), .mk 2 false (some 23) none (.fadr 3 (.t 3)), .mk 3 false none none (.store 1 (.t 23) (.t 22))]) .skip)) (.seq (.seq (.lst [.mk 0 false (some 24) none (.mv (.c (.val (.int .i64 0))))]) (.block 0 (.loop (.seq (.lst [.mk 0 false (some 25) none (.bin .lss (.t 24) (.c (.val (.int .i64 4))))]) (.seq (.cond (.t 25) .skip (.exit 0)) (.seq (.block 1 (.tail [.mk 0 true (some 26) none (.fadr 4 (.t 3)), .mk 1 true (some 27) none (.load false 1 (.t 26)), .mk 2 true (some 28) none (.mv (.t 0)), .mk 3 false (some 29) none (.bsl 3 1 7 (.val (.int .i64 0)) [(0, .c (.val (.int .i64 1))), (1, .c (.val (.int .i64 1))), (2, .c (.val (.int .i64 2))), (3, .c (.val (.int .i64 3))), (4, .c (.val (.int .i64 5))), (5, .c (.val (.int .i64 8))), (6, .c (.val (.int .i64 15)))]), .mk 4 false (some 30) none (.call 63 [.t 28, .t 29]), .mk 5 false (some 31) none (.bsl 3 1 1 (.val (.int .i64 0)) [(0, .t 30)]), .mk 6 false (some 32) none (.app 3 1 8 (.t 27) (.t 31)), .mk 7 true (some 33) none (.fadr 4 (.t 3))] [.mk 8 false none none (.store 1 (.t 33) (.t 32))])) (.lst [.mk 0 false (some 34) none (.bin .add (.t 24) (.c (.val (.int .i64 1)))), .mk 1 false (some 24) none (.mv (.t 34))]))))))) (.seq (.lst [.mk 0 false (some 4) none (.mv (.c (.val (.int .i64 3))))]) (.seq (.seq (.lst [.mk 0 false (some 35) none (.fadr 0 (.t 3)), .mk 1 false (some 36) none (.load false 1 (.t 35))]) (.block 2 (.seq (.lst [.mk 0 false (some 38) none (.bin .eql (.t 36) (.c (.val (.int .i64 2)))), .mk 1 false (some 37) none (.mv (.t 38))]) (.cond (.t 37) (.lst [.mk 0 false (some 4) none (.mv (.c (.val (.int .i64 2))))]) (.seq (.lst [.mk 0 false (some 40) none (.bin .eql (.t 36) (.c (.val (.int .i64 3)))), .mk 1 false (some 39) none (.mv (.t 40))]) (.cond (.t 39) (.lst [.mk 0 false (some 41) none (.mv (.t 0)), .mk 1 false (some 42) none (.call 17 [.t 41, .c (.val (.int .i64 1)), .c (.val (.int .i64 4))]), .mk 2 false (some 4) none (.mv (.t 42))]) .skip)))))) (.seq (.tail [.mk 0 true (some 43) none (.mv (.t 0)), .mk 1 true (some 44) none (.fadr 1 (.t 3)), .mk 2 true (some 45) none (.load false 1 (.t 44)), .mk 3 true (some 46) none (.fadr 2 (.t 3)), .mk 4 true (some 47) none (.load false 1 (.t 46)), .mk 5 true (some 48) none (.bin .mul (.t 45) (.t 47)), .mk 7 true (some 50) none (.mv (.t 0)), .mk 8 true (some 51) none (.fadr 1 (.t 3)), .mk 9 true (some 52) none (.load false 1 (.t 51)), .mk 10 true (some 53) none (.fadr 2 (.t 3)), .mk 11 true (some 54) none (.load false 1 (.t 53)), .mk 12 true (some 55) none (.bin .mul (.t 52) (.t 54)), .mk 6 false (some 49) none (.call 83 [.t 43, .t 48]), .mk 14 true (some 57) none (.fadr 5 (.t 3)), .mk 13 false (some 56) none (.call 83 [.t 50, .t 55]), .mk 15 false none none (.store 1 (.t 57) (.t 49)), .mk 16 true (some 58) none (.fadr 8 (.t 3))] [.mk 17 false none none (.store 1 (.t 58) (.t 56))]) (.seq (.tail [.mk 0 true (some 59) none (.mv (.t 0)), .mk 1 true (some 60) none (.mv (.t 0)), .mk 4 true (some 63) none (.fadr 2 (.t 3)), .mk 5 true (some 64) none (.load false 1 (.t 63)), .mk 8 true (some 67) none (.mv (.t 0)), .mk 9 true (some 68) none (.mv (.t 4)), .mk 10 true (some 69) none (.fadr 2 (.t 3)), .mk 11 true (some 70) none (.load false 1 (.t 69)), .mk 12 true (some 71) none (.bin .mul (.t 68) (.t 70)), .mk 13 true (some 72) none (.fadr 2 (.t 3)), .mk 14 true (some 73) none (.load false 1 (.t 72)), .mk 15 true (some 74) none (.bin .mul (.t 71) (.t 73)), .mk 2 false (some 61) none (.bsl 3 1 4 (.val (.int .i64 0)) [(0, .c (.val (.int .i64 1))), (1, .c (.val (.int .i64 2))), (2, .c (.val (.int .i64 4))), (3, .c (.val (.int .i64 16)))]), .mk 3 false (some 62) none (.call 63 [.t 60, .t 61]), .mk 6 false (some 65) none (.bin .mul (.t 62) (.t 64)), .mk 7 false (some 66) none (.call 83 [.t 59, .t 65]), .mk 17 true (some 76) none (.fadr 6 (.t 3)), .mk 16 false (some 75) none (.call 83 [.t 67, .t 74]), .mk 18 false none none (.store 1 (.t 76) (.t 66)), .mk 19 true (some 77) none (.fadr 7 (.t 3))] [.mk 20 false none none (.store 1 (.t 77) (.t 75))]) (.seq (.seq (.lst [.mk 0 false (some 78) none (.mv (.t 0)), .mk 1 false (some 79) none (.bsl 3 1 4 (.val (.int .i64 0)) [(0, .c (.val (.int .i64 1))), (1, .c (.val (.int .i64 2))), (2, .c (.val (.int .i64 5))), (3, .c (.val (.int .i64 64)))]), .mk 2 false (some 80) none (.call 63 [.t 78, .t 79]), .mk 3 false (some 81) none (.mv (.c (.val (.int .i64 0))))]) (.block 3 (.loop (.seq (.lst [.mk 0 false (some 82) none (.bin .lss (.t 81) (.t 80))]) (.seq (.cond (.t 82) .skip (.exit 3)) (.seq (.block 4 (.tail [.mk 0 true (some 83) none (.fadr 9 (.t 3)), .mk 1 true (some 84) none (.load false 1 (.t 83)), .mk 2 true (some 85) none (.mv (.t 0)), .mk 3 false (some 86) none (.bsl 3 1 5 (.val (.int .i64 0)) [(0, .c (.val (.int .i64 0))), (1, .c (.val (.int .i64 1))), (2, .c (.val (.int .i64 8))), (3, .c (.val (.int .i64 64))), (4, .c (.val (.int .i64 1000)))]), .mk 4 false (some 87) none (.call 63 [.t 85, .t 86]), .mk 5 false (some 88) none (.bsl 3 1 1 (.val (.int .i64 0)) [(0, .t 87)]), .mk 6 false (some 89) none (.app 3 1 8 (.t 84) (.t 88)), .mk 7 true (some 90) none (.fadr 9 (.t 3))] [.mk 8 false none none (.store 1 (.t 90) (.t 89))])) (.lst [.mk 0 false (some 91) none (.bin .add (.t 81) (.c (.val (.int .i64 1)))), .mk 1 false (some 81) none (.mv (.t 91))]))))))) (.seq (.lst [.mk 0 false (some 92) none (.mv (.t 0)), .mk 1 false (some 93) none (.call 17 [.t 92, .c (.val (.int .i64 1)), .c (.val (.int .i64 40))]), .mk 2 false (some 94) none (.bsl 3 1 1 (.val (.int .i64 0)) [(0, .t 93)]), .mk 3 false (some 95) none (.fadr 10 (.t 3)), .mk 4 false none none (.store 1 (.t 95) (.t 94))]) (.seq (.seq (.lst [.mk 0 false (some 96) none (.mv (.t 0)), .mk 1 false (some 97) none (.bsl 3 1 4 (.val (.int .i64 0)) [(0, .c (.val (.int .i64 0))), (1, .c (.val (.int .i64 1))), (2, .c (.val (.int .i64 4))), (3, .c (.val (.int .i64 63)))]), .mk 2 false (some 98) none (.call 63 [.t 96, .t 97]), .mk 3 false (some 99) none (.mv (.c (.val (.int .i64 0))))]) (.block 5 (.loop (.seq (.lst [.mk 0 false (some 100) none (.bin .lss (.t 99) (.t 98))]) (.seq (.cond (.t 100) .skip (.exit 5)) (.seq (.block 6 (.tail [.mk 0 true (some 101) none (.fadr 10 (.t 3)), .mk 1 true (some 102) none (.load false 1 (.t 101)), .mk 2 true (some 103) none (.mv (.t 0)), .mk 3 false (some 104) none (.bsl 3 1 4 (.val (.int .i64 0)) [(0, .c (.val (.int .i64 0))), (1, .c (.val (.int .i64 1))), (2, .c (.val (.int .i64 8))), (3, .c (.val (.int .i64 1000)))]), .mk 4 false (some 105) none (.call 63 [.t 103, .t 104]), .mk 5 false (some 106) none (.bsl 3 1 1 (.val (.int .i64 0)) [(0, .t 105)]), .mk 6 false (some 107) none (.app 3 1 8 (.t 102) (.t 106)), .mk 7 true (some 108) none (.fadr 10 (.t 3))] [.mk 8 false none none (.store 1 (.t 108) (.t 107))])) (.lst [.mk 0 false (some 109) none (.bin .add (.t 99) (.c (.val (.int .i64 1)))), .mk 1 false (some 99) none (.mv (.t 109))]))))))) (.seq (.lst [.mk 0 false (some 110) none (.load true 11 (.t 3)), .mk 1 false none none (.store 11 (.t 2) (.t 110))]) .ret))))))))))))) [.c 2 true 11]
theorem c_gmodel : compF Tryz.prog 38 = some F_gmodel := by kernel_rfl
end Go.Proofs.YtkcdgaijklhnaaaGreatDoor.Vm
namespace Go.Proofs.YtkcdgaijklhnaaaGreatDoor.Vm
open Go.RowKit
structure GS (n sb : Nat) (st s : St) (f : Bool) (xs : List Int) (a : Int) : Prop where
 same : Same n sb st s
 str : s[sb]? = some (strm f xs a)
 hsb : sb < n
 src : xs.length ≤ 9223372036854775807 ∧ ∀ x ∈ xs, -9223372036854775808 ≤ x ∧ x ≤ 9223372036854775807
def But (sb : Nat) (s s' : St) : Prop := s'.length = s.length ∧ ∀ b, b ≠ sb → s'[b]? = s[b]?
theorem But.set (sb : Nat) (s : St) (x : Blk) : But sb s (s.set sb x) := ⟨by simp, fun b hb => List.getElem?_set_ne (Ne.symm hb)⟩
theorem OutS.but {n t k sb : Nat} {s s' : St} {v : V} {l : List V} (h : OutS n t k s v l) (hb : But sb s s') (hn : sb < n) : OutS n t k s' v l := h.keep fun b _ _ _ h1 _ => hb.2 b (by omega)
theorem get_but {sb b : Nat} {s s' : St} {x : Blk} (h : s[b]? = some x) (hb : But sb s s') (hn : b ≠ sb) : s'[b]? = some x := (hb.2 b hn).trans h
section
variable {n sb : Nat} {st s : St} {f : Bool} {xs : List Int} {a : Int} {T : Tbl} {M : Nat → Bool} {K : V → St → Prop} {Kp : List PanicEntry → St → Prop}
theorem GS.next (g : GS n sb st s f xs a) (a' : Int) : GS n sb st (s.set sb (strm f xs a')) f xs a' := ⟨g.same.set (Or.inl rfl) _, get_set g.str _, g.hsb, g.src⟩
theorem GS.more (g : GS n sb st s f xs a) (e : St) : GS n sb st (s ++ e) f xs a := ⟨g.same.more e, get_more g.str e, g.hsb, g.src⟩
theorem GS.set (g : GS n sb st s f xs a) {b : Nat} (hb : n ≤ b) (x : Blk) : GS n sb st (s.set b x) f xs a := ⟨g.same.set (Or.inr hb) x, get_ne g.str (by have := g.hsb; omega) x, g.hsb, g.src⟩
theorem GS.to (g : GS n sb st s f xs a) {s' : St} (hl : s.length ≤ s'.length) (h : ∀ b, b < n → s'[b]? = s[b]?) : GS n sb st s' f xs a := ⟨⟨Nat.le_trans g.same.len hl, fun b h1 h2 => (h b h1).trans (g.same.get b h1 h2)⟩, (h sb g.hsb).trans g.str, g.hsb, g.src⟩
theorem GS.up (g : GS n sb st s f xs a) (M : Nat → Bool) : upM n M s.length = true := by simp [upM, g.same.len]
theorem flip_g (g : GS n sb st s f xs a) (hM : M sb = true) (ha : 0 ≤ a ∧ a ≤ 1000000000) (k : Int) (hk : k ≤ 1000000) (hK : ∀ b s', GS n sb st s' f xs (a + 1) → But sb s s' → K (Bo b) s') : CallV Tryz.prog T M 11 [.ptr sb 1 0 0, I k] s K Kp :=
 flip_v sb f xs a k g.str hM g.src.1 g.src.2 ha hk fun b => hK b _ (g.next _) (But.set _ _ _)
theorem next_g (g : GS n sb st s f xs a) (hM : M sb = true) (ha : 0 ≤ a ∧ a ≤ 1000000000) (k : Int) (hk : 1 ≤ k ∧ k ≤ 1000000) (hK : ∀ r s', 0 ≤ r → r < k → GS n sb st s' f xs (a + 1) → But sb s s' → K (I r) s') : CallV Tryz.prog T M 24 [.ptr sb 1 0 0, I k] s K Kp :=
 next_v sb f xs a k g.str hM g.src.1 g.src.2 ha (by omega) fun r _ h2 => hK r _ (h2 hk.1).1 (h2 hk.1).2 (g.next _) (But.set _ _ _)
theorem range_g (g : GS n sb st s f xs a) (hM : M sb = true) (ha : 0 ≤ a ∧ a ≤ 1000000000) (lo hi : Int) (h1 : -1000000000000 ≤ lo) (h2 : hi ≤ 1000000000000) (h3 : lo ≤ hi) (hK : ∀ r s', lo ≤ r → r ≤ hi → GS n sb st s' f xs (a + 1) → But sb s s' → K (I r) s') : CallV Tryz.prog T M 17 [.ptr sb 1 0 0, I lo, I hi] s K Kp :=
 range_v sb f xs a lo hi g.str hM g.src.1 g.src.2 ha h1 h2 h3 fun r h4 h5 => hK r _ h4 h5 (g.next _) (But.set _ _ _)
theorem pick_g (g : GS n sb st s f xs a) (hM : M sb = true) (ha : 0 ≤ a ∧ a ≤ 1000000000) {b m : Nat} {l : List Int} (hb : s[b]? = some (.row 3 1 (ints l))) (hbs : b ≠ sb) (hm : l.length = m) (hl : 0 < m ∧ m ≤ 1000) (hK : ∀ x s', x ∈ l → GS n sb st s' f xs (a + 1) → But sb s s' → K (I x) s') :
  CallV Tryz.prog T M 63 [.ptr sb 1 0 0, .own b m 0 m] s K Kp := by
 subst hm
 refine fun_ok hmix c_pick (le_of rfl) ?_
 simp [F_pick, hb]
 refine next_g g (upM_of hM) ha _ (by omega) fun r s' h1 h2 g' hbut => ?_
 have hb' := get_but hb hbut hbs
 have hr : r.toNat < l.length := by omega
 simp [hb', h1, show r < (l.length : Int) by omega]
 simp [ints]
 exact hK _ _ (List.getElem_mem hr) g' hbut
theorem ints_cells (l : List Int) : ∀ x ∈ ints l, ∀ y ∈ x.cells, y.leaf = true ∧ y.pl = true := fun x hx y hy => by
 obtain ⟨z, -, rfl⟩ := List.mem_map.1 hx
 simp at hy
 subst hy
 exact ⟨rfl, rfl⟩
theorem ints_append (l m : List Int) : ints (l ++ m) = ints l ++ ints m := by simp [ints]
def BInv (n s0 m : Nat) (st : St) (f : Bool) (xs : List Int) (a : Int) (fr : Fr) (s : St) : Prop :=
 ∃ (k : Nat) (l : List Int) (a' : Int), k ≤ m ∧ l.length = k ∧ (∀ x ∈ l, -128 ≤ x ∧ x ≤ 127) ∧ a ≤ a' ∧ a' ≤ a + 2 * k ∧ GS n s0 st s f xs a' ∧ OutS n 3 1 s (fr.g 5) (ints l) ∧ fr.df = [] ∧ fr.g 0 = .ptr s0 1 0 0 ∧ fr.g 6 = I m ∧ fr.g 7 = I k
theorem sbytes_v (s0 : Nat) (m : Nat) (hm : m ≤ 400) (hs : st[s0]? = some (strm f xs a)) (hM : M s0 = true) (src : xs.length ≤ 9223372036854775807 ∧ ∀ x ∈ xs, -9223372036854775808 ≤ x ∧ x ≤ 9223372036854775807) (ha : 0 ≤ a ∧ a ≤ 100000000)
  (hK : ∀ g l a', l.length = m → (∀ x ∈ l, -128 ≤ x ∧ x ≤ 127) → a ≤ a' → a' ≤ a + 2 * m → K (.lst g (ints l)) (st.set s0 (strm f xs a'))) : CallV Tryz.prog T M 83 [.ptr s0 1 0 0, I m] st K Kp := by
 have hlt : s0 < st.length := (List.getElem?_eq_some_iff.1 hs).1
 refine CallV.give (fun_ok hmix c_sbytes (le_of rfl) ?_)
 simp [F_sbytes]
 refine wp_mloop (BInv st.length s0 m st f xs a) (fun fr _ => m - nat (fr.g 7))
  ⟨0, [], a, by simp, rfl, by simp, by simp, by simp, ⟨Same.refl (Nat.le_refl _), hs, hlt, src⟩, by simpa [ints] using OutS.nil _ _ _ _, by simp, by simp, by simp, by simp⟩ ?_
 rintro fr s ⟨k, l, a', hk, hl, hr, ha1, ha2, g, o, hdf, g0, g6, g7⟩
 have hup : upM st.length M s0 = true := upM_of hM
 by_cases hlt2 : k < m
 ·simp [g6, g7, g0, hlt2]
  refine flip_g g hup (by omega) 6 (by omega) fun b s1 g1 b1 => ?_
  have o1 := o.but b1 hlt
  have fin : ∀ (a2 : Int) (s2 : St) (x : Int) (fr' : Fr) {K' : V → St → Prop}, GS st.length s0 st s2 f xs a2 → a' ≤ a2 → a2 ≤ a' + 2 → OutS st.length 3 1 s2 (fr.g 5) (ints l) → -128 ≤ x ∧ x ≤ 127 →
    (∀ v s3, OutS st.length 3 1 s3 v (ints (l ++ [x])) → GS st.length s0 st s3 f xs a2 → K' v s3) → obind2 (mApp (liftM (upM st.length M)) 3 1 8 (s2 ++ [.row 3 1 [I x]]) (fr.g 5) (.own s2.length 1 0 1)) K' := fun a2 s2 x fr' K' g2 h1 h2 o2 hx hK' => by
   refine app_out (o2.more _) (by have := g2.same.len; simp; omega) (news := [I x]) (by simp) (by simp) (Or.inl (by simp)) (fun b _ hb _ j => by simp [upM, hb]) (by simp; omega) (by simp; omega) fun v s3 o3 hl3 hb3 _ _ => ?_
   exact hK' v s3 (by rw [ints_append]; exact o3) ((g2.more _).to hl3 hb3)
  have last : ∀ (a2 : Int) (s3 : St) (x : Int) (v : V) (fr' : Fr), GS st.length s0 st s3 f xs a2 → a' ≤ a2 → a2 ≤ a' + 2 → OutS st.length 3 1 s3 v (ints (l ++ [x])) → -128 ≤ x ∧ x ≤ 127 → fr'.g 5 = v → fr'.df = [] → fr'.g 0 = .ptr s0 1 0 0 → fr'.g 6 = I m → fr'.g 7 = I ((k : Int) + 1) → BInv st.length s0 m st f xs a fr' s3 := fun a2 s3 x v fr' g3 h1 h2 o3 hx e5 e0 e1 e6 e7 =>
   ⟨k + 1, l ++ [x], a2, by omega, by simp [hl], fun y hy => by
    rcases List.mem_append.1 hy with hy | hy
    ·exact hr y hy
    ·simp at hy; subst hy; exact hx, by omega, by push_cast; omega, g3, by rw [e5]; exact o3, e0, e1, e6, by rw [e7]; simp⟩
  cases b with
  | true =>
   simp
   have e1 : (s1 ++ [Blk.row 3 1 [I (-128), I 127]])[s1.length]? = some (.row 3 1 (ints [-128, 127])) := by simp [ints]
   have hne : List.length s1 ≠ s0 := Nat.ne_of_gt (Nat.lt_of_lt_of_le hlt g1.same.len)
   refine pick_g (g1.more _) hup (by omega) e1 hne rfl (by simp) fun x s2 hx g2 b2 => ?_
   have o2 := (o1.more _).but b2 hlt
   have hx' : -128 ≤ x ∧ x ≤ 127 := by simp at hx; omega
   simp
   refine fin (a' + 1 + 1) s2 x fr g2 (by omega) (by omega) o2 hx' fun v s3 o3 g3 => ?_
   simp [w64 (n := (k : Int) + 1) (by omega) (by omega)]
   exact ⟨last (a' + 1 + 1) s3 x v _ g3 (by omega) (by omega) o3 hx' (by simp) (by simp [hdf]) (by simp [g0]) (by simp [g6]) (by simp), by omega⟩
  | false =>
   simp
   refine range_g g1 hup (by omega) (-9) 9 (by omega) (by omega) (by omega) fun x s2 hx1 hx2 g2 b2 => ?_
   have o2 := o1.but b2 hlt
   simp
   refine fin (a' + 1 + 1) s2 x fr g2 (by omega) (by omega) o2 (by omega) fun v s3 o3 g3 => ?_
   simp [w64 (n := (k : Int) + 1) (by omega) (by omega)]
   exact ⟨last (a' + 1 + 1) s3 x v _ g3 (by omega) (by omega) o3 (by omega) (by simp) (by simp [hdf]) (by simp [g0]) (by simp [g6]) (by simp), by omega⟩
 ·obtain rfl : k = m := by omega
  simp [g6, g7, hdf]
  obtain ⟨gg, hfr⟩ := o.frz (ints_cells l)
  refine ⟨_, hfr, g.same.low g.str (by simp [V.low]), ?_⟩
  rw [g.same.take g.str]
  exact hK gg l a' hl hr ha1 ha2
end
end Go.Proofs.YtkcdgaijklhnaaaGreatDoor.Vm
namespace Go.Proofs.YtkcdgaijklhnaaaGreatDoor.Vm
open Go.RowKit
def F_tainted : FnM := FnM.mk 111 (.seq (.lst [.mk 0 false (some 3) none (.box 27 (.t 1)), .mk 1 false (some 4) none (.alloc 27 (.agg [.val (.int .i64 0), .val (.int .i64 0), .val (.int .i64 0), .val (.int .i64 0), .lst true [], .lst true [], .lst true [], .lst true [], .lst true [], .lst true [], .lst true []]))]) (.seq (.lst [.mk 0 false (some 8) none (.fadr 4 (.t 3)), .mk 1 false (some 9) none (.fadr 5 (.t 3)), .mk 2 false (some 10) none (.fadr 6 (.t 3)), .mk 3 false (some 11) none (.fadr 7 (.t 3)), .mk 4 false (some 12) none (.fadr 8 (.t 3)), .mk 5 false (some 13) none (.fadr 9 (.t 3)), .mk 6 false (some 14) none (.fadr 10 (.t 3)), .mk 7 false (some 15) none (.bsl 116 1 7 (.val (Value.pointer none)) [(0, .t 8), (1, .t 9), (2, .t 10), (3, .t 11), (4, .t 12), (5, .t 13), (6, .t 14)]), .mk 8 false (some 5) none (.mv (.t 15))]) (.seq (.lst [.mk 0 false (some 16) none (.mv (.t 5)), .mk 1 false (some 17) none (.mv (.t 0)), .mk 2 false (some 18) none (.mv (.t 5)), .mk 3 false (some 19) none (.len (.t 18)), .mk 4 false (some 20) none (.call 24 [.t 17, .t 19]), .mk 5 false (some 21) none (.iadr 1 (.t 16) (.t 20)), .mk 6 false (some 22) none (.load false 1 (.t 21)), .mk 7 false (some 6) none (.mv (.t 22))]) (.seq (.seq (.lst [.mk 0 false (some 23) none (.mv (.t 6)), .mk 1 false (some 24) none (.nilck (.t 23)), .mk 2 false (some 25) none (.load false 1 (.t 24)), .mk 3 false (some 26) none (.len (.t 25)), .mk 4 false (some 27) none (.bin .eql (.t 26) (.c (.val (.int .i64 0))))]) (.cond (.t 27) (.lst [.mk 0 false (some 28) none (.mv (.t 6)), .mk 1 false (some 29) none (.flit 1 (.val (.int .i64 0))), .mk 2 false (some 30) none (.nilck (.t 28)), .mk 3 false none none (.store 1 (.t 30) (.t 29))]) .skip)) (.seq (.seq (.lst [.mk 0 false (some 31) none (.mv (.t 0)), .mk 1 false (some 32) none (.call 24 [.t 31, .c (.val (.int .i64 7))])]) (.block 0 (.seq (.lst [.mk 0 false (some 50) none (.bin .eql (.t 32) (.c (.val (.int .i64 0)))), .mk 1 false (some 49) none (.mv (.t 50))]) (.cond (.t 49) (.lst [.mk 0 false (some 51) none (.mv (.t 0)), .mk 1 false (some 52) none (.call 17 [.t 51, .c (.val (.int .i64 0)), .c (.val (.int .i64 4))]), .mk 2 false (some 53) none (.fadr 0 (.t 3)), .mk 3 false none none (.store 1 (.t 53) (.t 52))]) (.seq (.lst [.mk 0 false (some 55) none (.bin .eql (.t 32) (.c (.val (.int .i64 1)))), .mk 1 false (some 54) none (.mv (.t 55))]) (.cond (.t 54) (.tail [.mk 0 true (some 56) none (.fadr 1 (.t 3)), .mk 1 true (some 57) none (.load false 1 (.t 56)), .mk 2 true (some 58) none (.mv (.t 0)), .mk 3 false (some 59) none (.bsl 3 1 3 (.val (.int .i64 0)) [(0, .c (.val (.int .i64 1))), (1, .c (.val (.int .i64 (-1)))), (2, .c (.val (.int .i64 100)))]), .mk 4 false (some 60) none (.call 63 [.t 58, .t 59]), .mk 5 false (some 61) none (.bin .add (.t 57) (.t 60)), .mk 6 true (some 62) none (.fadr 1 (.t 3))] [.mk 7 false none none (.store 1 (.t 62) (.t 61))]) (.seq (.lst [.mk 0 false (some 64) none (.bin .eql (.t 32) (.c (.val (.int .i64 2)))), .mk 1 false (some 63) none (.mv (.t 64))]) (.cond (.t 63) (.tail [.mk 0 true (some 65) none (.fadr 2 (.t 3)), .mk 1 true (some 66) none (.load false 1 (.t 65)), .mk 2 true (some 67) none (.mv (.t 0)), .mk 3 false (some 68) none (.bsl 3 1 3 (.val (.int .i64 0)) [(0, .c (.val (.int .i64 1))), (1, .c (.val (.int .i64 (-1)))), (2, .c (.val (.int .i64 5)))]), .mk 4 false (some 69) none (.call 63 [.t 67, .t 68]), .mk 5 false (some 70) none (.bin .add (.t 66) (.t 69)), .mk 6 true (some 71) none (.fadr 2 (.t 3))] [.mk 7 false none none (.store 1 (.t 71) (.t 70))]) (.seq (.lst [.mk 0 false (some 73) none (.bin .eql (.t 32) (.c (.val (.int .i64 3)))), .mk 1 false (some 72) none (.mv (.t 73))]) (.cond (.t 72) (.tail [.mk 0 true (some 74) none (.fadr 3 (.t 3)), .mk 1 true (some 75) none (.load false 1 (.t 74)), .mk 2 true (some 76) none (.mv (.t 0)), .mk 3 false (some 77) none (.bsl 3 1 2 (.val (.int .i64 0)) [(0, .c (.val (.int .i64 1))), (1, .c (.val (.int .i64 (-20))))]), .mk 4 false (some 78) none (.call 63 [.t 76, .t 77]), .mk 5 false (some 79) none (.bin .add (.t 75) (.t 78)), .mk 6 true (some 80) none (.fadr 3 (.t 3))] [.mk 7 false none none (.store 1 (.t 80) (.t 79))]) (.seq (.lst [.mk 0 false (some 82) none (.bin .eql (.t 32) (.c (.val (.int .i64 4)))), .mk 1 false (some 81) none (.mv (.t 82))]) (.cond (.t 81) (.lst [.mk 0 false (some 83) none (.mv (.t 6)), .mk 1 false (some 84) none (.mv (.t 6)), .mk 2 false (some 85) none (.nilck (.t 84)), .mk 3 false (some 86) none (.load false 1 (.t 85)), .mk 4 false (some 87) none (.sl 1 (.t 86) (some (.c (.val (.int .i64 1)))) none), .mk 5 false (some 88) none (.nilck (.t 83)), .mk 6 false none none (.store 1 (.t 88) (.t 87))]) (.seq (.lst [.mk 0 false (some 90) none (.bin .eql (.t 32) (.c (.val (.int .i64 5)))), .mk 1 false (some 89) none (.mv (.t 90))]) (.cond (.t 89) (.tail [.mk 0 true (some 91) none (.mv (.t 6)), .mk 1 true (some 92) none (.mv (.t 6)), .mk 2 true (some 93) none (.nilck (.t 92)), .mk 3 true (some 94) none (.load false 1 (.t 93)), .mk 4 true (some 95) none (.mv (.t 6)), .mk 5 true (some 96) none (.nilck (.t 95)), .mk 6 true (some 97) none (.load false 1 (.t 96)), .mk 7 true (some 98) none (.len (.t 97)), .mk 8 true (some 99) none (.mv (.t 6)), .mk 9 true (some 100) none (.nilck (.t 99)), .mk 10 true (some 101) none (.load false 1 (.t 100)), .mk 11 true (some 102) none (.len (.t 101)), .mk 12 true (some 103) none (.slf 1 (.t 94) none (.t 98) (.t 102)), .mk 13 true (some 104) none (.mv (.t 0)), .mk 14 false (some 105) none (.bsl 3 1 4 (.val (.int .i64 0)) [(0, .c (.val (.int .i64 0))), (1, .c (.val (.int .i64 1))), (2, .c (.val (.int .i64 200))), (3, .c (.val (.int .i64 (-200))))]), .mk 15 false (some 106) none (.call 63 [.t 104, .t 105]), .mk 16 false (some 107) none (.bsl 3 1 1 (.val (.int .i64 0)) [(0, .t 106)]), .mk 17 false (some 108) none (.app 3 1 8 (.t 103) (.t 107)), .mk 18 true (some 109) none (.nilck (.t 91))] [.mk 19 false none none (.store 1 (.t 109) (.t 108))]) (.seq (.lst [.mk 0 false (some 33) none (.mv (.t 6)), .mk 1 false (some 34) none (.nilck (.t 33)), .mk 2 false (some 35) none (.load false 1 (.t 34)), .mk 3 false (some 36) none (.app 3 1 8 (.c (.lst true [])) (.t 35)), .mk 4 false (some 7) none (.mv (.t 36))]) (.seq (.lst [.mk 0 false (some 37) none (.mv (.t 7)), .mk 1 false (some 38) none (.mv (.t 0)), .mk 2 false (some 39) none (.mv (.t 7)), .mk 3 false (some 40) none (.len (.t 39)), .mk 4 false (some 41) none (.call 24 [.t 38, .t 40]), .mk 5 false (some 42) none (.mv (.t 0)), .mk 6 false (some 43) none (.bsl 3 1 6 (.val (.int .i64 0)) [(0, .c (.val (.int .i64 0))), (1, .c (.val (.int .i64 (-1)))), (2, .c (.val (.int .i64 16))), (3, .c (.val (.int .i64 128))), (4, .c (.val (.int .i64 (-129)))), (5, .c (.val (.int .i64 1001)))]), .mk 7 false (some 44) none (.call 63 [.t 42, .t 43]), .mk 8 false (some 45) none (.iadr 1 (.t 37) (.t 41)), .mk 9 false none none (.store 1 (.t 45) (.t 44))]) (.lst [.mk 0 false (some 46) none (.mv (.t 6)), .mk 1 false (some 47) none (.mv (.t 7)), .mk 2 false (some 48) none (.nilck (.t 46)), .mk 3 false none none (.store 1 (.t 48) (.t 47))]))))))))))))))))) (.seq (.lst [.mk 0 false (some 110) none (.load true 11 (.t 3)), .mk 1 false none none (.store 11 (.t 4) (.t 110))]) .ret)))))) [.c 4 true 11]
theorem c_tainted : compF Tryz.prog 39 = some F_tainted := by kernel_rfl
def F_maybe : FnM := FnM.mk 12 (.seq (.lst [.mk 0 false (some 2) none (.alloc 27 (.agg [.val (.int .i64 0), .val (.int .i64 0), .val (.int .i64 0), .val (.int .i64 0), .lst true [], .lst true [], .lst true [], .lst true [], .lst true [], .lst true [], .lst true []]))]) (.seq (.lst [.mk 0 false (some 4) none (.mv (.t 0)), .mk 1 false (some 5) none (.call 38 [.t 4]), .mk 2 false (some 3) none (.alloc 27 (.agg [.val (.int .i64 0), .val (.int .i64 0), .val (.int .i64 0), .val (.int .i64 0), .lst true [], .lst true [], .lst true [], .lst true [], .lst true [], .lst true [], .lst true []])), .mk 3 false none none (.store 11 (.t 3) (.t 5))]) (.seq (.seq (.lst [.mk 0 false (some 6) none (.mv (.t 0)), .mk 1 false (some 7) none (.call 11 [.t 6, .c (.val (.int .i64 4))])]) (.cond (.t 7) (.lst [.mk 0 false (some 8) none (.mv (.t 0)), .mk 1 false (some 9) none (.load true 11 (.t 3)), .mk 2 false (some 10) none (.call 39 [.t 8, .t 9]), .mk 3 false none none (.store 11 (.t 3) (.t 10))]) .skip)) (.seq (.lst [.mk 0 false (some 11) none (.load true 11 (.t 3)), .mk 1 false none none (.store 11 (.t 2) (.t 11))]) .ret)))) [.c 2 true 11]
theorem c_maybe : compF Tryz.prog 6 = some F_maybe := by kernel_rfl
end Go.Proofs.YtkcdgaijklhnaaaGreatDoor.Vm
namespace Go.Proofs.YtkcdgaijklhnaaaGreatDoor
open Go.RowKit
theorem Ow.ne_bk {α : Type} {k : Nat} {E : Cl → List Value → α → Prop} {T T' : TypeId} {w : World} {C : Cl} {base O : Nat} {v : Value} {xs : List α} {cs : Array Value} (h : Ow k E T w C base v xs) (hb : Bk w O T' cs) (hT : T ≠ T') : v.ownBlock ≠ some O := by
 obtain ⟨ds, ho, -, -⟩ := h
 rcases ho.2 with ⟨rfl, -⟩ | ⟨g, cap, cur, rfl, -, hg, -⟩
 ·intro e; cases e
 ·intro e
  injection e with e
  subst e
  unfold Bk at hb
  rw [hg] at hb
  injection hb with hb
  injection hb with _ hb
  exact hT hb
theorem Ow.beside {α : Type} {k : Nat} {R : Cl → Nat → Nat → α → Prop} {E : Cl → List Value → α → Prop} (L : Cells k R E) {T : TypeId} {w : World} {C : Cl} {base : Nat} {v : Value} {xs : List α} (h : Ow k E T w C base v xs) {p : Addr} (hp : v.ownBlock ≠ some p.block) (u : Value) : Ow k E T (w.setCell p u) C base v xs :=
 Frm.ow (S := isB p.block) L ((Frm.refl _ w).set (fun _ => by simp [isB]) u) h (fun b hb => by rw [isB_false]; rintro rfl; exact hp hb) (Keeps.refl _)
theorem Ow.left_bk {α : Type} {k : Nat} {E : Cl → List Value → α → Prop} {T T' : TypeId} {w w' : World} {C : Cl} {base O : Nat} {v : Value} {xs : List α} {cs : Array Value} (h : Ow k E T w C base v xs) (hb : Bk w O T' cs) (hT : T ≠ T') (hg : w.grownBy w' v.ownBlock) : Bk w' O T' cs :=
 (hg.block _ hb.lt (fun e => Ow.ne_bk h hb hT e.symm)).trans hb
def RByte (C : Cl) (b o : Nat) (x : Int) : Prop := C ⟨b, o, none⟩ = some (.int .u8 x)
def EByte (_ : Cl) (cs : List Value) (x : Int) : Prop := cs = [.int .u8 x]
theorem cellsByte : Cells 1 RByte EByte where
  pos := by decide
  down := fun {C b o x} h => ⟨_, rfl, rfl, fun i u hu => by
    match i, hu with
    | 0, hu => simp at hu; subst hu; exact h
    | i + 1, hu => simp at hu⟩
  up := fun {C b o x cs} h hc => by subst h; exact hc 0 _ rfl
  keep := fun h _ => h
  one := fun h u hu => by subst h; simp at hu; rcases hu with rfl; rfl
  len := fun h => by subst h; rfl
end Go.Proofs.YtkcdgaijklhnaaaGreatDoor
namespace Go.Proofs.YtkcdgaijklhnaaaGreatDoor
open Go.RowKit
structure Pk (w0 w : World) (pb : Nat) (l : List Int) : Prop where
 below : Below w0.heap.size w0 w
 hi : w0.heap.size ≤ pb
 ex : ∃ v, Bk w pb 77 #[v] ∧ Ow 1 EByte 5 w (fun _ => none) w0.heap.size v l
theorem Pk.step {w0 w w' : World} {pb : Nat} {l : List Int} (h : Pk w0 w pb l) (hb : Below w.heap.size w w') : Pk w0 w' pb l := by
 obtain ⟨v, h1, h2⟩ := h.ex
 exact ⟨behind h.below hb, h.hi, v, h1.low hb, Ow.below cellsByte h2 hb (Keeps.refl _)⟩
theorem Pk.put {w0 w w8 : World} {pb : Nat} {l l' : List Int} {v v' : Value} (hb : Below w0.heap.size w0 w) (hi : w0.heap.size ≤ pb) (h1 : Bk w pb 77 #[v]) (h2 : Ow 1 EByte 5 w (fun _ => none) w0.heap.size v l)
  (hO : Ow 1 EByte 5 w8 (fun _ => none) w0.heap.size v' l') (hB : Below w0.heap.size w w8) (hg : w.grownBy w8 v.ownBlock) : Pk w0 (w8.setCell ⟨pb, 0, none⟩ v') pb l' := by
 have h8 : Bk w8 pb 77 #[v] := Ow.left_bk h2 h1 (by decide) hg
 exact ⟨(hb.trans hB).setCell (p := ⟨pb, 0, none⟩) hi _, hi, v', h8.set 0 v', Ow.beside cellsByte hO (p := ⟨pb, 0, none⟩) (Ow.ne_bk hO h8 (by decide)) _⟩
def PkF (w w' : World) : Prop := ∀ b T cs, T ≠ 5 → T ≠ 77 → Bk w b T cs → Bk w' b T cs
theorem PkF.refl (w : World) : PkF w w := fun _ _ _ _ _ h => h
theorem PkF.trans {a b c : World} (h : PkF a b) (k : PkF b c) : PkF a c := fun x T cs h1 h2 h3 => k x T cs h1 h2 (h x T cs h1 h2 h3)
theorem PkF.put {w w8 : World} {ob : Obj} {base pb : Nat} {l : List Int} {v v' : Value} (h2 : Ow 1 EByte 5 (w.alloc ob) (fun _ => none) base v l) (h1 : Bk (w.alloc ob) pb 77 #[v])
  (hg : (w.alloc ob).grownBy w8 v.ownBlock) : PkF w (w8.setCell ⟨pb, 0, none⟩ v') := fun b T cs n1 n2 hb => by
 have k1 := Ow.left_bk h2 (hb.alloc ob) (Ne.symm n1) hg
 have k2 := Ow.left_bk h2 h1 (by decide) hg
 refine k1.far (p := ⟨pb, 0, none⟩) ?_ _
 rintro rfl
 unfold Bk at k1 k2
 rw [k1] at k2
 injection k2 with e
 injection e with _ e
 exact n2 e
def lowB (u : Int) : Int := u
def moreB (u : Int) : Int := bits BinOp.or IntKind.u8 (u % 256) 128
def unB (n : Int) : Int := if n < 0 then IntKind.u64.wrap (wrap64 (wrap64 (-2 * n) - 1)) else IntKind.u64.wrap (wrap64 (2 * n))
def packU : Nat → Int → List Int
 | 0, u => [lowB u]
 | f + 1, u => if 128 ≤ u then moreB u :: packU f (u / 128) else [lowB u]
theorem packU_len : ∀ (f : Nat) (u : Int), (packU f u).length ≤ f + 1
 | 0, u => by simp [packU]
 | f + 1, u => by
  unfold packU
  split
  ·have := packU_len f (u / 128); simp; omega
  ·simp
def packN (n : Int) : List Int := packU 10 (unB n)
def packS (l : List Int) : List Int := l.flatMap packN
def packL (l : List Int) : List Int := packN l.length ++ packS l
theorem packN_len (n : Int) : (packN n).length ≤ 11 := packU_len 10 _
theorem packS_len (l : List Int) : (packS l).length ≤ 11 * l.length := by
 induction l with
 | nil => simp [packS]
 | cons x l ih =>
  have := packN_len x
  simp only [packS, List.flatMap_cons, List.length_append, List.length_cons] at ih ⊢
  omega
theorem packS_snoc (l : List Int) (x : Int) : packS (l ++ [x]) = packS l ++ packN x := by simp [packS]
theorem packS_take {l : List Int} {j : Nat} {x : Int} (h : l[j]? = some x) : packS (l.take (j + 1)) = packS (l.take j) ++ packN x := by
 rw [List.take_add_one, h]; exact packS_snoc _ _
theorem packL_len (l : List Int) : (packL l).length ≤ 11 * (l.length + 1) := by
 have h1 := packN_len l.length
 have h2 := packS_len l
 simp only [packL, List.length_append]
 omega
end Go.Proofs.YtkcdgaijklhnaaaGreatDoor
namespace Go.Proofs.YtkcdgaijklhnaaaGreatDoor
open Go.RowKit
def packLs (l : List (List Int)) : List Int := l.flatMap packL
def mbytes (m : LModel) : List Int := packS [m.kind, m.vocab, m.width, m.top] ++ packLs (listsM m)
theorem packLs_take {l : List (List Int)} {j : Nat} {x : List Int} (h : l[j]? = some x) : packLs (l.take (j + 1)) = packLs (l.take j) ++ packL x := by
 rw [List.take_add_one, h]; simp [packLs]
theorem packLs_len (l : List (List Int)) (h : ∀ x ∈ l, x.length ≤ 2000) : (packLs l).length ≤ 22011 * l.length := by
 induction l with
 | nil => simp [packLs]
 | cons x l ih =>
  have h1 := packL_len x
  have h2 := h x (by simp)
  have h3 := ih fun y hy => h y (List.mem_cons_of_mem _ hy)
  simp only [packLs, List.flatMap_cons, List.length_append, List.length_cons] at h3 ⊢
  omega
end Go.Proofs.YtkcdgaijklhnaaaGreatDoor
namespace Go.Proofs.YtkcdgaijklhnaaaGreatDoor
open Go.RowKit
theorem inB_and {lo hi n : Int} (h : inB lo hi n = true) : lo ≤ n ∧ n ≤ hi := by
 simpa only [inB, Bool.and_eq_true, decide_eq_true_eq] using h
theorem all_and {l : List Int} {lo hi : Int} (h : l.all (inB lo hi) = true) : ∀ x ∈ l, lo ≤ x ∧ x ≤ hi := fun x hx => inB_and (List.all_eq_true.1 h x hx)
theorem rowsM_le {n w : Nat} (h : 1 ≤ rowsM n w) : n = rowsM n w * w := by
 unfold rowsM at h ⊢
 split at h
 ·rename_i h1
  rw [if_pos h1, Nat.div_mul_cancel (Nat.dvd_of_mod_eq_zero h1)]
 ·omega
theorem GenM.of_ok {m : LModel} (h : chkM m = 0) : GenM m := by
 unfold chkM at h
 split at h
 ·rename_i h1
  obtain ⟨hk, hv1, hv2, hd1, hd2⟩ := sizedM_in h1
  split at h
  ·rename_i h2
   split at h
   ·rename_i h3
    split at h
    ·rename_i h4
     simp only [formM, Bool.and_eq_true, beq_iff_eq] at h3
     obtain ⟨⟨⟨f1, ⟨⟨⟨f2, f3⟩, f4⟩, f5⟩⟩, f6⟩, f7⟩ := h3
     simp only [valM, Bool.and_eq_true] at h4
     obtain ⟨⟨⟨⟨v1, v2⟩, v3⟩, v4⟩, v5⟩ := h4
     have v2' := all_and v2
     have f5' := inB_and f5
     have f6' := inB_and f6
     have f7' := inB_and f7
     have hw : m.width.toNat = m.width := Int.toNat_of_nonneg (by omega)
     have sub : ∀ {l : List Int}, l ∈ [m.embed, m.place, m.mix, m.out] → ∀ x ∈ l, -128 ≤ x ∧ x ≤ 127 := fun hl x hx => v2' x (List.mem_flatten.2 ⟨_, hl, hx⟩)
     refine ⟨by omega, ⟨hv1, hv2⟩, ⟨hd1, hd2⟩, inB_and h2, ⟨by omega, all_and v1⟩, ⟨f3, sub (by simp)⟩, ⟨⟨(rowsM m.place.length m.width.toNat : Nat), f5'.1, f5'.2, ?_⟩, sub (by simp)⟩, ⟨?_, sub (by simp)⟩, ⟨f4, sub (by simp)⟩, ⟨by omega, all_and v3⟩, ⟨by omega, all_and v4, ?_⟩⟩
     ·have := rowsM_le (n := m.place.length) (w := m.width.toNat) (by omega)
      have e : ((rowsM m.place.length m.width.toNat * m.width.toNat : Nat) : Int) = (rowsM m.place.length m.width.toNat : Nat) * m.width := by push_cast; rw [hw]
      omega
     ·unfold mixM at f1
      by_cases c1 : m.kind = 1
      ·rw [if_pos c1, beq_iff_eq] at f1
       exact ⟨3, by omega, by omega, fun _ => rfl, fun c => by omega, f1⟩
      ·rw [if_neg c1] at f1
       by_cases c2 : m.kind = 2
       ·rw [if_pos c2, beq_iff_eq] at f1
        exact ⟨2, by omega, by omega, fun c => by omega, fun _ => rfl, f1⟩
       ·rw [if_neg c2] at f1
        have f1' := inB_and f1
        have hdd := dd_small ⟨hd1, hd2⟩
        refine ⟨(rowsM m.mix.length (m.width * m.width).toNat : Nat), f1'.1, f1'.2, fun c => absurd c c1, fun c => absurd c c2, ?_⟩
        have := rowsM_le (n := m.mix.length) (w := (m.width * m.width).toNat) (by omega)
        have e : ((rowsM m.mix.length (m.width * m.width).toNat * (m.width * m.width).toNat : Nat) : Int) = (rowsM m.mix.length (m.width * m.width).toNat : Nat) * m.width * m.width := by
         push_cast
         rw [Int.toNat_of_nonneg (by omega), Int.mul_assoc]
        omega
     ·cases ho : m.odds with
      | nil => rw [ho] at f7'; simp at f7'
      | cons a l =>
       refine ⟨a, rfl, ?_⟩
       have h5 := all_and v4 a (by rw [ho]; simp)
       rw [ho] at v5
       simp at v5
       omega
    ·cases h
   ·cases h
  ·cases h
 ·rename_i h1
  exact absurd h h1
end Go.Proofs.YtkcdgaijklhnaaaGreatDoor
namespace Go.Proofs.YtkcdgaijklhnaaaGreatDoor
open Go.RowKit Go.ChangeShapes
theorem laid_out : laidOutB Tryz.prog = true := by kernel_rfl
theorem readable_ints : Tryz.prog.readableRec 22 = true := by kernel_rfl
theorem row_ints : 22 < Tryz.prog.types.size := of_decide_eq_true (by kernel_rfl)
theorem cells_int : Tryz.prog.cellsOf 3 = 1 := by kernel_rfl
set_option maxRecDepth 100000 in
theorem li_of {H : Type} {enc : TypeId × Value → H} {W : World} {base : Nat} {v : Value} {d : DataW H} {p : List MemPlace}
  (hv : Value.okWide Tryz.prog W .any base 22 v) (h : DataW.Trod enc Tryz.prog W 0 (fun _ => true) true 22 v d p) : ∃ xs, LI W v xs := by
 obtain ⟨A, n, c, rfl⟩ := Go.WideShapes.okWide_slice Tryz.underlying22 hv
 obtain ⟨fuel, hf⟩ := h
 rcases open_ints Tryz.underlying22 Tryz.underlying3 cells_int hf with ⟨hcs, -⟩ | ⟨a, len, cap, zs, hcs, -, hle, hmax, hall, -, hcell, hwf⟩
 ·simp [Value.cells] at hcs
  obtain ⟨rfl, rfl, rfl⟩ := hcs
  exact ⟨[], Sl.nil_ W, Nat.zero_le _, fun x hx => by cases hx⟩
 ·simp [Value.cells] at hcs
  obtain ⟨rfl, rfl, rfl⟩ := hcs
  simp only [if_true] at hall
  have hl : (zs.take n).length = n := by rw [List.length_take]; omega
  refine ⟨zs.take n, ⟨some a, c, by rw [i64s_length, hl], by rw [i64s_length, hl]; exact hle, hmax, fun h0 => ?_⟩, by rw [hl]; omega, fun x hx => ?_⟩
  ·rw [i64s_length, hl] at h0
   obtain ⟨b, off, rfl, hc⟩ := ints_at hcell (by omega)
   refine ⟨b, off, rfl, fun j u hu => ?_⟩
   have hj : j < n := by
    have := (List.getElem?_eq_some_iff.1 hu).1
    rwa [i64s_length, hl] at this
   rw [i64s_at (by rw [hl]; exact hj)] at hu
   injection hu with hu
   subst hu
   rw [hc j (by omega)]
   simp [hj]
  ·exact bounds_i64 (hwf x (List.mem_of_mem_take hx))
end Go.Proofs.YtkcdgaijklhnaaaGreatDoor
namespace Go.Proofs.YtkcdgaijklhnaaaGreatDoor
theorem goes_none {P : Program} (h : P.funcs.toList.all (fun fn => !Func.goes fn) = true) (start : Start) (func : String) : P.goesAt start func = false := by
 have hall : ∀ fn ∈ P.funcs, Func.goes fn = false := fun fn hf => by
  have := List.all_eq_true.1 h fn (by simpa using hf)
  simpa using this
 have hany : P.funcs.any Func.goes = false := by
  rw [Array.any_eq_false']
  intro x hx
  rw [hall x hx]
  decide
 have hg : ∀ f, P.goes f = false := fun f => by
  unfold Program.goes
  rw [hany, Bool.and_false, Bool.or_false]
  rw [List.any_eq_false]
  intro g _
  cases he : P.funcs[g]? with
  | none => simp
  | some fn => simp [hall fn (Array.mem_of_getElem? he)]
 have hf : P.goesFrom func = false := by
  unfold Program.goesFrom
  cases P.funcNamed func with
  | none => rfl
  | some f => exact hg f
 unfold Program.goesAt
 rw [hf, Bool.false_or]
 cases start <;> first | rfl | (simp only [List.any_eq_false]; intro f _; rw [hg f]; decide)
theorem no_go : Tryz.prog.funcs.toList.all (fun fn => !Func.goes fn) = true := by kernel_rfl
end Go.Proofs.YtkcdgaijklhnaaaGreatDoor
