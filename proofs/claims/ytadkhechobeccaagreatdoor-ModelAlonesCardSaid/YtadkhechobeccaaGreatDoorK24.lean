/-
  num.Draw and the reference's Drawn, as calls of the value machine.
-/
import Derived.Test.YtadkhechobeccaaGreatDoorK04
import Derived.Test.YtadkhechobeccaaGreatDoorK01
namespace Go.Proofs.YtadkhechobeccaaGreatDoor
open Go.RowKit
def mix1 (s k : Int) : Int := IntKind.u64.wrap (IntKind.u64.wrap s + IntKind.u64.wrap (IntKind.u64.wrap (IntKind.u64.wrap k + 1) * 11400714819323198485))
def mix2 (x : Int) : Int := IntKind.u64.wrap (bits BinOp.xor IntKind.u64 x (x / 1073741824) * 13787848793156543929)
def mix3 (x : Int) : Int := IntKind.u64.wrap (bits BinOp.xor IntKind.u64 x (x / 134217728) * 10723151780598845931)
def mix4 (x : Int) : Int := wrap64 (bits BinOp.xor IntKind.u64 x (x / 2147483648) / 4294967296)
def drawV (s k : Int) : Int := mix4 (mix3 (mix2 (mix1 s k)))
theorem draw_any (s k : Int) (w : World) : Calls Tryz.prog 59 #[.int .i64 s, .int .i64 k] w fun e w' => e = .returned (.int .i64 (drawV s k)) ∧ w' = w := by
  go_enter Tryz.func59, Tryz.ntmps59
  go_wp2
  go_ret
  exact ⟨rfl, rfl⟩
theorem drawn_any (s k : Int) (w : World) : Calls Tryz.prog 61 #[.int .i64 s, .int .i64 k] w fun e w' => e = .returned (.int .i64 (drawV s k)) ∧ w' = w := by
  go_enter Tryz.func61, Tryz.ntmps61
  go_wp2
  go_ret
  exact ⟨rfl, rfl⟩
theorem wrap_u64_rng (x : Int) : 0 ≤ IntKind.u64.wrap x ∧ IntKind.u64.wrap x ≤ 18446744073709551615 := by
  simp [IntKind.wrap, IntKind.signed, IntKind.bits]; omega
theorem mix4_rng (x : Int) : 0 ≤ mix4 x ∧ mix4 x < 4294967296 := by
  unfold mix4 bits
  obtain ⟨y, hy⟩ : ∃ y, y = IntKind.u64.wrap (match BinOp.xor with
    | .and => BitVec.ofInt IntKind.u64.bits x &&& BitVec.ofInt IntKind.u64.bits (x / 2147483648)
    | .or => BitVec.ofInt IntKind.u64.bits x ||| BitVec.ofInt IntKind.u64.bits (x / 2147483648)
    | .xor => BitVec.ofInt IntKind.u64.bits x ^^^ BitVec.ofInt IntKind.u64.bits (x / 2147483648)
    | _ => BitVec.ofInt IntKind.u64.bits x &&& ~~~BitVec.ofInt IntKind.u64.bits (x / 2147483648)).toNat := ⟨_, rfl⟩
  have h := wrap_u64_rng (match BinOp.xor with
    | .and => BitVec.ofInt IntKind.u64.bits x &&& BitVec.ofInt IntKind.u64.bits (x / 2147483648)
    | .or => BitVec.ofInt IntKind.u64.bits x ||| BitVec.ofInt IntKind.u64.bits (x / 2147483648)
    | .xor => BitVec.ofInt IntKind.u64.bits x ^^^ BitVec.ofInt IntKind.u64.bits (x / 2147483648)
    | _ => BitVec.ofInt IntKind.u64.bits x &&& ~~~BitVec.ofInt IntKind.u64.bits (x / 2147483648)).toNat
  rw [← hy] at h
  show 0 ≤ wrap64 (_ / 4294967296) ∧ wrap64 (_ / 4294967296) < 4294967296
  rw [← hy]
  unfold wrap64
  omega
theorem drawV_rng (s k : Int) : 0 ≤ drawV s k ∧ drawV s k < 4294967296 := mix4_rng _
end Go.Proofs.YtadkhechobeccaaGreatDoor
namespace Go.Proofs.YtadkhechobeccaaGreatDoor.Vm
open Go.RowKit
section
variable {T : Tbl} {M : Nat → Bool} {st : St} {K : V → St → Prop} {Kp : List PanicEntry → St → Prop}
theorem draw_v (s k : Int) (hK : K (I (drawV s k)) st) : CallV Tryz.prog T M 59 [I s, I k] st K Kp :=
  CallV.of_calls (us := [.int .i64 s, .int .i64 k]) (u := .int .i64 (drawV s k)) (by kernel_rfl) (fun w => (draw_any s k w).mono fun _e w' ⟨h1, h2⟩ => ⟨h1, by rw [h2]; exact Below.refl _ w⟩) rfl hK
theorem drawn_v (s k : Int) (hK : K (I (drawV s k)) st) : CallV Tryz.prog T M 61 [I s, I k] st K Kp :=
  CallV.of_calls (us := [.int .i64 s, .int .i64 k]) (u := .int .i64 (drawV s k)) (by kernel_rfl) (fun w => (drawn_any s k w).mono fun _e w' ⟨h1, h2⟩ => ⟨h1, by rw [h2]; exact Below.refl _ w⟩) rfl hK
end
end Go.Proofs.YtadkhechobeccaaGreatDoor.Vm
