/-
  num.Draw, num.Below and the reference's Drawn, DrawnBelow.
-/
import Derived.Test.YtldjemlmjfpmjaaGreatDoorRound
namespace Go.Proofs.YtldjemlmjfpmjaaGreatDoor
open Go.RowKit

def mix1 (s k : Int) : Int := IntKind.u64.wrap (IntKind.u64.wrap s + IntKind.u64.wrap (IntKind.u64.wrap (IntKind.u64.wrap k + 1) * 11400714819323198485))
def mix2 (x : Int) : Int := IntKind.u64.wrap (bits BinOp.xor IntKind.u64 x (x / 1073741824) * 13787848793156543929)
def mix3 (x : Int) : Int := IntKind.u64.wrap (bits BinOp.xor IntKind.u64 x (x / 134217728) * 10723151780598845931)
def mix4 (x : Int) : Int := wrap64 (bits BinOp.xor IntKind.u64 x (x / 2147483648) / 4294967296)
/-- the number that is drawV -/
def drawV (s k : Int) : Int := mix4 (mix3 (mix2 (mix1 s k)))

theorem draw_any (s k : Int) (w : World) : Calls Tryz.prog 41 #[.int .i64 s, .int .i64 k] w fun e w' => e = .returned (.int .i64 (drawV s k)) ∧ w' = w := by
  go_enter Tryz.func41, Tryz.ntmps41
  go_wp2
  go_ret
  exact ⟨rfl, rfl⟩
theorem drawn_any (s k : Int) (w : World) : Calls Tryz.prog 47 #[.int .i64 s, .int .i64 k] w fun e w' => e = .returned (.int .i64 (drawV s k)) ∧ w' = w := by
  go_enter Tryz.func47, Tryz.ntmps47
  go_wp2
  go_ret
  exact ⟨rfl, rfl⟩

/-- draws until one lies below the limit, 64 at most: the number, and how many were drawV; r: how many may still follow, u: how many were drawV -/
def below (s k lim : Int) : Nat → Int → Int × Int
  | 0, u => (drawV s (wrap64 (k + u)), u + 1)
  | r + 1, u => if drawV s (wrap64 (k + u)) < lim then (drawV s (wrap64 (k + u)), u + 1) else below s k lim r (u + 1)

theorem below_hit {s k lim : Int} {r : Nat} {u : Int} (h : drawV s (wrap64 (k + u)) < lim) : below s k lim r u = (drawV s (wrap64 (k + u)), u + 1) := by
  cases r with
  | zero => rfl
  | succ r => rw [below, if_pos h]
theorem below_miss {s k lim : Int} {r : Nat} {u : Int} (h : ¬ drawV s (wrap64 (k + u)) < lim) : below s k lim (r + 1) u = below s k lim r (u + 1) := by
  rw [below, if_neg h]

/-- the limit of draws -/
def lim (n : Int) : Int := 4294967296 - 4294967296 % n

end Go.Proofs.YtldjemlmjfpmjaaGreatDoor
