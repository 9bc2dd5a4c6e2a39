/-
  num.Pick.
-/
import Derived.Test.YtldjemlmjfpmjaaGreatDoorDraw
import Derived.Test.YtldjemlmjfpmjaaGreatDoorInts
namespace Go.Proofs.YtldjemlmjfpmjaaGreatDoor
open Go.RowKit

theorem wrap_u64_nn (x : Int) : 0 ≤ IntKind.u64.wrap x ∧ IntKind.u64.wrap x ≤ 18446744073709551615 := by
  simp [IntKind.wrap, IntKind.signed, IntKind.bits]; omega
theorem mix4_nn (x : Int) : 0 ≤ mix4 x := by
  unfold mix4 bits
  obtain ⟨y, hy⟩ : ∃ y, y = IntKind.u64.wrap (match BinOp.xor with
    | .and => BitVec.ofInt IntKind.u64.bits x &&& BitVec.ofInt IntKind.u64.bits (x / 2147483648)
    | .or => BitVec.ofInt IntKind.u64.bits x ||| BitVec.ofInt IntKind.u64.bits (x / 2147483648)
    | .xor => BitVec.ofInt IntKind.u64.bits x ^^^ BitVec.ofInt IntKind.u64.bits (x / 2147483648)
    | _ => BitVec.ofInt IntKind.u64.bits x &&& ~~~BitVec.ofInt IntKind.u64.bits (x / 2147483648)).toNat := ⟨_, rfl⟩
  have h := wrap_u64_nn (match BinOp.xor with
    | .and => BitVec.ofInt IntKind.u64.bits x &&& BitVec.ofInt IntKind.u64.bits (x / 2147483648)
    | .or => BitVec.ofInt IntKind.u64.bits x ||| BitVec.ofInt IntKind.u64.bits (x / 2147483648)
    | .xor => BitVec.ofInt IntKind.u64.bits x ^^^ BitVec.ofInt IntKind.u64.bits (x / 2147483648)
    | _ => BitVec.ofInt IntKind.u64.bits x &&& ~~~BitVec.ofInt IntKind.u64.bits (x / 2147483648)).toNat
  rw [← hy] at h
  show 0 ≤ wrap64 (_ / 4294967296)
  rw [← hy]
  unfold wrap64
  omega
theorem drawn_nn (s k : Int) : 0 ≤ drawV s k := mix4_nn _
theorem below_nn (s k L : Int) : ∀ (r : Nat) (u : Int), 0 ≤ (below s k L r u).1
  | 0, u => drawn_nn _ _
  | r + 1, u => by
    unfold below
    split
    · exact drawn_nn _ _
    · exact below_nn s k L r (u + 1)
/-- a number that is drawV below n -/
def dv (s k n : Int) : Int := (below s k (lim n) 63 0).1.tmod n
def du (s k n : Int) : Int := (below s k (lim n) 63 0).2
theorem dv_in (s k n : Int) (h : 1 ≤ n) : 0 ≤ dv s k n ∧ dv s k n < n := by
  have h0 := below_nn s k (lim n) 63 0
  unfold dv
  rw [Int.tmod_eq_emod_of_nonneg h0]
  exact ⟨Int.emod_nonneg _ (by omega), Int.emod_lt_of_pos _ (by omega)⟩

def good (x : Int) : Bool := decide (0 ≤ x) && decide (x ≤ 1000000)
def sumI : List Int → Int
  | [] => 0
  | x :: l => x + sumI l
theorem sumI_append (l m : List Int) : sumI (l ++ m) = sumI l + sumI m := by
  induction l with
  | nil => simp [sumI]
  | cons x l ih => simp [sumI, ih]; omega
theorem sumI_take {l : List Int} {k : Nat} (h : k < l.length) : sumI (l.take (k + 1)) = sumI (l.take k) + l[k]?.getD 0 := by
  rw [List.take_add_one, sumI_append, List.getElem?_eq_getElem h]
  simp [sumI]
theorem sumI_good {l : List Int} (h : ∀ x ∈ l, good x = true) : 0 ≤ sumI l ∧ sumI l ≤ 1000000 * l.length := by
  induction l with
  | nil => simp [sumI]
  | cons x l ih =>
    have h1 := h x (by simp)
    have h2 := ih fun y hy => h y (by simp [hy])
    simp [good] at h1
    simp [sumI]
    omega
/-- the index of a weight -/
def pk : List Int → Int → Nat → Nat
  | [], _, i => i
  | x :: l, v, i => if x ≤ v then pk l (v - x) (i + 1) else i
theorem pk_yes {l : List Int} {i : Nat} {v : Int} (h : i < l.length) (hx : l[i]?.getD 0 ≤ v) : pk (l.drop i) v i = pk (l.drop (i + 1)) (v - l[i]?.getD 0) (i + 1) := by
  rw [List.getElem?_eq_getElem h] at hx ⊢
  rw [List.drop_eq_getElem_cons h, pk, if_pos (by simpa using hx)]
  rfl
theorem pk_no {l : List Int} {i : Nat} {v : Int} (h : i < l.length) (hx : ¬ l[i]?.getD 0 ≤ v) : pk (l.drop i) v i = i := by
  rw [List.getElem?_eq_getElem h] at hx
  rw [List.drop_eq_getElem_cons h, pk, if_neg (by simpa using hx)]
theorem sum_drop {l : List Int} {i : Nat} (h : i < l.length) : sumI (l.drop i) = l[i]?.getD 0 + sumI (l.drop (i + 1)) := by
  rw [List.drop_eq_getElem_cons h, sumI, List.getElem?_eq_getElem h]; rfl
theorem sum_drop_end {l : List Int} {i : Nat} {v : Int} (h0 : 0 ≤ v) (h : v < sumI (l.drop i)) : i < l.length := by
  apply Nat.lt_of_not_le
  intro h1
  rw [List.drop_of_length_le h1, sumI] at h
  omega

/-- what Pick gives -/
def pickOf (s k : Int) (ws : List Int) : Int × Int × Int :=
  if ws.length = 0 then (0, 0, 11) else if 1024 < ws.length then (0, 0, 2)
  else if ws.all good then (if sumI ws = 0 then (0, 0, 23) else (((pk ws (dv s k (sumI ws)) 0 : Nat) : Int), du s k (sumI ws), 0)) else (0, 0, 9)
def PickPost (s k : Int) (ws : List Int) (w : World) (e : Ending) (w' : World) : Prop :=
  e = .returned (.tuple #[.int .i64 (pickOf s k ws).1, .int .i64 (pickOf s k ws).2.1, .int .i64 (pickOf s k ws).2.2]) ∧ w' = w
theorem pickOf_bad {s k : Int} {ws : List Int} (h1 : 1 ≤ ws.length) (h2 : ws.length ≤ 1024) {j : Nat} (hj : j < ws.length) (hb : ¬ good (ws[j]?.getD 0) = true) : pickOf s k ws = (0, 0, 9) := by
  unfold pickOf
  rw [if_neg (by omega), if_neg (by omega), if_neg]
  intro ha
  apply hb
  rw [List.getElem?_eq_getElem hj]
  exact List.all_eq_true.1 ha _ (List.getElem_mem hj)
theorem pickOf_zero {s k : Int} {ws : List Int} (h1 : 1 ≤ ws.length) (h2 : ws.length ≤ 1024) (hg : ∀ x ∈ ws, good x = true) (h0 : sumI ws = 0) : pickOf s k ws = (0, 0, 23) := by
  unfold pickOf
  rw [if_neg (by omega), if_neg (by omega), if_pos (List.all_eq_true.2 hg), if_pos h0]
theorem pickOf_ok {s k : Int} {ws : List Int} (h1 : 1 ≤ ws.length) (h2 : ws.length ≤ 1024) (hg : ∀ x ∈ ws, good x = true) (h0 : ¬ sumI ws = 0) : pickOf s k ws = (((pk ws (dv s k (sumI ws)) 0 : Nat) : Int), du s k (sumI ws), 0) := by
  unfold pickOf
  rw [if_neg (by omega), if_neg (by omega), if_pos (List.all_eq_true.2 hg), if_neg h0]
theorem take_good {ws : List Int} {j : Nat} (h : ∀ x ∈ ws.take j, good x = true) (hj : j < ws.length) (hg : good (ws[j]?.getD 0) = true) : ∀ x ∈ ws.take (j + 1), good x = true := by
  intro x hx
  rw [List.take_add_one, List.mem_append] at hx
  rcases hx with hx | hx
  · exact h x hx
  · rw [List.getElem?_eq_getElem hj] at hx hg
    simp at hx hg
    subst hx
    exact hg

end Go.Proofs.YtldjemlmjfpmjaaGreatDoor
