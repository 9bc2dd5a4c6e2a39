/-
  The reference's numbers: parts of four decimal digits, the lowest first.
-/
import Derived.Test.YtlildanamfjnmaaGreatDoorInts
import Derived.Outline
namespace Go.Proofs.YtlildanamfjnmaaGreatDoor
open Go.RowKit

def n64s (l : List Nat) : List Value := l.map fun d : Nat => .int .i64 (d : Int)
theorem n64s_length (l : List Nat) : (n64s l).length = l.length := by simp [n64s]
theorem n64s_append (l m : List Nat) : n64s (l ++ m) = n64s l ++ n64s m := by simp [n64s]
theorem n64s_get (l : List Nat) (j : Nat) : (n64s l)[j]? = (l[j]?).map fun d : Nat => Value.int .i64 (d : Int) := by simp [n64s]
theorem n64s_at {l : List Nat} {j : Nat} (h : j < l.length) : (n64s l)[j]? = some (.int .i64 ((l[j]?.getD 0 : Nat) : Int)) := by
  rw [n64s_get, List.getElem?_eq_getElem h]; rfl

/-- the slice value v holds the number n: its parts to the base 10^4, the lowest first -/
def Pt (w : World) (v : Value) (n : Nat) : Prop := Sl w v (n64s (Mth.dg 10000 n))
theorem Pt.below {w w' : World} {v : Value} {n : Nat} (h : Pt w v n) (hb : Below w.heap.size w w') : Pt w' v n := Sl.below h hb
theorem Pt.shape {w : World} {v : Value} {n : Nat} (h : Pt w v n) : ∃ A k c, v = .slice A k c := by
  obtain ⟨A, c, e, _⟩ := h
  exact ⟨_, _, _, e⟩
theorem Pt.zero (w : World) : Pt w (.slice none 0 0) 0 := by
  unfold Pt; rw [Mth.dg_zero]; exact Sl.nil_ w
theorem info_int : (Tryz.prog.info? 3).map (fun i => (i.zero, i.size, i.bytes)) = some (some (.int .i64 0), 1, 8) := by kernel_rfl
end Go.Proofs.YtlildanamfjnmaaGreatDoor
