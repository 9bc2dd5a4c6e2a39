/-
  What a valid text says: its digits, its two numbers, and the sizes.
-/
import Derived.Test.YtaibpeokfbokfaaGreatDoorRD
import Derived.Test.YtaibpeokfbokfaaGreatDoorMake
namespace Go.Proofs.YtaibpeokfbokfaaGreatDoor
open Go.RowKit Go.Shelf

theorem dv_pos {l : List UInt8} (h : digB l = true) (h0 : (l == [48]) = false) : 0 < Mth.dv l := by
  simp only [digB, Bool.and_eq_true, Bool.or_eq_true, bne_iff_ne] at h
  obtain ⟨⟨h1, h2⟩, h3⟩ := h
  cases l with
  | nil => cases h1
  | cons c r =>
    have h4 : ¬ c = 48 := by
      rcases h3 with h3 | h3
      · intro e; exact h3 (by rw [e]; rfl)
      · rw [h3] at h0; cases h0
    simp only [List.all_cons, Bool.and_eq_true, Mth.isD, decide_eq_true_eq] at h2
    have h5 : c.toNat ≠ 48 := fun e => h4 (UInt8.toNat.inj (by rw [e]; rfl))
    rw [Mth.dv_cons]
    have h6 : 0 < (c.toNat - 48) * 10 ^ r.length := Nat.mul_pos (by omega) (Nat.pow_pos (by omega))
    omega
/-- what a valid text says -/
theorem valid_of {nl dl : List UInt8} (h : chkOf nl dl = 0) : digB (cutNum nl) = true ∧ digB dl = true ∧ 0 < Mth.dv dl := by
  unfold chkOf chk at h
  by_cases hc : (!digB (cutNum nl) || !digB dl || dl == [48]) = true
  · rw [if_pos hc] at h; cases h
  · simp only [Bool.not_eq_true, Bool.or_eq_false_iff, Bool.not_eq_false'] at hc
    exact ⟨hc.1.1, hc.1.2, dv_pos hc.1.2 hc.2⟩
theorem dv_len {b k : Nat} (hb : 10 ≤ b) {l : List UInt8} (h : digB l = true) (hk : l.length ≤ k) : (Mth.dg b (Mth.dv l)).length ≤ k :=
  Nat.le_trans (Mth.dg_len_le (by omega) l.length _ (Nat.lt_of_lt_of_le (Mth.dv_lt l (digB_all h)) (Nat.pow_le_pow_left hb _))) hk
theorem cut_len (nl : List UInt8) : (cutNum nl).length ≤ nl.length := by unfold cutNum Lib.trimPrefix; split <;> simp
theorem rnum_le (m n : Nat) : rnum m n ≤ m := by
  unfold rnum; split
  · omega
  · exact Nat.div_le_self _ _
theorem rden_le {m n : Nat} (hn : 0 < n) : rden m n ≤ n := by
  unfold rden; split
  · omega
  · exact Nat.div_le_self _ _
/-- the reading of a text: the sign, the number above, the number below -/
def pN (nl : List UInt8) : Nat := Mth.dv (cutNum nl)
theorem rat_str (neg : Bool) (m n : Nat) (va vb : Value) (w : World) (ha : Nt w va m) (hb : Nt w vb n) (hs : (Mth.dg 1000000000 m).length ≤ 1000000000000) (ht : (Mth.dg 1000000000 n).length ≤ 1000000000000) (htab : Tabs w) :
    Calls Tryz.prog 82 #[.agg #[.bool neg, va, vb]] w fun e w' => e = .returned (.agg #[.string ⟨(numBytes neg m).toArray⟩, .string ⟨(Lib.decDigits n).toArray⟩]) ∧ Below w.heap.size w w' := by
  refine (rat_any neg m n va vb w ha hb hs ht htab).mono ?_
  rintro e w' ⟨S, T, rfl, hS, hT, hB⟩
  rw [str_eq hS, str_eq hT]
  exact ⟨rfl, hB⟩
theorem chk2_zero {a b : Int} (h : chk2 a b = 0) : a = 0 ∧ b = 0 := by
  unfold chk2 at h
  by_cases h1 : a = 0
  · rw [if_pos h1] at h; exact ⟨h1, h⟩
  · rw [if_neg h1] at h; exact absurd h h1
end Go.Proofs.YtaibpeokfbokfaaGreatDoor
