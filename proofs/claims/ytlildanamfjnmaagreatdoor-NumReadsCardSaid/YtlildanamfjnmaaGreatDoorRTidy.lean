/-
  (nat).tidy of the reference: without the zeros at the end.
-/
import Derived.Test.YtlildanamfjnmaaGreatDoorRBase
import Derived.Outline
namespace Go.Proofs.YtlildanamfjnmaaGreatDoor
open Go.RowKit

set_option maxHeartbeats 400000 in
set_option maxRecDepth 100000 in
theorem tidy_own (l : List Nat) (v : Value) (w : World) (h : Sl w v (n64s l)) (hs : l.length ≤ 9000000000000) :
    Calls Tryz.prog 108 #[v] w fun e w' => ∃ v', e = .returned v' ∧ Sl w v' (n64s (Mth.tidy l)) ∧ v'.ownBlock = v.ownBlock ∧ w = w' := by
  have HS := Lib.hid h
  obtain ⟨A, c, rfl, h1, h2, h3⟩ := h
  simp only [n64s_length] at *
  unfold maxLen at h2
  have H3 := Lib.hid h3
  clear h3
  go_enter Tryz.func108, Tryz.ntmps108
  go_wp2
  go_loop [0] (fun a0 => ∃ k : Nat, a0 = .slice A k c ∧ k ≤ l.length ∧ Mth.tidy (l.take k) = Mth.tidy l) (fun a0 => lenOf a0)
  case atStart => exact ⟨l.length, rfl, Nat.le_refl _, by rw [List.take_length]⟩
  case round =>
    obtain ⟨k, rfl, hk, ht⟩ := hrel
    have HT := Lib.hid ht
    clear ht
    by_cases h0 : k = 0
    · subst h0
      go_wp2
      go_ret
      have hd := HT.out
      refine ⟨_, rfl, ?_, by first | rfl | (cases A <;> rfl), rfl⟩
      rw [← hd]
      exact HS.out.head (k := 0) (by simp)
    · obtain ⟨q, rfl⟩ : ∃ q, k = q + 1 := ⟨k - 1, by omega⟩
      obtain ⟨b, o, rfl, hc⟩ := H3.out (by omega)
      have hcell : w.cell? ⟨b, o + q, none⟩ = some (.int .i64 ((l[q]?.getD 0 : Nat) : Int)) := hc q _ (by
        rw [n64s_get, List.getElem?_eq_getElem (by omega)]; rfl)
      clear hc
      by_cases hz : l[q]?.getD 0 = 0
      · rw [hz] at hcell
        have hd := HT.out
        rw [take_snoc_nat l q (by omega), hz, Mth.tidy_snoc_zero] at hd
        have HD := Lib.hid hd
        clear hd hz
        go_wp2
        go_round
        case rel => exact ⟨q, rfl, by omega, HD.out⟩
        case measure => simp [lenOf]
      · have hne : (((l[q]?.getD 0 : Nat) : Int) == 0) = false := by simp; omega
        have hd := HT.out
        rw [take_snoc_nat l q (by omega), Mth.tidy_snoc hz, ← take_snoc_nat l q (by omega)] at hd
        have HD := Lib.hid hd
        clear hd hz
        go_wp2
        go_ret
        refine ⟨_, rfl, ?_, by first | rfl | (cases A <;> rfl), rfl⟩
        rw [← HD.out]
        have := HS.out.head (k := q + 1) (by rw [n64s_length]; omega)
        rwa [n64s, ← List.map_take] at this
theorem tidy_any (l : List Nat) (v : Value) (w : World) (h : Sl w v (n64s l)) (hs : l.length ≤ 9000000000000) :
    Calls Tryz.prog 108 #[v] w fun e w' => ∃ v', e = .returned v' ∧ Sl w v' (n64s (Mth.tidy l)) ∧ w = w' :=
  (tidy_own l v w h hs).mono fun _ _ ⟨v', h1, h2, _, h3⟩ => ⟨v', h1, h2, h3⟩
end Go.Proofs.YtlildanamfjnmaaGreatDoor
