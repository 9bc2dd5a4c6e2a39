/-
  slices.IndexFunc, slices.ContainsFunc over slices of ints.
-/
import Derived.Test.YtlildanamfjnmaaGreatDoorInts
namespace Go.Proofs.YtlildanamfjnmaaGreatDoor
open Go.RowKit

/-- the function F answers as p -/
def Answers (F : Nat) (p : Int → Bool) : Prop := ∀ (x : Int) (W : World), Calls Tryz.prog F #[.int .i64 x] W fun e w' => e = .returned (.bool (p x)) ∧ w' = W

def IdxPost (p : Int → Bool) (ws : List Int) (w : World) (e : Ending) (w' : World) : Prop := ∃ z : Int, e = .returned (.int .i64 z) ∧ (0 ≤ z ↔ ws.any p = true) ∧ w' = w

set_option maxHeartbeats 1000000 in
set_option maxRecDepth 100000 in
theorem indexFunc_any (F : Nat) (p : Int → Bool) (eF : ∀ args w, (callFunc F args).run Tryz.prog w = .ok (.enter F args) w) (hF : Answers F p) (ws : List Int) (v : Value) (w : World) (hv : LI w v ws) :
    Calls Tryz.prog 58 #[v, .func (.func F) #[] #[]] w (IdxPost p ws w) := by
  obtain ⟨A, c, rfl⟩ := hv.form
  have hmx := hv.2.1
  unfold maxLen at hmx
  have HV := Lib.hid hv
  obtain ⟨n, hn⟩ : ∃ n, ws.length = n := ⟨_, rfl⟩
  rw [hn] at hmx HV ⊢
  have HL := Lib.hid hn
  have HF := Lib.hid hF
  have hn2 : (n : Int) ≤ 9223372036854775807 := by omega
  clear hv hn hF
  go_enter Tryz.func58, Tryz.ntmps58
  go_wp2
  go_loopw [8] (fun a8 wr => ∃ j : Nat, a8 = .int .i64 j ∧ wr = w ∧ j ≤ n ∧ (ws.take j).any p = false) (fun a8 _ => n - (intOf a8).toNat)
  case atStart => exact ⟨0, rfl, rfl, by omega, rfl⟩
  case round =>
    obtain ⟨j, rfl, rfl, hj, hp⟩ := hrel
    have HP := Lib.hid hp
    clear hp
    by_cases hlt : j < n
    · have hlt2 : (j : Int) < (n : Int) := by omega
      obtain ⟨b, o, rfl, hc⟩ := HV.out.at_ (by rw [HL.out]; omega)
      have hcj := hc j (by rw [HL.out]; exact hlt)
      obtain ⟨x, hx⟩ : ∃ x, ws[j]?.getD 0 = x := ⟨_, rfl⟩
      rw [hx] at hcj
      have HX := Lib.hid hx
      clear hx hc
      obtain ⟨bx, hbx⟩ : ∃ bx, p x = bx := ⟨_, rfl⟩
      have hf := HF.out x
      rw [hbx] at hf
      have HFX := Lib.hid hf
      have HBX := Lib.hid hbx
      clear hf hbx
      go_wp2_with fail
      refine (HFX.out _).mono ?_
      rintro e w1 ⟨rfl, rfl⟩
      cases bx with
      | true =>
        go_wp2
        go_ret
        refine ⟨j, rfl, ⟨fun _ => ?_, fun _ => by omega⟩, rfl⟩
        rw [List.any_eq_true]
        refine ⟨x, ?_, HBX.out⟩
        have hjl : j < ws.length := by rw [HL.out]; exact hlt
        have h := HX.out
        rw [List.getElem?_eq_getElem hjl] at h
        have h2 : ws[j] = x := h
        rw [← h2]
        exact List.getElem_mem hjl
      | false =>
        have HN : Hid ((ws.take (j + 1)).any p = false) := Lib.hid (by
          have hjl : j < ws.length := by rw [HL.out]; exact hlt
          have h := HX.out
          rw [List.getElem?_eq_getElem hjl] at h
          have h2 : ws[j] = x := h
          rw [List.take_add_one, List.any_append, HP.out, List.getElem?_eq_getElem hjl, h2]
          simp [HBX.out])
        go_wp2
        go_roundw
        case rel => exact ⟨j + 1, by go_num, by first | rfl | trivial, by omega, HN.out⟩
        case measure => simp [intOf]; omega
    · obtain rfl : j = n := by omega
      have hp := HP.out
      rw [List.take_of_length_le (by rw [HL.out]; omega)] at hp
      have HP2 := Lib.hid hp
      clear hp
      go_wp2
      go_ret
      refine ⟨-1, rfl, ?_, rfl⟩
      rw [HP2.out]
      simp
theorem containsFunc_any (F : Nat) (p : Int → Bool) (eF : ∀ args w, (callFunc F args).run Tryz.prog w = .ok (.enter F args) w) (hF : Answers F p) (ws : List Int) (v : Value) (w : World) (hv : LI w v ws) :
    Calls Tryz.prog 13 #[v, .func (.func F) #[] #[]] w fun e w' => e = .returned (.bool (ws.any p)) ∧ w' = w := by
  have HI := Lib.hid (indexFunc_any F p eF hF ws v w hv)
  obtain ⟨B, hB⟩ : ∃ B, ws.any p = B := ⟨_, rfl⟩
  have HB := Lib.hid hB
  rw [hB]
  clear eF hF hv hB
  go_enter Tryz.func13, Tryz.ntmps13
  go_wp2_with fail
  refine HI.out.mono ?_
  rintro e w1 ⟨z, rfl, hz, rfl⟩
  rw [HB.out] at hz
  have HZ := Lib.hid hz
  clear hz
  go_wp2
  go_ret
  refine ⟨ret_bool ?_, rfl⟩
  have h := HZ.out
  cases B <;> simp_all
end Go.Proofs.YtlildanamfjnmaaGreatDoor
