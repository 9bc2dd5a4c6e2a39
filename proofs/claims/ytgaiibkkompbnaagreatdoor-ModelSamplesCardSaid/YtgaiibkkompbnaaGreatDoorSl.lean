/-
  slices.IndexFunc, slices.ContainsFunc over structs.
-/
import Derived.Test.YtgaiibkkompbnaaGreatDoorGs
namespace Go.Proofs.YtgaiibkkompbnaaGreatDoor
open Go.RowKit


set_option maxHeartbeats 1000000 in
set_option maxRecDepth 100000 in
theorem idx_ax (F : Nat) (caps : Array Value) (p : LAxis → Bool) (eF : ∀ args w, (callFunc F args).run Tryz.prog w = .ok (.enter F args) w) (xs : List (LAxis)) (v : Value) (w : World) (hv : RAxes w.cell? v xs)
    (hF : ∀ x ∈ xs, ∀ u W, Below w.heap.size w W → VAxis W.cell? u x → Calls Tryz.prog F (#[u] ++ caps) W fun e w' => e = .returned (.bool (p x)) ∧ Below W.heap.size W w') :
    Calls Tryz.prog 191 #[v, .func (.func F) #[] caps] w fun e w' => e = .returned (.int .i64 (idxI p xs)) ∧ Below w.heap.size w w' := by
  obtain ⟨A, c, rfl, -, -, hmx⟩ := Rws.shape hv
  have HV := Lib.hid hv
  obtain ⟨n, hn⟩ : ∃ n, xs.length = n := ⟨_, rfl⟩
  rw [hn] at hmx HV ⊢
  have HL := Lib.hid hn
  have HF := Lib.hid hF
  have hn2 : (n : Int) ≤ 1000000 := by omega
  clear hv hn hF
  go_enter Tryz.func191, Tryz.ntmps191
  go_wp2
  go_loopw [8] (fun a8 wr => ∃ j : Nat, a8 = .int .i64 j ∧ Below w.heap.size w wr ∧ j ≤ n ∧ (xs.take j).any p = false) (fun a8 _ => n - (intOf a8).toNat)
  case atStart => exact ⟨0, rfl, Below.refl _ _, by omega, rfl⟩
  case round =>
    obtain ⟨j, rfl, hB, hj, hp⟩ := hrel
    have HP := Lib.hid hp
    have HB := Lib.hid hB
    clear hp hB
    by_cases hlt : j < n
    · have hlt2 : (j : Int) < (n : Int) := by omega
      have hjl : j < xs.length := by rw [HL.out]; exact hlt
      obtain ⟨b, o, rfl, hc⟩ := Rws.at_ (Rws.mono HV.out fun _ _ _ h => RAxis.keep h (Keeps.of_below HB.out)) (by rw [HL.out]; omega)
      obtain ⟨x, hx⟩ : ∃ x, xs[j]? = some x := ⟨_, List.getElem?_eq_getElem hjl⟩
      have hE := hc j x hx
      have hxm : x ∈ xs := List.mem_of_getElem? hx
      have HX := Lib.hid hx
      clear hc hx
      obtain ⟨e0, e1, tv, e2, ht⟩ := hE
      obtain ⟨bx, hbx⟩ : ∃ bx, p x = bx := ⟨_, rfl⟩
      have hf := HF.out x hxm
      rw [hbx] at hf
      have HBX := Lib.hid hbx
      have HFX := Lib.hid hf
      clear hxm hbx hf
      go_wp2_with fail
      refine (HFX.out _ _ HB.out ⟨tv, rfl, ht⟩).mono ?_
      rintro e w1 ⟨rfl, hB1⟩
      have HB1 := Lib.hid hB1
      clear hB1
      cases bx with
      | true =>
        go_wp2
        go_ret
        exact ⟨ret_int (idxI_some HP.out HX.out HBX.out).symm, behind HB.out HB1.out⟩
      | false =>
        have HN : Hid ((xs.take (j + 1)).any p = false) := Lib.hid (by
          rw [List.take_add_one, List.any_append, HP.out, HX.out]
          simp [HBX.out])
        go_wp2
        go_roundw
        case rel => exact ⟨j + 1, by go_num, behind HB.out HB1.out, by omega, HN.out⟩
        case measure => simp [intOf]; omega
    · obtain rfl : j = n := by omega
      have hp := HP.out
      rw [List.take_of_length_le (by rw [HL.out]; omega)] at hp
      have HP2 := Lib.hid hp
      clear hp
      go_wp2
      go_ret
      exact ⟨ret_int (idxI_none HP2.out).symm, HB.out⟩


set_option maxHeartbeats 1000000 in
set_option maxRecDepth 100000 in
theorem idx_sym (F : Nat) (caps : Array Value) (p : LSym → Bool) (eF : ∀ args w, (callFunc F args).run Tryz.prog w = .ok (.enter F args) w) (xs : List (LSym)) (v : Value) (w : World) (hv : RSyms w.cell? v xs)
    (hF : ∀ x ∈ xs, ∀ u W, Below w.heap.size w W → (fun _ u x => u = VSym x) W.cell? u x → Calls Tryz.prog F (#[u] ++ caps) W fun e w' => e = .returned (.bool (p x)) ∧ Below W.heap.size W w') :
    Calls Tryz.prog 225 #[v, .func (.func F) #[] caps] w fun e w' => e = .returned (.int .i64 (idxI p xs)) ∧ Below w.heap.size w w' := by
  obtain ⟨A, c, rfl, -, -, hmx⟩ := Rws.shape hv
  have HV := Lib.hid hv
  obtain ⟨n, hn⟩ : ∃ n, xs.length = n := ⟨_, rfl⟩
  rw [hn] at hmx HV ⊢
  have HL := Lib.hid hn
  have HF := Lib.hid hF
  have hn2 : (n : Int) ≤ 1000000 := by omega
  clear hv hn hF
  go_enter Tryz.func225, Tryz.ntmps225
  go_wp2
  go_loopw [8] (fun a8 wr => ∃ j : Nat, a8 = .int .i64 j ∧ Below w.heap.size w wr ∧ j ≤ n ∧ (xs.take j).any p = false) (fun a8 _ => n - (intOf a8).toNat)
  case atStart => exact ⟨0, rfl, Below.refl _ _, by omega, rfl⟩
  case round =>
    obtain ⟨j, rfl, hB, hj, hp⟩ := hrel
    have HP := Lib.hid hp
    have HB := Lib.hid hB
    clear hp hB
    by_cases hlt : j < n
    · have hlt2 : (j : Int) < (n : Int) := by omega
      have hjl : j < xs.length := by rw [HL.out]; exact hlt
      obtain ⟨b, o, rfl, hc⟩ := Rws.at_ (Rws.mono HV.out fun _ _ _ h => ⟨Keeps.of_below HB.out _ _ h.1, Keeps.of_below HB.out _ _ h.2.1, Keeps.of_below HB.out _ _ h.2.2⟩) (by rw [HL.out]; omega)
      obtain ⟨x, hx⟩ : ∃ x, xs[j]? = some x := ⟨_, List.getElem?_eq_getElem hjl⟩
      have hE := hc j x hx
      have hxm : x ∈ xs := List.mem_of_getElem? hx
      have HX := Lib.hid hx
      clear hc hx
      obtain ⟨e0, e1, e2⟩ := hE
      obtain ⟨bx, hbx⟩ : ∃ bx, p x = bx := ⟨_, rfl⟩
      have hf := HF.out x hxm
      rw [hbx] at hf
      have HBX := Lib.hid hbx
      have HFX := Lib.hid hf
      clear hxm hbx hf
      go_wp2_with fail
      refine (HFX.out _ _ HB.out rfl).mono ?_
      rintro e w1 ⟨rfl, hB1⟩
      have HB1 := Lib.hid hB1
      clear hB1
      cases bx with
      | true =>
        go_wp2
        go_ret
        exact ⟨ret_int (idxI_some HP.out HX.out HBX.out).symm, behind HB.out HB1.out⟩
      | false =>
        have HN : Hid ((xs.take (j + 1)).any p = false) := Lib.hid (by
          rw [List.take_add_one, List.any_append, HP.out, HX.out]
          simp [HBX.out])
        go_wp2
        go_roundw
        case rel => exact ⟨j + 1, by go_num, behind HB.out HB1.out, by omega, HN.out⟩
        case measure => simp [intOf]; omega
    · obtain rfl : j = n := by omega
      have hp := HP.out
      rw [List.take_of_length_le (by rw [HL.out]; omega)] at hp
      have HP2 := Lib.hid hp
      clear hp
      go_wp2
      go_ret
      exact ⟨ret_int (idxI_none HP2.out).symm, HB.out⟩


set_option maxHeartbeats 1000000 in
set_option maxRecDepth 100000 in
theorem idx_str (F : Nat) (caps : Array Value) (p : ByteArray → Bool) (eF : ∀ args w, (callFunc F args).run Tryz.prog w = .ok (.enter F args) w) (xs : List (ByteArray)) (v : Value) (w : World) (hv : RStrs w.cell? v xs)
    (hF : ∀ x ∈ xs, ∀ u W, Below w.heap.size w W → (fun _ u x => u = Value.string x) W.cell? u x → Calls Tryz.prog F (#[u] ++ caps) W fun e w' => e = .returned (.bool (p x)) ∧ Below W.heap.size W w') :
    Calls Tryz.prog 228 #[v, .func (.func F) #[] caps] w fun e w' => e = .returned (.int .i64 (idxI p xs)) ∧ Below w.heap.size w w' := by
  obtain ⟨A, c, rfl, -, -, hmx⟩ := Rws.shape hv
  have HV := Lib.hid hv
  obtain ⟨n, hn⟩ : ∃ n, xs.length = n := ⟨_, rfl⟩
  rw [hn] at hmx HV ⊢
  have HL := Lib.hid hn
  have HF := Lib.hid hF
  have hn2 : (n : Int) ≤ 1000000 := by omega
  clear hv hn hF
  go_enter Tryz.func228, Tryz.ntmps228
  go_wp2
  go_loopw [8] (fun a8 wr => ∃ j : Nat, a8 = .int .i64 j ∧ Below w.heap.size w wr ∧ j ≤ n ∧ (xs.take j).any p = false) (fun a8 _ => n - (intOf a8).toNat)
  case atStart => exact ⟨0, rfl, Below.refl _ _, by omega, rfl⟩
  case round =>
    obtain ⟨j, rfl, hB, hj, hp⟩ := hrel
    have HP := Lib.hid hp
    have HB := Lib.hid hB
    clear hp hB
    by_cases hlt : j < n
    · have hlt2 : (j : Int) < (n : Int) := by omega
      have hjl : j < xs.length := by rw [HL.out]; exact hlt
      obtain ⟨b, o, rfl, hc⟩ := Rws.at_ (Rws.mono HV.out fun _ _ _ h => Keeps.of_below HB.out _ _ h) (by rw [HL.out]; omega)
      obtain ⟨x, hx⟩ : ∃ x, xs[j]? = some x := ⟨_, List.getElem?_eq_getElem hjl⟩
      have hE := hc j x hx
      rw [Nat.mul_one] at hE
      have hxm : x ∈ xs := List.mem_of_getElem? hx
      have HX := Lib.hid hx
      clear hc hx
      have e0 : _ = _ := hE
      obtain ⟨bx, hbx⟩ : ∃ bx, p x = bx := ⟨_, rfl⟩
      have hf := HF.out x hxm
      rw [hbx] at hf
      have HBX := Lib.hid hbx
      have HFX := Lib.hid hf
      clear hxm hbx hf
      go_wp2_with fail
      refine (HFX.out _ _ HB.out rfl).mono ?_
      rintro e w1 ⟨rfl, hB1⟩
      have HB1 := Lib.hid hB1
      clear hB1
      cases bx with
      | true =>
        go_wp2
        go_ret
        exact ⟨ret_int (idxI_some HP.out HX.out HBX.out).symm, behind HB.out HB1.out⟩
      | false =>
        have HN : Hid ((xs.take (j + 1)).any p = false) := Lib.hid (by
          rw [List.take_add_one, List.any_append, HP.out, HX.out]
          simp [HBX.out])
        go_wp2
        go_roundw
        case rel => exact ⟨j + 1, by go_num, behind HB.out HB1.out, by omega, HN.out⟩
        case measure => simp [intOf]; omega
    · obtain rfl : j = n := by omega
      have hp := HP.out
      rw [List.take_of_length_le (by rw [HL.out]; omega)] at hp
      have HP2 := Lib.hid hp
      clear hp
      go_wp2
      go_ret
      exact ⟨ret_int (idxI_none HP2.out).symm, HB.out⟩


set_option maxHeartbeats 1000000 in
set_option maxRecDepth 100000 in
theorem idx_int (F : Nat) (caps : Array Value) (p : Int → Bool) (eF : ∀ args w, (callFunc F args).run Tryz.prog w = .ok (.enter F args) w) (xs : List (Int)) (v : Value) (w : World) (hv : RInts w.cell? v xs)
    (hF : ∀ x ∈ xs, ∀ u W, Below w.heap.size w W → (fun _ u x => u = Value.int .i64 x) W.cell? u x → Calls Tryz.prog F (#[u] ++ caps) W fun e w' => e = .returned (.bool (p x)) ∧ Below W.heap.size W w') :
    Calls Tryz.prog 27 #[v, .func (.func F) #[] caps] w fun e w' => e = .returned (.int .i64 (idxI p xs)) ∧ Below w.heap.size w w' := by
  obtain ⟨A, c, rfl, -, -, hmx⟩ := Rws.shape hv
  have HV := Lib.hid hv
  obtain ⟨n, hn⟩ : ∃ n, xs.length = n := ⟨_, rfl⟩
  rw [hn] at hmx HV ⊢
  have HL := Lib.hid hn
  have HF := Lib.hid hF
  have hn2 : (n : Int) ≤ 1000000 := by omega
  clear hv hn hF
  go_enter Tryz.func27, Tryz.ntmps27
  go_wp2
  go_loopw [8] (fun a8 wr => ∃ j : Nat, a8 = .int .i64 j ∧ Below w.heap.size w wr ∧ j ≤ n ∧ (xs.take j).any p = false) (fun a8 _ => n - (intOf a8).toNat)
  case atStart => exact ⟨0, rfl, Below.refl _ _, by omega, rfl⟩
  case round =>
    obtain ⟨j, rfl, hB, hj, hp⟩ := hrel
    have HP := Lib.hid hp
    have HB := Lib.hid hB
    clear hp hB
    by_cases hlt : j < n
    · have hlt2 : (j : Int) < (n : Int) := by omega
      have hjl : j < xs.length := by rw [HL.out]; exact hlt
      obtain ⟨b, o, rfl, hc⟩ := Rws.at_ (Rws.mono HV.out fun _ _ _ h => Keeps.of_below HB.out _ _ h) (by rw [HL.out]; omega)
      obtain ⟨x, hx⟩ : ∃ x, xs[j]? = some x := ⟨_, List.getElem?_eq_getElem hjl⟩
      have hE := hc j x hx
      rw [Nat.mul_one] at hE
      have hxm : x ∈ xs := List.mem_of_getElem? hx
      have HX := Lib.hid hx
      clear hc hx
      have e0 : _ = _ := hE
      obtain ⟨bx, hbx⟩ : ∃ bx, p x = bx := ⟨_, rfl⟩
      have hf := HF.out x hxm
      rw [hbx] at hf
      have HBX := Lib.hid hbx
      have HFX := Lib.hid hf
      clear hxm hbx hf
      go_wp2_with fail
      refine (HFX.out _ _ HB.out rfl).mono ?_
      rintro e w1 ⟨rfl, hB1⟩
      have HB1 := Lib.hid hB1
      clear hB1
      cases bx with
      | true =>
        go_wp2
        go_ret
        exact ⟨ret_int (idxI_some HP.out HX.out HBX.out).symm, behind HB.out HB1.out⟩
      | false =>
        have HN : Hid ((xs.take (j + 1)).any p = false) := Lib.hid (by
          rw [List.take_add_one, List.any_append, HP.out, HX.out]
          simp [HBX.out])
        go_wp2
        go_roundw
        case rel => exact ⟨j + 1, by go_num, behind HB.out HB1.out, by omega, HN.out⟩
        case measure => simp [intOf]; omega
    · obtain rfl : j = n := by omega
      have hp := HP.out
      rw [List.take_of_length_le (by rw [HL.out]; omega)] at hp
      have HP2 := Lib.hid hp
      clear hp
      go_wp2
      go_ret
      exact ⟨ret_int (idxI_none HP2.out).symm, HB.out⟩


theorem has_ax (F : Nat) (caps : Array Value) (p : LAxis → Bool) (eF : ∀ args w, (callFunc F args).run Tryz.prog w = .ok (.enter F args) w) (xs : List (LAxis)) (v : Value) (w : World) (hv : RAxes w.cell? v xs)
    (hF : ∀ x ∈ xs, ∀ u W, Below w.heap.size w W → VAxis W.cell? u x → Calls Tryz.prog F (#[u] ++ caps) W fun e w' => e = .returned (.bool (p x)) ∧ Below W.heap.size W w') :
    Calls Tryz.prog 138 #[v, .func (.func F) #[] caps] w fun e w' => e = .returned (.bool (xs.any p)) ∧ Below w.heap.size w w' := by
  have HI := Lib.hid (idx_ax F caps p eF xs v w hv hF)
  have HD := Lib.hid (idxI_any p xs)
  obtain ⟨z, hz⟩ : ∃ z, idxI p xs = z := ⟨_, rfl⟩
  rw [hz] at HI HD
  clear eF hF hv hz
  go_enter Tryz.func138, Tryz.ntmps138
  go_wp2_with fail
  refine HI.out.mono ?_
  rintro e w1 ⟨rfl, hB⟩
  have HB := Lib.hid hB
  clear hB
  go_wp2
  go_ret
  exact ⟨ret_bool HD.out, HB.out⟩


theorem has_str (F : Nat) (caps : Array Value) (p : ByteArray → Bool) (eF : ∀ args w, (callFunc F args).run Tryz.prog w = .ok (.enter F args) w) (xs : List (ByteArray)) (v : Value) (w : World) (hv : RStrs w.cell? v xs)
    (hF : ∀ x ∈ xs, ∀ u W, Below w.heap.size w W → (fun _ u x => u = Value.string x) W.cell? u x → Calls Tryz.prog F (#[u] ++ caps) W fun e w' => e = .returned (.bool (p x)) ∧ Below W.heap.size W w') :
    Calls Tryz.prog 180 #[v, .func (.func F) #[] caps] w fun e w' => e = .returned (.bool (xs.any p)) ∧ Below w.heap.size w w' := by
  have HI := Lib.hid (idx_str F caps p eF xs v w hv hF)
  have HD := Lib.hid (idxI_any p xs)
  obtain ⟨z, hz⟩ : ∃ z, idxI p xs = z := ⟨_, rfl⟩
  rw [hz] at HI HD
  clear eF hF hv hz
  go_enter Tryz.func180, Tryz.ntmps180
  go_wp2_with fail
  refine HI.out.mono ?_
  rintro e w1 ⟨rfl, hB⟩
  have HB := Lib.hid hB
  clear hB
  go_wp2
  go_ret
  exact ⟨ret_bool HD.out, HB.out⟩


theorem has_int (F : Nat) (caps : Array Value) (p : Int → Bool) (eF : ∀ args w, (callFunc F args).run Tryz.prog w = .ok (.enter F args) w) (xs : List (Int)) (v : Value) (w : World) (hv : RInts w.cell? v xs)
    (hF : ∀ x ∈ xs, ∀ u W, Below w.heap.size w W → (fun _ u x => u = Value.int .i64 x) W.cell? u x → Calls Tryz.prog F (#[u] ++ caps) W fun e w' => e = .returned (.bool (p x)) ∧ Below W.heap.size W w') :
    Calls Tryz.prog 16 #[v, .func (.func F) #[] caps] w fun e w' => e = .returned (.bool (xs.any p)) ∧ Below w.heap.size w w' := by
  have HI := Lib.hid (idx_int F caps p eF xs v w hv hF)
  have HD := Lib.hid (idxI_any p xs)
  obtain ⟨z, hz⟩ : ∃ z, idxI p xs = z := ⟨_, rfl⟩
  rw [hz] at HI HD
  clear eF hF hv hz
  go_enter Tryz.func16, Tryz.ntmps16
  go_wp2_with fail
  refine HI.out.mono ?_
  rintro e w1 ⟨rfl, hB⟩
  have HB := Lib.hid hB
  clear hB
  go_wp2
  go_ret
  exact ⟨ret_bool HD.out, HB.out⟩


end Go.Proofs.YtgaiibkkompbnaaGreatDoor
