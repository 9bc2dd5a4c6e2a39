/-
  nat.Parse: the number of decimal digits.
-/
import Derived.Test.YtkcdgaijklhnaaaGreatDoorK15
import Derived.Test.YtkcdgaijklhnaaaGreatDoorShelf
import Derived.Test.YtkcdgaijklhnaaaGreatDoorK11
import Derived.Lib.Strings
import Derived.Lib.AtoiErrMem
namespace Go.Proofs.YtkcdgaijklhnaaaGreatDoor
open Go.RowKit Go.Shelf
theorem parseUint_ok (s : ByteArray) (w : World) (h : s.data.toList.all Mth.isD = true) (h0 : s.data.toList ≠ []) (h9 : s.data.toList.length ≤ 9) :
  Calls Tryz.prog 183 #[.string s, .int .i64 10, .int .i64 32] w fun e w' => e = .returned (.tuple #[.int .u64 (Mth.dv s.data.toList : Nat), .nilIface]) ∧ Below w.heap.size w w' := by
 have hs : s.size = s.data.toList.length := by rw [← ByteArray.size_data]; simp
 refine (Tryz.strconv_ParseUint_10_at32_ok s (by omega) _ (Mth.parse9 _ h h0 h9) w).mono ?_
 rintro e w' ⟨rfl, rfl | rfl⟩
 ·exact ⟨rfl, Below.refl _ _⟩
 ·exact ⟨rfl, Lib.bytesWorld_below w _ s⟩
theorem all_sub {l : List UInt8} {p : UInt8 → Bool} (h : l.all p = true) (a b : Nat) : ((l.drop a).take b).all p = true := by
 rw [List.all_eq_true] at h ⊢
 intro x hx
 exact h x (List.mem_of_mem_drop (List.mem_of_mem_take hx))
set_option maxHeartbeats 2000000 in
set_option maxRecDepth 100000 in
theorem parse_any (s : ByteArray) (w : World) (h : s.data.toList.all Mth.isD = true) (hs : s.data.toList.length ≤ 1000000000000) :
  Calls Tryz.prog 146 #[.string s] w fun e w' => ∃ v, e = .returned v ∧ Below w.heap.size w w' ∧ Nt w' v (Mth.dv s.data.toList) := by
 obtain ⟨i0, hi, hz0, hz1, hz2⟩ := info_parts info_u32
 have hsz : s.size = s.data.toList.length := by rw [← ByteArray.size_data]; simp
 obtain ⟨l, hl⟩ : ∃ l, s.data.toList = l := ⟨_, rfl⟩
 rw [hl] at h hs hsz
 rw [hl]
 have HS := Lib.hid hl
 have HA := Lib.hid h
 have HZ := Lib.hid hsz
 have hsn : (s.size : Int) ≤ 1000000000000 := by omega
 clear hl h hsz
 go_enter Tryz.func146, Tryz.ntmps146
 go_wp2
 go_loopw [3, 4] (fun a3 a4 wr => ∃ (e : Int) (k : Nat) (cs : List Nat), a4 = .int .i64 e ∧ e = (s.size : Int) - 9 * k ∧ -9 ≤ e ∧ cs.length = k ∧ wr.ownsRow w.heap.size 148 1 a3 k (u32s cs) ∧ (∀ d ∈ cs, d < 1000000000) ∧
  Mth.val 1000000000 cs = Mth.dv (l.drop e.toNat) ∧ Below w.heap.size w wr) (fun _ a4 _ => (intOf a4).toNat)
 case atStart => exact ⟨_, 0, [], rfl, by omega, by omega, rfl, World.ownsRow_nil _ _ _ _, by simp, by rw [Int.toNat_natCast, HZ.out, List.drop_length]; rfl, Below.refl _ _⟩
 case round =>
  obtain ⟨e, k, cs, rfl, he, he9, hc, hown, hd, hv, hB⟩ := hrel
  have HE := Lib.hid he
  have HC := Lib.hid hc
  have HD := Lib.hid hd
  have HV := Lib.hid hv
  have hBs := hB.size
  have hes : e ≤ (s.size : Int) := by omega
  have hk : k ≤ 200000000000 := by omega
  clear hc hd hv
  by_cases h0 : e ≤ 0
  ·have hsl := Sl.of_own hown
   have ht : e.toNat = 0 := by omega
   have hv := HV.out
   rw [ht, List.drop_zero] at hv
   have HV2 := Lib.hid hv
   clear ht hv he
   go_wp2_with (go_at_call 184; refine (trim_any cs _ _ hsl (by rw [HC.out]; omega)).mono ?_; rintro e w' ⟨v', rfl, hS, rfl⟩)
   go_ret
   refine ⟨v', rfl, hB, ?_⟩
   unfold Nt
   rw [← HV2.out, ← Mth.tidy_eq (by omega) cs HD.out]
   exact hS
  ·obtain ⟨q, rfl⟩ : ∃ q : Nat, e = q := ⟨e.toNat, by omega⟩
   have hq0 : 0 < q := by omega
   obtain ⟨p, hp⟩ : ∃ p : Nat, q - 9 = p := ⟨_, rfl⟩
   have hmax : (max ((q : Int) - 9) 0) = (p : Int) := by omega
   have hpq : (p : Int) < q := by omega
   have hq1 : (q : Int) ≤ s.size := by omega
   have hchunk : (s.extract p q).data.toList = (l.drop p).take (q - p) := by rw [Lib.extract_data, HS.out]
   have hcl : ((l.drop p).take (q - p)).length = q - p := by
    rw [List.length_take, List.length_drop]; have := HZ.out; omega
   have hpu := fun W => parseUint_ok (s.extract p q) W (by rw [hchunk]; exact all_sub HA.out _ _) (by rw [hchunk]; intro h; rw [h] at hcl; simp at hcl; omega) (by rw [hchunk, hcl]; omega)
   rw [hchunk] at hpu
   have hdl := Mth.dv_lt _ (all_sub HA.out p (q - p))
   rw [hcl] at hdl
   have hd9 : (10 : Nat) ^ (q - p) ≤ 10 ^ 9 := Nat.pow_le_pow_right (by omega) (by omega)
   obtain ⟨x, hx⟩ : ∃ x, Mth.dv ((l.drop p).take (q - p)) = x := ⟨_, rfl⟩
   rw [hx] at hpu hdl
   have hx9 : x < 1000000000 := by omega
   have HP := Lib.hid hpu
   have HX := Lib.hid hx
   have HQ := Lib.hid hp
   have HM := Lib.hid hmax
   have HCL := Lib.hid hcl
   clear hchunk hcl hpu hdl hd9 hx hp he
   have hsplit : ((q : Int) - 9 ≤ 0 ∧ p = 0) ∨ ((0 : Int) < (q : Int) - 9 ∧ (p : Int) = (q : Int) - 9) := by have := HQ.out; omega
   go_wp2_with fail
   refine (HP.out _).mono ?_
   rintro e w1 ⟨rfl, hB1⟩
   have hown1 := own_below hown hB1
   have hsz1 := hB1.size
   have HB1 := Lib.hid hB1
   clear hB1 hown
   go_wp2_with (at_builtin; refine wpList_append_own _ rfl _ _ 159 rfl w.heap.size 148 i0 (.int .u32 0) 1 4 Tryz.underlying159 hi hz0 hz1 hz2 rfl (by decide) _ _ _ rfl (hown1.alloc _) ⟨w1.heap.size, 0, none⟩ 1 1 [.int .u32 (x : Int)] rfl rfl (cell_one_new _ _ _) (by simp [Value.oneCell']) (by unfold maxLen; omega) (by omega) (by simp; omega) ?_; intro v' w2 hown' hgrow _)
   go_roundw
   case rel =>
    refine ⟨(q : Int) - 9, k + 1, cs ++ [x], rfl, by have := HE.out; omega, by omega, by simp [HC.out], by rw [u32s_append]; exact hown', ?_, ?_, ((hB.trans (HB1.out.mono hBs)).alloc (by omega) _).grown hgrow (by simp; omega) (fun y hy => (hown1.lt y hy).1)⟩
    ·intro d hd
     rcases List.mem_append.1 hd with h | h
     ·exact HD.out d h
     ·simp at h; omega
    ·have hqe := HQ.out
     have hv := HV.out
     rw [Int.toNat_natCast] at hv
     rw [Mth.val_snoc, HC.out, hv, show ((q : Int) - 9).toNat = p by omega]
     have e1 : l.drop p = (l.drop p).take (q - p) ++ l.drop q := by
      conv => lhs; rw [← List.take_append_drop (q - p) (l.drop p)]
      rw [List.drop_drop]
      congr 2
      omega
     rw [e1, Mth.dv_append, HX.out]
     have e2 : (l.drop q).length = 9 * k := by
      have h1 := HE.out
      have h2 := HZ.out
      rw [List.length_drop]; omega
     rw [e2, Nat.pow_mul, Nat.add_comm, Nat.mul_comm x]
   case measure => simp [intOf]; omega
end Go.Proofs.YtkcdgaijklhnaaaGreatDoor
