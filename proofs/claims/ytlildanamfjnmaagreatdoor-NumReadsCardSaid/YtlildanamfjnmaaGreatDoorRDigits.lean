/-
  digits, natRead of the reference.
-/
import Derived.Test.YtlildanamfjnmaaGreatDoorRBase
import Derived.Test.YtlildanamfjnmaaGreatDoorRTidy
import Derived.Test.YtlildanamfjnmaaGreatDoorCheck
import Derived.Lib.MinMax
namespace Go.Proofs.YtlildanamfjnmaaGreatDoor
open Go.RowKit Go.Shelf

theorem decFrom_digits : ∀ (l : List UInt8) (acc : Nat), l.all Mth.isD = true → Lib.decFrom acc l = some (acc * 10 ^ l.length + Mth.dv l)
  | [], acc, _ => by simp [Lib.decFrom, Mth.dv]
  | c :: l, acc, h => by
    simp only [List.all_cons, Bool.and_eq_true, Mth.isD, decide_eq_true_eq] at h
    have hd : Lib.digitVal c = some (c.toNat - 48) := by
      unfold Lib.digitVal
      simp
      omega
    rw [Lib.decFrom, hd]
    show Lib.decFrom (acc * 10 + (c.toNat - 48)) l = _
    rw [decFrom_digits l _ h.2, Mth.dv_cons, List.length_cons, Nat.pow_succ, Nat.add_mul, Nat.mul_assoc, Nat.mul_comm 10, Nat.add_assoc]
theorem atoi_digits {l : List UInt8} (h : l.all Mth.isD = true) (h0 : l ≠ []) : Lib.atoi l = some (Mth.dv l : Int) := by
  cases l with
  | nil => exact absurd rfl h0
  | cons c r =>
    have h2 := h
    simp only [List.all_cons, Bool.and_eq_true, Mth.isD, decide_eq_true_eq] at h2
    have n1 : (c == 45) = false := by
      rw [beq_eq_false_iff_ne]; rintro rfl; simp at h2
    have n2 : (c == 43) = false := by
      rw [beq_eq_false_iff_ne]; rintro rfl; simp at h2
    rw [Lib.atoi, n1, n2]
    simp only [Bool.false_eq_true, if_false, Lib.decNat, List.isEmpty_cons]
    rw [decFrom_digits _ 0 h]
    simp

theorem atoi_str (s : ByteArray) (w : World) (h : s.data.toList.all Mth.isD = true) (h0 : s.data.toList ≠ []) (h9 : s.data.toList.length ≤ 18) :
    Calls Tryz.prog 100 #[.string s] w fun e w' => e = .returned (.tuple #[.int .i64 (Mth.dv s.data.toList : Nat), .nilIface]) ∧ Below w.heap.size w w' := by
  have hs : s.size = s.data.toList.length := by rw [← ByteArray.size_data]; simp
  refine (Tryz.strconv_Atoi s (Mth.dv s.data.toList : Nat) (by omega) (atoi_digits h h0) w).mono ?_
  rintro e w' ⟨rfl, t, rfl⟩
  exact ⟨rfl, Lib.bytesWorld_below w _ t⟩

theorem all_take_succ {l : List UInt8} {k : Nat} {c : UInt8} (h : (l.take k).all Mth.isD = true) (hk : k < l.length) (hc : l[k] = c) (hd : Mth.isD c = true) : (l.take (k + 1)).all Mth.isD = true := by
  rw [List.take_succ_eq_append_getElem hk, List.all_append, h, hc]
  simp [hd]
set_option maxHeartbeats 1000000 in
set_option maxRecDepth 100000 in
theorem rdigits_any (l : List UInt8) (w : World) (hs : l.length ≤ 9000000000000000000) :
    Calls Tryz.prog 67 #[.string ⟨l.toArray⟩] w fun e w' => e = .returned (.bool (digB l)) ∧ w = w' := by
  go_enter Tryz.func67, Tryz.ntmps67
  go_wp2
  go_loopw [6] (fun a6 wr => ∃ k : Nat, a6 = .int .i64 k ∧ k ≤ l.length ∧ (l.take k).all Mth.isD = true ∧ w = wr) (fun a6 _ => l.length - (intOf a6).toNat)
  case atStart => exact ⟨0, rfl, by omega, by simp, rfl⟩
  case round =>
    obtain ⟨k, rfl, hk, hall, rfl⟩ := hrel
    have HA := Lib.hid hall
    clear hall
    by_cases hlt : k < l.length
    · have hlt2 : (k : Int) < (l.length : Int) := by omega
      obtain ⟨c, hc⟩ : ∃ c, l[k] = c := ⟨_, rfl⟩
      have hix : (ByteArray.mk l.toArray)[k]'(by rw [bytes_size]; simpa using hlt) = c := by rw [← hc]; rfl
      have HC := Lib.hid hc
      have HLT := Lib.hid hlt
      clear hc
      rcases (show (c.toNat : Int) < 48 ∨ (48 ≤ (c.toNat : Int) ∧ 57 < (c.toNat : Int)) ∨ (48 ≤ (c.toNat : Int) ∧ (c.toNat : Int) ≤ 57) by omega) with h | ⟨h, h'⟩ | ⟨h, h'⟩
      · go_wp2
        go_ret
        refine ⟨ret_bool ?_, rfl⟩
        have : l.all Mth.isD = false := by
          rw [List.all_eq_false]
          exact ⟨c, by rw [← HC.out]; exact List.getElem_mem _, by simp [Mth.isD]; omega⟩
        simp [digB, this]
      · go_wp2
        go_ret
        refine ⟨ret_bool ?_, rfl⟩
        have : l.all Mth.isD = false := by
          rw [List.all_eq_false]
          exact ⟨c, by rw [← HC.out]; exact List.getElem_mem _, by simp [Mth.isD]; omega⟩
        simp [digB, this]
      · go_wp2
        all_goals first
          | (exfalso; omega)
          | skip
        go_roundw
        case rel => exact ⟨k + 1, by go_num, by have := HLT.out; omega, all_take_succ HA.out HLT.out HC.out (by simp [Mth.isD]; omega), trivial⟩
        case measure => have := HLT.out; show l.length - (k + 1 : Int).toNat < l.length - (k : Int).toNat; omega
    · obtain rfl : k = l.length := by omega
      have hall := HA.out
      rw [List.take_length] at hall
      have HALL := Lib.hid hall
      clear hall hlt HA hk
      cases l with
      | nil =>
        go_wp2
        go_ret
        exact ⟨rfl, rfl⟩
      | cons c r =>
        have hi : (ByteArray.mk (c :: r).toArray)[0]'(by rw [bytes_size]; simp) = c := rfl
        by_cases hc : c = 48
        · subst hc
          cases r with
          | nil =>
            go_wp2
            go_ret
            exact ⟨rfl, rfl⟩
          | cons d r =>
            go_wp2
            go_ret
            exact ⟨ret_bool (by simp [digB]), rfl⟩
        · have hc2 : ((c.toNat : Int) != 48) = true := by
            have : c.toNat ≠ 48 := fun h => hc (UInt8.toNat_inj.1 (by rw [h]; rfl))
            simp; omega
          go_wp2
          go_ret
          exact ⟨ret_bool (by have := HALL.out; simp [digB, hc, this]), rfl⟩

set_option maxHeartbeats 2000000 in
set_option maxRecDepth 100000 in
theorem rread_any (s : ByteArray) (w : World) (h : s.data.toList.all Mth.isD = true) (hs : s.data.toList.length ≤ 1000000000000) :
    Calls Tryz.prog 69 #[.string s] w fun e w' => ∃ v, e = .returned v ∧ Below w.heap.size w w' ∧ Pt w' v (Mth.dv s.data.toList) := by
  obtain ⟨i0, hi, hz0, hz1, hz2⟩ := info_parts info_int
  have hsz : s.size = s.data.toList.length := by rw [← ByteArray.size_data]; simp
  obtain ⟨l, hl⟩ : ∃ l, s.data.toList = l := ⟨_, rfl⟩
  rw [hl] at h hs hsz
  rw [hl]
  have HS := Lib.hid hl
  have HA := Lib.hid h
  have HZ := Lib.hid hsz
  have hsn : (s.size : Int) ≤ 1000000000000 := by omega
  clear hl h hsz
  go_enter Tryz.func69, Tryz.ntmps69
  go_wp2
  go_loopw [0, 3] (fun a0 a3 wr => ∃ (S : ByteArray) (e k : Nat) (cs : List Nat), a0 = .string S ∧ S.data.toList = l.take e ∧ S.size = e ∧ ((e : Int) = (s.size : Int) - 4 * k ∨ e = 0 ∧ (s.size : Int) ≤ 4 * k ∧ 4 * (k : Int) ≤ s.size + 3) ∧ e ≤ s.size ∧ cs.length = k ∧ wr.ownsRow w.heap.size 3 1 a3 k (n64s cs) ∧ (∀ d ∈ cs, d < 10000) ∧
    Mth.val 10000 cs = Mth.dv (l.drop e) ∧ Below w.heap.size w wr) (fun a0 _ _ => match a0 with | .string S => S.size | _ => 0)
  case atStart => exact ⟨s, s.size, 0, [], rfl, by rw [HS.out, HZ.out, List.take_length], rfl, Or.inl (by omega), Nat.le_refl _, rfl, World.ownsRow_nil _ _ _ _, by simp, by rw [HZ.out, List.drop_length]; rfl, Below.refl _ _⟩
  case round =>
    obtain ⟨S, e, k, cs, rfl, hSl, hSe, he, hes, hc, hown, hd, hv, hB⟩ := hrel
    have HE := Lib.hid he
    have HC := Lib.hid hc
    have HD := Lib.hid hd
    have HV := Lib.hid hv
    have HSL := Lib.hid hSl
    have HSE := Lib.hid hSe
    have hBs := hB.size
    have hk : k ≤ 500000000000 := by omega
    clear hc hd hv hSl
    by_cases h0 : e = 0
    · have hsl := Sl.of_own hown
      have hv := HV.out
      rw [h0, List.drop_zero] at hv
      have HV2 := Lib.hid hv
      have hS0 : S.size = 0 := by omega
      clear hv he hSe
      go_wp2_with (go_at_call 108; refine (tidy_any cs _ _ hsl (by rw [HC.out]; omega)).mono ?_; rintro e w' ⟨v', rfl, hS, rfl⟩)
      go_ret
      refine ⟨v', rfl, hB, ?_⟩
      unfold Pt
      rw [← HV2.out, ← Mth.tidy_eq (by omega) cs HD.out]
      exact hS
    · obtain ⟨p, hp⟩ : ∃ p : Nat, e - 4 = p := ⟨_, rfl⟩
      have hmax : max 0 ((S.size : Int) - 4) = (p : Int) := by omega
      have hpq : p ≤ S.size := by omega
      have hpq2 : (p : Int) ≤ (S.size : Int) := by omega
      have hS0 : (0 : Int) < (S.size : Int) := by omega
      have hS1 : (S.size : Int) ≤ 1000000000000 := by omega
      have hchunk : (S.extract p S.size).data.toList = (l.drop p).take (e - p) := by
        rw [Lib.extract_data, HSL.out, HSE.out, List.drop_take, List.take_take]; simp
      have hcl : ((l.drop p).take (e - p)).length = e - p := by
        rw [List.length_take, List.length_drop]; have := HZ.out; omega
      have hat := fun W => atoi_str (S.extract p S.size) W (by rw [hchunk]; exact all_sub HA.out _ _) (by rw [hchunk]; intro h; rw [h] at hcl; simp at hcl; omega) (by rw [hchunk, hcl]; omega)
      rw [hchunk] at hat
      have hdl := Mth.dv_lt _ (all_sub HA.out p (e - p))
      rw [hcl] at hdl
      have hd4 : (10 : Nat) ^ (e - p) ≤ 10 ^ 4 := Nat.pow_le_pow_right (by omega) (by omega)
      obtain ⟨x, hx⟩ : ∃ x, Mth.dv ((l.drop p).take (e - p)) = x := ⟨_, rfl⟩
      rw [hx] at hat hdl
      have hx4 : x < 10000 := by omega
      have HP := Lib.hid hat
      have HX := Lib.hid hx
      have HQ := Lib.hid hp
      have HCL := Lib.hid hcl
      clear hchunk hcl hat hdl hd4 hx hp he hSe
      go_wp2_with fail
      refine (HP.out _).mono ?_
      rintro e1 w1 ⟨rfl, hB1⟩
      have hown1 := own_below hown hB1
      have hsz1 := hB1.size
      have HB1 := Lib.hid hB1
      clear hB1 hown
      go_wp2_with (at_builtin; refine wpList_append_own _ rfl _ _ 35 rfl w.heap.size 3 i0 (.int .i64 0) 1 8 Tryz.underlying35 hi hz0 hz1 hz2 rfl (by decide) _ _ _ rfl (hown1.alloc _) ⟨w1.heap.size, 0, none⟩ 1 1 [.int .i64 (x : Int)] rfl rfl (cell_one_new _ _ _) (by simp [Value.oneCell']) (by unfold maxLen; omega) (by omega) (by simp; omega) ?_; intro v' w2 hown' hgrow _)
      go_roundw
      case rel =>
        have hqe := HQ.out
        have hse := HSE.out
        have hee := HE.out
        refine ⟨S.extract 0 p, p, k + 1, cs ++ [x], rfl, ?_, ?_, by omega, by omega, by simp [HC.out], by rw [n64s_append]; exact hown', ?_, ?_, ((hB.trans (HB1.out.mono hBs)).alloc (by omega) _).grown hgrow (by simp; omega) (fun y hy => (hown1.lt y hy).1)⟩
        · rw [Lib.extract_data, HSL.out, List.drop_zero, Nat.sub_zero, List.take_take]; congr 1; omega
        · rw [ByteArray.size_extract]; omega
        · intro d hd
          rcases List.mem_append.1 hd with h | h
          · exact HD.out d h
          · simp at h; omega
        · rw [Mth.val_snoc, HC.out, HV.out]
          have e1 : l.drop p = (l.drop p).take (e - p) ++ l.drop e := by
            conv => lhs; rw [← List.take_append_drop (e - p) (l.drop p)]
            rw [List.drop_drop]
            congr 2
            omega
          rw [e1, Mth.dv_append, HX.out]
          have e2 : (l.drop e).length = 4 * k := by
            have h2 := HZ.out
            rw [List.length_drop]; omega
          rw [e2, Nat.pow_mul, Nat.add_comm, Nat.mul_comm x]
      case measure => have hqe := HQ.out; have hse := HSE.out; show (S.extract 0 p).size < S.size; rw [ByteArray.size_extract]; omega
end Go.Proofs.YtlildanamfjnmaaGreatDoor
