/-
  Decimal numerals: no program in sight.
  nat.Parse: the number of decimal digits.
-/
import Derived.Test.YtadkhechobeccaaGreatDoorK01
import Derived.Lib.ItoaNum
import Derived.Lib.ParseIntB
import Derived.Test.YtadkhechobeccaaGreatDoorShelf
import Derived.Test.YtadkhechobeccaaGreatDoorK15
import Derived.Lib.Strings
import Derived.Lib.AtoiErrMem
namespace Go.Proofs.YtadkhechobeccaaGreatDoor.Mth
def isD (c : UInt8) : Bool := decide (48 ≤ c.toNat) && decide (c.toNat ≤ 57)
def dv (l : List UInt8) : Nat := l.foldl (fun a c => a * 10 + (c.toNat - 48)) 0
theorem foldl_dv (l : List UInt8) : ∀ a, l.foldl (fun a c => a * 10 + (c.toNat - 48)) a = a * 10 ^ l.length + dv l := by
  induction l with
  | nil => intro a; simp [dv]
  | cons c r ih =>
    intro a
    simp only [List.foldl_cons, dv, List.length_cons]
    rw [ih, ih (0 * 10 + (c.toNat - 48)), Nat.pow_succ, Nat.zero_mul, Nat.zero_add, Nat.add_mul, Nat.mul_assoc, Nat.mul_comm 10, Nat.add_assoc]
theorem dv_append (l m : List UInt8) : dv (l ++ m) = dv l * 10 ^ m.length + dv m := by
  rw [dv, List.foldl_append, foldl_dv]; rfl
theorem dv_cons (c : UInt8) (l : List UInt8) : dv (c :: l) = (c.toNat - 48) * 10 ^ l.length + dv l := by
  rw [dv, List.foldl_cons, foldl_dv]; simp
theorem dv_lt : ∀ l : List UInt8, l.all isD = true → dv l < 10 ^ l.length
  | [], _ => by simp [dv]
  | c :: l, h => by
    simp only [List.all_cons, Bool.and_eq_true, isD, decide_eq_true_eq] at h
    have ih := dv_lt l h.2
    rw [dv_cons, List.length_cons, Nat.pow_succ]
    have h2 : (c.toNat - 48) * 10 ^ l.length ≤ 9 * 10 ^ l.length := Nat.mul_le_mul_right _ (by omega)
    omega
theorem parse_ok : ∀ (l : List UInt8) (acc M : Nat), l.all isD = true → acc * 10 ^ l.length + dv l ≤ M → M < 1844674407370955162 → Lib.parseUintM M acc l = .ok (acc * 10 ^ l.length + dv l)
  | [], acc, M, _, _, _ => by simp [Lib.parseUintM, dv]
  | c :: l, acc, M, h, hM, hM2 => by
    simp only [List.all_cons, Bool.and_eq_true, isD, decide_eq_true_eq] at h
    have hp : 1 ≤ 10 ^ l.length := Nat.pow_pos (by omega)
    have e : acc * 10 ^ (c :: l).length + dv (c :: l) = (acc * 10 + (c.toNat - 48)) * 10 ^ l.length + dv l := by
      rw [dv_cons, List.length_cons, Nat.pow_succ, Nat.add_mul, Nat.mul_assoc acc, Nat.mul_comm 10]; omega
    rw [e] at hM ⊢
    have h1 : (acc * 10 + (c.toNat - 48)) * 1 ≤ (acc * 10 + (c.toNat - 48)) * 10 ^ l.length := Nat.mul_le_mul_left _ hp
    rw [Lib.parseUintM, if_pos ⟨h.1.1, h.1.2⟩, if_neg (by omega), if_neg (by omega)]
    exact parse_ok l _ M h.2 hM hM2
theorem parse9 (l : List UInt8) (h : l.all isD = true) (h0 : l ≠ []) (h9 : l.length ≤ 9) : Lib.parseUintB 32 l = .ok (dv l) := by
  rw [Lib.parseUintB, if_neg h0]
  have h1 := dv_lt l h
  have h2 : 10 ^ l.length ≤ 10 ^ 9 := Nat.pow_le_pow_right (by omega) h9
  have := parse_ok l 0 (2 ^ 32 - 1) h (by omega) (by omega)
  rwa [Nat.zero_mul, Nat.zero_add] at this
def pad : Nat → Nat → List UInt8
  | 0, _ => []
  | k + 1, d => pad k (d / 10) ++ [UInt8.ofNat (48 + d % 10)]
theorem decDigits_small {u : Nat} (h : u < 10) : Lib.decDigits u = [UInt8.ofNat (48 + u)] := by rw [Lib.decDigits, dif_pos h]
theorem decDigits_big {u : Nat} (h : ¬ u < 10) : Lib.decDigits u = Lib.decDigits (u / 10) ++ [UInt8.ofNat (48 + u % 10)] := by rw [Lib.decDigits, dif_neg h]
theorem dec_pad : ∀ (k m d : Nat), 0 < m → d < 10 ^ k → Lib.decDigits (m * 10 ^ k + d) = Lib.decDigits m ++ pad k d
  | 0, m, d, _, hd => by
    have : d = 0 := by simpa using hd
    subst this; simp [pad]
  | k + 1, m, d, hm, hd => by
    have hp : 1 ≤ 10 ^ k := Nat.pow_pos (by omega)
    have h1 : 1 * 10 ^ (k + 1) ≤ m * 10 ^ (k + 1) := Nat.mul_le_mul_right _ hm
    rw [Nat.pow_succ] at h1 hd ⊢
    rw [decDigits_big (by omega)]
    have e1 : (m * (10 ^ k * 10) + d) / 10 = m * 10 ^ k + d / 10 := by rw [← Nat.mul_assoc]; omega
    have e2 : (m * (10 ^ k * 10) + d) % 10 = d % 10 := by rw [← Nat.mul_assoc]; omega
    rw [e1, e2, dec_pad k m (d / 10) hm (by omega), List.append_assoc]
    rfl
theorem pad_zero : ∀ k, pad k 0 = List.replicate k 48
  | 0 => rfl
  | k + 1 => by rw [pad, Nat.zero_div, pad_zero k, List.replicate_succ']; rfl
theorem pad_eq : ∀ (k d : Nat), d < 10 ^ k → 0 < k → pad k d = List.replicate (k - (Lib.decDigits d).length) 48 ++ Lib.decDigits d ∧ (Lib.decDigits d).length ≤ k
  | 0, _, _, h => absurd h (by omega)
  | k + 1, d, hd, _ => by
    by_cases h : d < 10
    · rw [decDigits_small h, pad, Nat.div_eq_of_lt h, pad_zero, Nat.mod_eq_of_lt h]
      simp
    · rw [decDigits_big h, pad]
      rw [Nat.pow_succ] at hd
      have hk : 0 < k := by
        rcases Nat.eq_zero_or_pos k with h0 | h0
        · subst h0; simp at hd; omega
        · exact h0
      obtain ⟨e1, e2⟩ := pad_eq k (d / 10) (by omega) hk
      rw [e1]
      refine ⟨?_, by simp; omega⟩
      simp only [List.length_append, List.length_singleton]
      rw [← List.append_assoc]
      congr 2
      congr 1
      omega
theorem pad_length : ∀ k d, (pad k d).length = k
  | 0, _ => rfl
  | k + 1, d => by rw [pad]; simp [pad_length k]
theorem dec_len_le (n : Nat) : (Lib.decDigits n).length ≤ 9 * (dg 1000000000 n).length + 1 := by
  have h := lt_pow_dg (b := 1000000000) (by omega) n
  have e : (1000000000 : Nat) ^ (dg 1000000000 n).length = 10 ^ (9 * (dg 1000000000 n).length) := by rw [Nat.pow_mul]
  rw [e] at h
  have h2 : 10 ^ (9 * (dg 1000000000 n).length) ≤ 10 ^ (9 * (dg 1000000000 n).length + 1) := Nat.pow_le_pow_right (by omega) (by omega)
  exact (pad_eq (9 * (dg 1000000000 n).length + 1) n (by omega) (by omega)).2
end Go.Proofs.YtadkhechobeccaaGreatDoor.Mth
namespace Go.Proofs.YtadkhechobeccaaGreatDoor
open Go.RowKit Go.Shelf
theorem parseUint_ok (s : ByteArray) (w : World) (h : s.data.toList.all Mth.isD = true) (h0 : s.data.toList ≠ []) (h9 : s.data.toList.length ≤ 9) :
    Calls Tryz.prog 122 #[.string s, .int .i64 10, .int .i64 32] w fun e w' => e = .returned (.tuple #[.int .u64 (Mth.dv s.data.toList : Nat), .nilIface]) ∧ Below w.heap.size w w' := by
  have hs : s.size = s.data.toList.length := by rw [← ByteArray.size_data]; simp
  refine (Tryz.strconv_ParseUint_10_at32_ok s (by omega) _ (Mth.parse9 _ h h0 h9) w).mono ?_
  rintro e w' ⟨rfl, rfl | rfl⟩
  · exact ⟨rfl, Below.refl _ _⟩
  · exact ⟨rfl, Lib.bytesWorld_below w _ s⟩
theorem all_sub {l : List UInt8} {p : UInt8 → Bool} (h : l.all p = true) (a b : Nat) : ((l.drop a).take b).all p = true := by
  rw [List.all_eq_true] at h ⊢
  intro x hx
  exact h x (List.mem_of_mem_drop (List.mem_of_mem_take hx))
set_option maxHeartbeats 2000000 in
set_option maxRecDepth 100000 in
theorem parse_any (s : ByteArray) (w : World) (h : s.data.toList.all Mth.isD = true) (hs : s.data.toList.length ≤ 1000000000000) :
    Calls Tryz.prog 100 #[.string s] w fun e w' => ∃ v, e = .returned v ∧ Below w.heap.size w w' ∧ Nt w' v (Mth.dv s.data.toList) := by
  obtain ⟨i0, hi, hz0, hz1, hz2⟩ := info_parts info_u32
  have hsz : s.size = s.data.toList.length := by rw [← ByteArray.size_data]; simp
  obtain ⟨l, hl⟩ : ∃ l, s.data.toList = l := ⟨_, rfl⟩
  rw [hl] at h hs hsz
  rw [hl]
  have HS := Lib.hid hl
  have HA := Lib.hid h
  have HZ := Lib.hid hsz
  have hsn : (s.size : Int) ≤ 1000000000000 := by omega
  clear hl h hsz
  go_enter Tryz.func100, Tryz.ntmps100
  go_wp2
  go_loopw [3, 4] (fun a3 a4 wr => ∃ (e : Int) (k : Nat) (cs : List Nat), a4 = .int .i64 e ∧ e = (s.size : Int) - 9 * k ∧ -9 ≤ e ∧ cs.length = k ∧ wr.ownsRow w.heap.size 126 1 a3 k (u32s cs) ∧ (∀ d ∈ cs, d < 1000000000) ∧
    Mth.val 1000000000 cs = Mth.dv (l.drop e.toNat) ∧ Below w.heap.size w wr) (fun _ a4 _ => (intOf a4).toNat)
  case atStart => exact ⟨_, 0, [], rfl, by omega, by omega, rfl, World.ownsRow_nil _ _ _ _, by simp, by rw [Int.toNat_natCast, HZ.out, List.drop_length]; rfl, Below.refl _ _⟩
  case round =>
    obtain ⟨e, k, cs, rfl, he, he9, hc, hown, hd, hv, hB⟩ := hrel
    have HE := Lib.hid he
    have HC := Lib.hid hc
    have HD := Lib.hid hd
    have HV := Lib.hid hv
    have hBs := hB.size
    have hes : e ≤ (s.size : Int) := by omega
    have hk : k ≤ 200000000000 := by omega
    clear hc hd hv
    by_cases h0 : e ≤ 0
    · have hsl := Sl.of_own hown
      have ht : e.toNat = 0 := by omega
      have hv := HV.out
      rw [ht, List.drop_zero] at hv
      have HV2 := Lib.hid hv
      clear ht hv he
      go_wp2_with (go_at_call 123; refine (trim_any cs _ _ hsl (by rw [HC.out]; omega)).mono ?_; rintro e w' ⟨v', rfl, hS, rfl⟩)
      go_ret
      refine ⟨v', rfl, hB, ?_⟩
      unfold Nt
      rw [← HV2.out, ← Mth.tidy_eq (by omega) cs HD.out]
      exact hS
    · obtain ⟨q, rfl⟩ : ∃ q : Nat, e = q := ⟨e.toNat, by omega⟩
      have hq0 : 0 < q := by omega
      obtain ⟨p, hp⟩ : ∃ p : Nat, q - 9 = p := ⟨_, rfl⟩
      have hmax : (max ((q : Int) - 9) 0) = (p : Int) := by omega
      have hpq : (p : Int) < q := by omega
      have hq1 : (q : Int) ≤ s.size := by omega
      have hchunk : (s.extract p q).data.toList = (l.drop p).take (q - p) := by rw [Lib.extract_data, HS.out]
      have hcl : ((l.drop p).take (q - p)).length = q - p := by
        rw [List.length_take, List.length_drop]; have := HZ.out; omega
      have hpu := fun W => parseUint_ok (s.extract p q) W (by rw [hchunk]; exact all_sub HA.out _ _) (by rw [hchunk]; intro h; rw [h] at hcl; simp at hcl; omega) (by rw [hchunk, hcl]; omega)
      rw [hchunk] at hpu
      have hdl := Mth.dv_lt _ (all_sub HA.out p (q - p))
      rw [hcl] at hdl
      have hd9 : (10 : Nat) ^ (q - p) ≤ 10 ^ 9 := Nat.pow_le_pow_right (by omega) (by omega)
      obtain ⟨x, hx⟩ : ∃ x, Mth.dv ((l.drop p).take (q - p)) = x := ⟨_, rfl⟩
      rw [hx] at hpu hdl
      have hx9 : x < 1000000000 := by omega
      have HP := Lib.hid hpu
      have HX := Lib.hid hx
      have HQ := Lib.hid hp
      have HM := Lib.hid hmax
      have HCL := Lib.hid hcl
      clear hchunk hcl hpu hdl hd9 hx hp he
      have hsplit : ((q : Int) - 9 ≤ 0 ∧ p = 0) ∨ ((0 : Int) < (q : Int) - 9 ∧ (p : Int) = (q : Int) - 9) := by have := HQ.out; omega
      go_wp2_with fail
      refine (HP.out _).mono ?_
      rintro e w1 ⟨rfl, hB1⟩
      have hown1 := own_below hown hB1
      have hsz1 := hB1.size
      have HB1 := Lib.hid hB1
      clear hB1 hown
      go_wp2_with (at_builtin; refine wpList_append_own _ rfl _ _ 107 rfl w.heap.size 126 i0 (.int .u32 0) 1 4 Tryz.underlying107 hi hz0 hz1 hz2 rfl (by decide) _ _ _ rfl (hown1.alloc _) ⟨w1.heap.size, 0, none⟩ 1 1 [.int .u32 (x : Int)] rfl rfl (cell_one_new _ _ _) (by simp [Value.oneCell']) (by unfold maxLen; omega) (by omega) (by simp; omega) ?_; intro v' w2 hown' hgrow _)
      go_roundw
      case rel =>
        refine ⟨(q : Int) - 9, k + 1, cs ++ [x], rfl, by have := HE.out; omega, by omega, by simp [HC.out], by rw [u32s_append]; exact hown', ?_, ?_, ((hB.trans (HB1.out.mono hBs)).alloc (by omega) _).grown hgrow (by simp; omega) (fun y hy => (hown1.lt y hy).1)⟩
        · intro d hd
          rcases List.mem_append.1 hd with h | h
          · exact HD.out d h
          · simp at h; omega
        · have hqe := HQ.out
          have hv := HV.out
          rw [Int.toNat_natCast] at hv
          rw [Mth.val_snoc, HC.out, hv, show ((q : Int) - 9).toNat = p by omega]
          have e1 : l.drop p = (l.drop p).take (q - p) ++ l.drop q := by
            conv => lhs; rw [← List.take_append_drop (q - p) (l.drop p)]
            rw [List.drop_drop]
            congr 2
            omega
          rw [e1, Mth.dv_append, HX.out]
          have e2 : (l.drop q).length = 9 * k := by
            have h1 := HE.out
            have h2 := HZ.out
            rw [List.length_drop]; omega
          rw [e2, Nat.pow_mul, Nat.add_comm, Nat.mul_comm x]
      case measure => simp [intOf]; omega
end Go.Proofs.YtadkhechobeccaaGreatDoor
