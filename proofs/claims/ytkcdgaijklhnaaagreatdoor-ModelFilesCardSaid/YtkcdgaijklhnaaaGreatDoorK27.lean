/-
  The code of bytes: the plain law.
  num.Code and the reference's Coded.
-/
import Derived.Test.YtkcdgaijklhnaaaGreatDoorK01
import Derived.Laws.BitsAllLaws
namespace Go.Proofs.YtkcdgaijklhnaaaGreatDoor.Mth
def cs (p r : Nat) : Nat := if r % 2 = 1 then r / 2 ^^^ p else r / 2
def csN (p : Nat) : Nat → Nat → Nat
 | 0, r => r
 | k + 1, r => csN p k (cs p r)
theorem csN_add (p : Nat) : ∀ a b r, csN p (a + b) r = csN p b (csN p a r)
 | 0, b, r => by rw [Nat.zero_add]; rfl
 | a + 1, b, r => by rw [Nat.succ_add, csN, csN, csN_add p a b]
theorem csN_succ (p a r : Nat) : csN p (a + 1) r = cs p (csN p a r) := csN_add p a 1 r
theorem cs_lt {p N r : Nat} (hp : p < 2 ^ (N + 1)) (h : r < 2 ^ (N + 1)) : cs p r < 2 ^ (N + 1) := by
 have h2 : r / 2 < 2 ^ (N + 1) := by omega
 unfold cs
 split
 ·exact Nat.xor_lt_two_pow h2 hp
 ·exact h2
theorem csN_lt {p N : Nat} (hp : p < 2 ^ (N + 1)) : ∀ (k : Nat) {r : Nat}, r < 2 ^ (N + 1) → csN p k r < 2 ^ (N + 1)
 | 0, _, h => h
 | k + 1, _, h => csN_lt hp k (cs_lt hp h)
def cb (p t r x : Nat) : Nat := csN p t (r ^^^ x)
def cc (p t : Nat) : Nat → List Nat → Nat
 | r, [] => r
 | r, x :: l => cc p t (cb p t r x) l
theorem cc_append (p t : Nat) : ∀ (l m : List Nat) (r : Nat), cc p t r (l ++ m) = cc p t (cc p t r l) m
 | [], _, _ => rfl
 | _ :: l, m, _ => cc_append p t l m _
def cv (t : Nat) : List Nat → Nat
 | [] => 0
 | e :: l => e ^^^ 2 ^ t * cv t l
theorem cc_lt {p t N : Nat} (hp : p < 2 ^ (N + 1)) (hN : t ≤ N + 1) : ∀ {l : List Nat} {d : Nat}, (∀ e ∈ l, e < 2 ^ t) → d < 2 ^ (N + 1) → cc p t d l < 2 ^ (N + 1)
 | [], _, _, h => h
 | e :: l, d, hb, h => by
  have h4 : 2 ^ t ≤ 2 ^ (N + 1) := Nat.pow_le_pow_right (by omega) hN
  have h2 := hb e (by simp)
  exact cc_lt (l := l) (d := cb p t d e) hp hN (fun y hy => hb y (by simp [hy])) (csN_lt hp t (Nat.xor_lt_two_pow h (by omega)))
def rs (p x i n : Nat) : Nat := if (n ^^^ x / 2 ^ i) % 2 = 1 then n / 2 ^^^ p else n / 2
def rsN (p x : Nat) : Nat → Nat → Nat
 | 0, n => n
 | k + 1, n => rs p x k (rsN p x k n)
theorem rs_cs (p x n : Nat) : ∀ k, rsN p x k n ^^^ x / 2 ^ k = csN p k (n ^^^ x)
 | 0 => by simp [rsN, csN]
 | k + 1 => by
  rw [csN_succ, ← rs_cs p x n k, rsN, cs, rs]
  have e : x / 2 ^ (k + 1) = x / 2 ^ k / 2 := by rw [Nat.pow_succ, Nat.div_div_eq_div_mul]
  rw [e]
  split
  ·rw [Nat.xor_div_two, Nat.xor_assoc, Nat.xor_assoc, Nat.xor_comm p]
  ·rw [Nat.xor_div_two]
theorem rs_cb {p x n : Nat} (hx : x < 2 ^ 8) : rsN p x 8 n = cb p 8 n x := by
 have h := rs_cs p x n 8
 rw [Nat.div_eq_of_lt hx, Nat.xor_zero] at h
 exact h
end Go.Proofs.YtkcdgaijklhnaaaGreatDoor.Mth
namespace Go.Proofs.YtkcdgaijklhnaaaGreatDoor
open Go.RowKit
def u8s (l : List Nat) : List Value := l.map fun d : Nat => .int .u8 (d : Int)
theorem u8s_length (l : List Nat) : (u8s l).length = l.length := by simp [u8s]
theorem u8s_at {l : List Nat} {j : Nat} (h : j < l.length) : (u8s l)[j]? = some (.int .u8 ((l[j]?.getD 0 : Nat) : Int)) := by
 simp [u8s, List.getElem?_eq_getElem h]
def BI (w : World) (v : Value) (l : List Nat) : Prop := Sl w v (u8s l) ∧ l.length ≤ maxLen ∧ ∀ x ∈ l, x < 2 ^ 8
theorem BI.form {w : World} {v : Value} {l : List Nat} (h : BI w v l) : ∃ A c, v = .slice A l.length c := by
 obtain ⟨⟨A, c, e, -⟩, -⟩ := h
 exact ⟨A, c, by rw [e, u8s_length]⟩
theorem BI.at_ {w : World} {A : Option Addr} {c n : Nat} {l : List Nat} (h : BI w (.slice A n c) l) (hn : 0 < l.length) :
  ∃ b o, A = some ⟨b, o, none⟩ ∧ ∀ j, j < l.length → w.cell? ⟨b, o + j, none⟩ = some (.int .u8 ((l[j]?.getD 0 : Nat) : Int)) := by
 obtain ⟨⟨A', c', e, h1, h2, h3⟩, -⟩ := h
 injection e with e1 e2 e3
 subst e1
 obtain ⟨b, o, e, h4⟩ := h3 (by rw [u8s_length]; exact hn)
 exact ⟨b, o, e, fun j hj => h4 j _ (u8s_at hj)⟩
theorem BI.below {w w' : World} {v : Value} {l : List Nat} (h : BI w v l) (hb : Below w.heap.size w w') : BI w' v l := ⟨h.1.below hb, h.2⟩
def POLY : Nat := 3988292384
theorem poly_lt : POLY < 2 ^ (31 + 1) := by decide
def crc (l : List Nat) : Nat := Mth.cc POLY 8 4294967295 l
def code (l : List Nat) : Int := ((4294967295 ^^^ crc l : Nat) : Int)
theorem crc_lt {l : List Nat} (h : ∀ x ∈ l, x < 2 ^ 8) : crc l < 4294967296 := Mth.cc_lt (N := 31) poly_lt (by decide) h (by decide)
theorem crc_take {l : List Nat} {j : Nat} (h : j < l.length) : crc (l.take (j + 1)) = Mth.cb POLY 8 (crc (l.take j)) (l[j]?.getD 0) := by
 rw [List.take_add_one, crc, Mth.cc_append, List.getElem?_eq_getElem h]; rfl
theorem odd_and {r : Nat} (h : r < 4294967296) : bits .and .u32 (r : Int) 1 = ((r % 2 : Nat) : Int) := by
 have := u32_and_nat r 1 h (by decide)
 rw [Nat.and_one_is_mod] at this
 exact this
theorem cs_int {r : Nat} (h : r < 4294967296) (h1 : r % 2 = 1) : bits .xor .u32 ((r : Int) / 2) 3988292384 = ((Mth.cs POLY r : Nat) : Int) := by
 have := u32_xor_nat (r / 2) POLY (by omega) (by decide)
 rw [Mth.cs, if_pos h1, ← this]
 rfl
theorem cs_int0 {r : Nat} (h1 : ¬ r % 2 = 1) : (r : Int) / 2 = ((Mth.cs POLY r : Nat) : Int) := by
 rw [Mth.cs, if_neg h1]; omega
set_option maxHeartbeats 1000000 in
set_option maxRecDepth 100000 in
theorem code_any (l : List Nat) (v : Value) (w : World) (hv : BI w v l) : Calls Tryz.prog 106 #[v] w fun e w' => e = .returned (.int .i64 (code l)) ∧ w' = w := by
 obtain ⟨A, c, rfl⟩ := hv.form
 have hmx := hv.2.1
 unfold maxLen at hmx
 have HV := Lib.hid hv
 obtain ⟨n, hn⟩ : ∃ n, l.length = n := ⟨_, rfl⟩
 rw [hn] at hmx HV ⊢
 have HL := Lib.hid hn
 have hn2 : (n : Int) ≤ 9223372036854775807 := by omega
 clear hv hn
 go_enter Tryz.func106, Tryz.ntmps106
 go_wp2
 go_loopw [3, 8] (fun a3 a8 wr => ∃ j : Nat, a8 = .int .i64 j ∧ a3 = .int .u32 (crc (l.take j) : Int) ∧ wr = w ∧ j ≤ n) (fun _ a8 _ => n - (intOf a8).toNat)
 case atStart => exact ⟨0, rfl, rfl, rfl, by omega⟩
 case round =>
  obtain ⟨j, rfl, rfl, rfl, hj⟩ := hrel
  have hcl : crc (l.take j) < 4294967296 := crc_lt fun x hx => HV.out.2.2 x (List.mem_of_mem_take hx)
  by_cases hlt : j < n
  ·have hlt2 : (j : Int) < (n : Int) := by omega
   obtain ⟨b, o, rfl, hc⟩ := HV.out.at_ (by rw [HL.out]; omega)
   have hcj := hc j (by rw [HL.out]; exact hlt)
   have htk := crc_take (l := l) (j := j) (by rw [HL.out]; exact hlt)
   have hx8 : l[j]?.getD 0 < 256 := by
    have hjl : j < l.length := by rw [HL.out]; exact hlt
    have h := HV.out.2.2 _ (List.getElem_mem hjl)
    rw [List.getElem?_eq_getElem hjl]
    exact h
   obtain ⟨x, hx⟩ : ∃ x, l[j]?.getD 0 = x := ⟨_, rfl⟩
   rw [hx] at hcj htk hx8
   obtain ⟨r, hr⟩ : ∃ r, crc (l.take j) = r := ⟨_, rfl⟩
   rw [hr] at htk hcl ⊢
   have hxor := u32_xor_nat r x hcl (by omega)
   have hxl : r ^^^ x < 4294967296 := Nat.xor_lt_two_pow (n := 32) hcl (by omega)
   obtain ⟨z, hz⟩ : ∃ z, r ^^^ x = z := ⟨_, rfl⟩
   rw [Mth.cb, hz] at htk
   rw [hz] at hxor hxl
   have HTK := Lib.hid htk
   have hx0 : (x : Int) ≤ 255 := by omega
   have HZ := Lib.hid hxl
   clear hr hx hc htk hz
   go_wp2
   go_loopw [3, 16] (fun a3 a16 ws => ∃ k : Nat, a16 = .int .i64 k ∧ a3 = .int .u32 (Mth.csN POLY k z : Int) ∧ ws = wr ∧ k ≤ 8) (fun _ a16 _ => 8 - (intOf a16).toNat)
   case atStart => exact ⟨0, rfl, rfl, rfl, by omega⟩
   case round =>
    obtain ⟨k, rfl, rfl, rfl, hk⟩ := hrel
    by_cases hk8 : k < 8
    ·have hk2 : (k : Int) < 8 := by omega
     have hq : Mth.csN POLY k z < 4294967296 := Mth.csN_lt (N := 31) poly_lt k HZ.out
     have hs := Mth.csN_succ POLY k z
     obtain ⟨q, hqq⟩ : ∃ q, Mth.csN POLY k z = q := ⟨_, rfl⟩
     rw [hqq] at hq hs ⊢
     have HS := Lib.hid hs
     have ha := odd_and hq
     clear hs hqq
     by_cases hodd : q % 2 = 1
     ·have hc1 := cs_int hq hodd
      rw [hodd] at ha
      have ha2 : bits .and .u32 (q : Int) 1 = 1 := ha
      have HH := Lib.hid hodd
      clear ha hodd
      go_wp2
      go_roundw
      case rel => exact ⟨k + 1, by go_num, by rw [HS.out], by first | rfl | trivial, by omega⟩
      case measure => simp [intOf]; omega
     ·have hc1 := cs_int0 hodd
      rw [show q % 2 = 0 by omega] at ha
      have ha2 : bits .and .u32 (q : Int) 1 = 0 := ha
      clear ha hodd
      go_wp2
      go_roundw
      case rel => exact ⟨k + 1, by go_num, by rw [HS.out], by first | rfl | trivial, by omega⟩
      case measure => simp [intOf]; omega
    ·obtain rfl : k = 8 := by omega
     go_wp2
     go_roundw
     case rel => exact ⟨j + 1, by go_num, by rw [HTK.out], by first | rfl | trivial, by omega⟩
     case measure => simp [intOf]; omega
  ·obtain rfl : j = n := by omega
   have he : l.take j = l := List.take_of_length_le (by rw [HL.out]; omega)
   have HE := Lib.hid he
   obtain ⟨r, hr⟩ : ∃ r, crc (l.take j) = r := ⟨_, rfl⟩
   rw [hr] at hcl ⊢
   have HR := Lib.hid hr
   have hcm : bits .xor .u32 IntKind.u32.max (r : Int) = ((4294967295 ^^^ r : Nat) : Int) := u32_xor_nat 4294967295 r (by decide) hcl
   have hcl2 : 4294967295 ^^^ r < 4294967296 := Nat.xor_lt_two_pow (n := 32) (by decide) hcl
   obtain ⟨y, hy⟩ : ∃ y, 4294967295 ^^^ r = y := ⟨_, rfl⟩
   rw [hy] at hcm hcl2
   have HY := Lib.hid hy
   have hy2 : (y : Int) ≤ 4294967295 := by omega
   clear he hr hy
   go_wp2
   go_ret
   refine ⟨ret_int ?_, rfl⟩
   rw [code, ← HE.out, HR.out, HY.out]
   unfold wrap64
   omega
theorem rs_int {n Y : Nat} {x k : Nat} (h : n < 4294967296) (hY : x / 2 ^ k = Y) (h1 : (n ^^^ Y) % 2 = 1) : bits .xor .u32 ((n : Int) / 2) 3988292384 = ((Mth.rs POLY x k n : Nat) : Int) := by
 have := u32_xor_nat (n / 2) POLY (by omega) (by decide)
 rw [Mth.rs, hY, if_pos h1, ← this]
 rfl
theorem rs_int0 {n Y : Nat} {x k : Nat} (hY : x / 2 ^ k = Y) (h1 : ¬ (n ^^^ Y) % 2 = 1) : (n : Int) / 2 = ((Mth.rs POLY x k n : Nat) : Int) := by
 rw [Mth.rs, hY, if_neg h1]; omega
theorem rs_lt {n x k : Nat} (h : n < 4294967296) : Mth.rs POLY x k n < 4294967296 := by
 have h2 : n / 2 < 2 ^ 32 := by omega
 unfold Mth.rs
 split
 ·exact Nat.xor_lt_two_pow (n := 32) h2 (by decide)
 ·exact h2
theorem rsN_lt {n x : Nat} (h : n < 4294967296) : ∀ k, Mth.rsN POLY x k n < 4294967296
 | 0 => h
 | k + 1 => rs_lt (rsN_lt h k)
set_option maxHeartbeats 1000000 in
set_option maxRecDepth 100000 in
theorem coded_any (l : List Nat) (v : Value) (w : World) (hv : BI w v l) : Calls Tryz.prog 60 #[v] w fun e w' => e = .returned (.int .i64 (code l)) ∧ w' = w := by
 obtain ⟨A, c, rfl⟩ := hv.form
 have hmx := hv.2.1
 unfold maxLen at hmx
 have HV := Lib.hid hv
 obtain ⟨n, hn⟩ : ∃ n, l.length = n := ⟨_, rfl⟩
 rw [hn] at hmx HV ⊢
 have HL := Lib.hid hn
 have hn2 : (n : Int) ≤ 9223372036854775807 := by omega
 clear hv hn
 go_enter Tryz.func60, Tryz.ntmps60
 go_wp2
 go_loopw [3, 10] (fun a3 a10 wr => ∃ j : Nat, a10 = .int .i64 j ∧ a3 = .int .u32 (crc (l.take j) : Int) ∧ wr = w ∧ j ≤ n) (fun _ a10 _ => n - (intOf a10).toNat)
 case atStart => exact ⟨0, rfl, rfl, rfl, by omega⟩
 case round =>
  obtain ⟨j, rfl, rfl, rfl, hj⟩ := hrel
  have hcl : crc (l.take j) < 4294967296 := crc_lt fun x hx => HV.out.2.2 x (List.mem_of_mem_take hx)
  by_cases hlt : j < n
  ·have hlt2 : (j : Int) < (n : Int) := by omega
   obtain ⟨b, o, rfl, hc⟩ := HV.out.at_ (by rw [HL.out]; omega)
   have hcj := hc j (by rw [HL.out]; exact hlt)
   have htk := crc_take (l := l) (j := j) (by rw [HL.out]; exact hlt)
   have hx8 : l[j]?.getD 0 < 256 := by
    have hjl : j < l.length := by rw [HL.out]; exact hlt
    have h := HV.out.2.2 _ (List.getElem_mem hjl)
    rw [List.getElem?_eq_getElem hjl]
    exact h
   obtain ⟨x, hx⟩ : ∃ x, l[j]?.getD 0 = x := ⟨_, rfl⟩
   rw [hx] at hcj htk hx8
   obtain ⟨r, hr⟩ : ∃ r, crc (l.take j) = r := ⟨_, rfl⟩
   rw [hr] at htk hcl ⊢
   rw [← Mth.rs_cb (p := POLY) (n := r) (x := x) (by omega)] at htk
   have HTK := Lib.hid htk
   have hx0 : (x : Int) ≤ 255 := by omega
   have HCL := Lib.hid hcl
   have HX8 := Lib.hid hx8
   clear hr hx hc htk hcl hx8
   go_wp2
   go_loopw [3, 14] (fun a3 a14 ws => ∃ k : Nat, a14 = .int .i64 k ∧ a3 = .int .u32 (Mth.rsN POLY x k r : Int) ∧ ws = wr ∧ k ≤ 8) (fun _ a14 _ => 8 - (intOf a14).toNat)
   case atStart => exact ⟨0, rfl, rfl, rfl, by omega⟩
   case round =>
    obtain ⟨k, rfl, rfl, rfl, hk⟩ := hrel
    by_cases hk8 : k < 8
    ·have hk2 : (k : Int) < 8 := by omega
     have hq := rsN_lt (x := x) HCL.out k
     have HS : Hid (Mth.rsN POLY x (k + 1) r = Mth.rs POLY x k (Mth.rsN POLY x k r)) := Lib.hid rfl
     obtain ⟨q, hqq⟩ : ∃ q, Mth.rsN POLY x k r = q := ⟨_, rfl⟩
     rw [hqq] at hq HS ⊢
     obtain ⟨Y, hY⟩ : ∃ Y, x / 2 ^ k = Y := ⟨_, rfl⟩
     have hYl : Y < 4294967296 := by
      have h1 : x / 2 ^ k ≤ x := Nat.div_le_self _ _
      have := HX8.out
      omega
     have hsh : (x : Int) / 2 ^ k = (Y : Int) := by rw [← hY]; push_cast; rfl
     have hxor := u32_xor_nat q Y hq hYl
     have hxl : q ^^^ Y < 4294967296 := Nat.xor_lt_two_pow (n := 32) hq hYl
     have ha := odd_and hxl
     by_cases hodd : (q ^^^ Y) % 2 = 1
     ·have hc1 := rs_int hq hY hodd
      rw [hodd] at ha
      obtain ⟨Z, hZ⟩ : ∃ Z, q ^^^ Y = Z := ⟨_, rfl⟩
      rw [hZ] at ha hxor
      have ha2 : bits .and .u32 (Z : Int) 1 = 1 := ha
      clear ha hodd hqq hY hZ hxl
      go_wp2
      go_roundw
      case rel => exact ⟨k + 1, by go_num, by rw [HS.out], by first | rfl | trivial, by omega⟩
      case measure => simp [intOf]; omega
     ·have hc1 := rs_int0 hY hodd
      rw [show (q ^^^ Y) % 2 = 0 by omega] at ha
      obtain ⟨Z, hZ⟩ : ∃ Z, q ^^^ Y = Z := ⟨_, rfl⟩
      rw [hZ] at ha hxor
      have ha2 : bits .and .u32 (Z : Int) 1 = 0 := ha
      clear ha hodd hqq hY hZ hxl
      go_wp2
      go_roundw
      case rel => exact ⟨k + 1, by go_num, by rw [HS.out], by first | rfl | trivial, by omega⟩
      case measure => simp [intOf]; omega
    ·obtain rfl : k = 8 := by omega
     go_wp2
     go_roundw
     case rel => exact ⟨j + 1, by go_num, by rw [HTK.out], by first | rfl | trivial, by omega⟩
     case measure => simp [intOf]; omega
  ·obtain rfl : j = n := by omega
   have he : l.take j = l := List.take_of_length_le (by rw [HL.out]; omega)
   have HE := Lib.hid he
   obtain ⟨r, hr⟩ : ∃ r, crc (l.take j) = r := ⟨_, rfl⟩
   rw [hr] at hcl ⊢
   have HR := Lib.hid hr
   have hcm : bits .xor .u32 IntKind.u32.max (r : Int) = ((4294967295 ^^^ r : Nat) : Int) := u32_xor_nat 4294967295 r (by decide) hcl
   have hcl2 : 4294967295 ^^^ r < 4294967296 := Nat.xor_lt_two_pow (n := 32) (by decide) hcl
   obtain ⟨y, hy⟩ : ∃ y, 4294967295 ^^^ r = y := ⟨_, rfl⟩
   rw [hy] at hcm hcl2
   have HY := Lib.hid hy
   have hy2 : (y : Int) ≤ 4294967295 := by omega
   clear he hr hy
   go_wp2
   go_ret
   refine ⟨ret_int ?_, rfl⟩
   rw [code, ← HE.out, HR.out, HY.out]
   unfold wrap64
   omega
end Go.Proofs.YtkcdgaijklhnaaaGreatDoor
