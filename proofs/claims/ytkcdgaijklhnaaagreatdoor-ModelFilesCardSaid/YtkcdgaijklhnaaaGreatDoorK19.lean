/-
  num.digits, num.Check.
  num.Make, num.Whole.
  nums().
-/
import Derived.Test.YtkcdgaijklhnaaaGreatDoorK17
import Derived.Test.YtkcdgaijklhnaaaGreatDoorK18
import Derived.Shelf.Strings.SlTrimAscii
namespace Go.Proofs.YtkcdgaijklhnaaaGreatDoor
open Go.RowKit Go.Shelf
def digB (l : List UInt8) : Bool := !l.isEmpty && l.all Mth.isD && (l.head? != some 48 || l == [48])
def tenDigits : ByteArray := ⟨#[48, 49, 50, 51, 52, 53, 54, 55, 56, 57]⟩
theorem isD_cut (c : UInt8) : tenDigits.data.toList.contains c = Mth.isD c := by
 have h : ∀ n : Fin 256, tenDigits.data.toList.contains (UInt8.ofNat n.val) = Mth.isD (UInt8.ofNat n.val) := by decide +kernel
 have := h ⟨c.toNat, c.toNat_lt⟩
 simpa using this
theorem digits_empty (w : World) : Calls Tryz.prog 144 #[.string ⟨#[]⟩] w fun e w' => e = .returned (.bool false) ∧ w = w' := by
 go_enter Tryz.func144, Tryz.ntmps144
 go_wp2
 go_ret
 exact ⟨rfl, rfl⟩
theorem dropWhile_nil {α : Type} (p : α → Bool) : ∀ l : List α, l.dropWhile p = [] ↔ l.all p = true
 | [] => by simp
 | a :: l => by
  by_cases h : p a = true
  ·rw [List.dropWhile_cons_of_pos h, dropWhile_nil p l]; simp [h]
  ·rw [List.dropWhile_cons_of_neg h]; simp [h]
theorem all_dropWhile_rev {α : Type} (p : α → Bool) (l : List α) : ((l.reverse.dropWhile p).reverse).all p = true ↔ l.all p = true := by
 constructor
 ·intro h
  have h2 : l.reverse.all p = true := by
   rw [← List.takeWhile_append_dropWhile (p := p) (l := l.reverse), List.all_append, Bool.and_eq_true]
   exact ⟨List.all_takeWhile, by rw [List.all_reverse] at h; exact h⟩
  rwa [List.all_reverse] at h2
 ·intro h
  rw [List.all_reverse]
  rw [List.all_eq_true] at h ⊢
  intro x hx
  exact h x (List.mem_reverse.1 ((List.dropWhile_sublist p).subset hx))
theorem trim_nil (l : List UInt8) : Lib.trimS l tenDigits.data.toList = [] ↔ l.all Mth.isD = true := by
 have e : (fun c => tenDigits.data.toList.contains c) = Mth.isD := funext isD_cut
 unfold Lib.trimS Lib.trimLeftS Lib.trimRightS
 rw [e, dropWhile_nil, all_dropWhile_rev]
theorem trim_str (l : List UInt8) (w : World) (hs : l.length ≤ 9000000000000000000) :
  Calls Tryz.prog 178 #[.string ⟨l.toArray⟩, .string ⟨#[48, 49, 50, 51, 52, 53, 54, 55, 56, 57]⟩] w fun e w' => e = .returned (.string ⟨(Lib.trimS l tenDigits.data.toList).toArray⟩) ∧ Below w.heap.size w w' := by
 have h := Any.strings_Trim_laid Tryz.lays160 (by kernel_rfl) ⟨l.toArray⟩ tenDigits w (by rw [bytes_size]; simp; omega) (by decide) (ascii_of_all (by decide))
 rwa [bytes_toList] at h
set_option maxHeartbeats 1000000 in
set_option maxRecDepth 100000 in
theorem digits_cons (c : UInt8) (r : List UInt8) (w : World) (hs : (c :: r).length ≤ 9000000000000000000) :
  Calls Tryz.prog 144 #[.string ⟨(c :: r).toArray⟩] w fun e w' => e = .returned (.bool (digB (c :: r))) ∧ Below w.heap.size w w' := by
 have ht := trim_str (c :: r) w hs
 by_cases hall : (c :: r).all Mth.isD = true
 ·rw [(trim_nil _).2 hall] at ht
  have HT := Lib.hid ht
  have HA := Lib.hid hall
  clear ht hall
  have hd : digB (c :: r) = (c != 48 || r == []) := by
   unfold digB
   rw [HA.out]
   by_cases h : c = 48
   ·subst h; cases r <;> simp
   ·have h1 : (some c != some (48 : UInt8)) = true := by simp [bne_iff_ne, h]
    have h2 : (c != 48) = true := by simp [h]
    simp [h1, h2]
  rw [hd]
  by_cases hc : c = 48
  ·subst hc
   cases r with
   | nil =>
    go_enter Tryz.func144, Tryz.ntmps144
    go_wp2_with fail
    refine HT.out.mono ?_
    rintro e w1 ⟨rfl, hB⟩
    go_wp2
    go_ret
    exact ⟨rfl, hB⟩
   | cons d r =>
    go_enter Tryz.func144, Tryz.ntmps144
    go_wp2_with fail
    refine HT.out.mono ?_
    rintro e w1 ⟨rfl, hB⟩
    go_wp2
    go_ret
    exact ⟨rfl, hB⟩
  ·have hc2 : ((c.toNat : Int) != 48) = true := by
    have : c.toNat ≠ 48 := fun h => hc (UInt8.toNat_inj.1 (by rw [h]; rfl))
    simp; omega
   have hi : (ByteArray.mk (c :: r).toArray)[0]'(by rw [bytes_size]; simp) = c := rfl
   go_enter Tryz.func144, Tryz.ntmps144
   go_wp2_with fail
   refine HT.out.mono ?_
   rintro e w1 ⟨rfl, hB⟩
   go_wp2
   go_ret
   exact ⟨ret_bool (by simp [hc]), hB⟩
 ·have hne : Lib.trimS (c :: r) tenDigits.data.toList ≠ [] := fun h => hall ((trim_nil _).1 h)
  obtain ⟨x, t, hx⟩ : ∃ x t, Lib.trimS (c :: r) tenDigits.data.toList = x :: t := by
   cases h : Lib.trimS (c :: r) tenDigits.data.toList with
   | nil => exact absurd h hne
   | cons x t => exact ⟨x, t, rfl⟩
  rw [hx] at ht
  have HT := Lib.hid ht
  have hd : digB (c :: r) = false := by
   unfold digB
   rw [eq_false_of_ne_true hall]
   simp
  rw [hd]
  clear ht hall hne hx
  go_enter Tryz.func144, Tryz.ntmps144
  go_wp2_with fail
  refine HT.out.mono ?_
  rintro e w1 ⟨rfl, hB⟩
  go_wp2
  go_ret
  exact ⟨rfl, hB⟩
theorem digits_any (l : List UInt8) (w : World) (hs : l.length ≤ 9000000000000000000) :
  Calls Tryz.prog 144 #[.string ⟨l.toArray⟩] w fun e w' => e = .returned (.bool (digB l)) ∧ Below w.heap.size w w' := by
 cases l with
 | nil =>
  refine (digits_empty w).mono ?_
  rintro e w' ⟨rfl, rfl⟩
  exact ⟨rfl, Below.refl _ _⟩
 | cons c r => exact digits_cons c r w hs
def cutNum (nl : List UInt8) : List UInt8 := Lib.trimPrefix nl [45]
def negNum (nl : List UInt8) : Bool := Lib.hasPrefix nl [45]
def chk (b1 b2 : Bool) (c dl : List UInt8) (g : Bool) (m n : Nat) : Int :=
 if !b1 || !b2 || dl == [48] then 3 else if c == [48] then (if g || !dl == [49] then 3 else 0) else if !dl == [49] && !(Nat.gcd m n == 1) then 3 else 0
set_option maxHeartbeats 1000000 in
set_option maxRecDepth 100000 in
theorem check_walk (nl dl c : List UInt8) (g b1 b2 : Bool) (m n : Nat) (w : World)
  (HC : Hid (∀ W, Calls Tryz.prog 71 #[.string ⟨nl.toArray⟩, .string ⟨#[45]⟩] W fun e w' => e = .returned (.tuple #[.string ⟨c.toArray⟩, .bool g]) ∧ w' = W))
  (HD1 : Hid (∀ W, Calls Tryz.prog 144 #[.string ⟨c.toArray⟩] W fun e w' => e = .returned (.bool b1) ∧ Below W.heap.size W w'))
  (HD2 : Hid (∀ W, Calls Tryz.prog 144 #[.string ⟨dl.toArray⟩] W fun e w' => e = .returned (.bool b2) ∧ Below W.heap.size W w'))
  (HP1 : Hid (b1 = true → ∀ W, Calls Tryz.prog 146 #[.string ⟨c.toArray⟩] W fun e w' => ∃ v, e = .returned v ∧ Below W.heap.size W w' ∧ Nt w' v m))
  (HP2 : Hid (b2 = true → ∀ W, Calls Tryz.prog 146 #[.string ⟨dl.toArray⟩] W fun e w' => ∃ v, e = .returned v ∧ Below W.heap.size W w' ∧ Nt w' v n))
  (HM : Hid (b1 = true → (Mth.dg 1000000000 m).length ≤ 100000000000)) (HN : Hid (b2 = true → (Mth.dg 1000000000 n).length ≤ 100000000000)) :
  Calls Tryz.prog 102 #[.agg #[.string ⟨nl.toArray⟩, .string ⟨dl.toArray⟩]] w fun e w' => e = .returned (.int .i64 (chk b1 b2 c dl g m n)) ∧ Below w.heap.size w w' := by
 go_enter Tryz.func102, Tryz.ntmps102
 go_wp2_with fail
 refine (HC.out _).mono ?_
 rintro e w1 ⟨rfl, rfl⟩
 go_wp2_with fail
 refine (HD1.out _).mono ?_
 rintro e w1 ⟨rfl, hB1⟩
 have hcell := (Blk.new w 50 #[.string ⟨nl.toArray⟩, .string ⟨dl.toArray⟩]).low hB1
 have c1 := hcell.cell 1
 simp only [List.getElem?_toArray, List.getElem?_cons_zero, List.getElem?_cons_succ] at c1
 have HB1 : Hid (Below w.heap.size w w1) := Lib.hid (((Below.refl _ w).alloc (Nat.le_refl _) _).trans (hB1.mono (by simp)))
 have HL := Lib.hid hcell
 clear hB1 hcell
 cases b1 with
 | false =>
  go_wp2
  go_ret
  exact ⟨ret_int (by simp [chk]), HB1.out⟩
 | true =>
  have HQ1 := Lib.hid (HP1.out rfl)
  have hm := HM.out rfl
  clear HP1 HM
  go_wp2_with fail
  refine (HD2.out _).mono ?_
  rintro e w2 ⟨rfl, hB2⟩
  have hcell2 := HL.out.low hB2
  have c2 := hcell2.cell 1
  simp only [List.getElem?_toArray, List.getElem?_cons_zero, List.getElem?_cons_succ] at c2
  have HB2 := Lib.hid hB2
  have HL2 := Lib.hid hcell2
  clear hB2 hcell2
  cases b2 with
  | false =>
   go_wp2
   go_ret
   exact ⟨ret_int (by simp [chk, *]), HB1.out.trans (HB2.out.mono HB1.out.size)⟩
  | true =>
   have HQ2 := Lib.hid (HP2.out rfl)
   have hn := HN.out rfl
   clear HP2 HN
   by_cases hd : (dl == [48]) = true
   ·go_wp2
    go_ret
    exact ⟨ret_int (by simp [chk, *]), HB1.out.trans (HB2.out.mono HB1.out.size)⟩
   ·replace hd := eq_false_of_ne_true hd
    by_cases hc : (c == [48]) = true
    ·cases g with
     | true =>
      go_wp2
      go_ret
      exact ⟨ret_int (by simp [chk, *]), HB1.out.trans (HB2.out.mono HB1.out.size)⟩
     | false =>
      by_cases h1 : (!dl == [49]) = true
      ·go_wp2
       go_ret
       exact ⟨ret_int (by simp [chk, *]), HB1.out.trans (HB2.out.mono HB1.out.size)⟩
      ·replace h1 := eq_false_of_ne_true h1
       go_wp2
       go_ret
       exact ⟨ret_int (by simp [chk, *]), HB1.out.trans (HB2.out.mono HB1.out.size)⟩
    ·replace hc := eq_false_of_ne_true hc
     have hlt := HL2.out.lt
     have HS : Hid (∀ w', Below w2.heap.size w2 w' → w'.cell? ⟨w.heap.size, 1, none⟩ = some (.string ⟨dl.toArray⟩)) := Lib.hid fun w' hb => (hb.cell (p := ⟨w.heap.size, 1, none⟩) hlt).trans c2
     have hg : (Mth.dg 1000000000 (Nat.gcd m n)).length ≤ 1000000000000 := by
      rcases Nat.eq_zero_or_pos m with hz | hp
      ·rw [hz, Nat.gcd_zero_left]; omega
      ·exact Nat.le_trans (Mth.dg_len_mono (by omega) (Nat.gcd_le_left n hp)) (by omega)
     have tok1 : True := trivial
     have tok2 : True := trivial
     by_cases h1 : (!dl == [49]) = true
     ·go_wp2_with fail
      go_region_held3 (fun w' => w'.cell? ⟨w.heap.size, 1, none⟩ = some (.string ⟨dl.toArray⟩))
       (first | exact c2 | exact HS.out _ HC4.out | exact HS.out _ HC3.out | exact HS.out _ HC2.out | exact HS.out _ HC1.out | go_keep)
       (first
        | (go_at_call 146; have _t := tok1; refine (HQ1.out _).mono ?_; rintro e w3 ⟨v1, rfl, hB1, hN1⟩; have HN1 := Lib.hid hN1; have HC1 : Hid (Below w2.heap.size w2 w3) := Lib.hid ((Below.refl _ w2).drew.trans hB1); clear hN1 hB1 tok1 _t)
        | (go_at_call 146; have _t := tok2; refine (HQ2.out _).mono ?_; rintro e w4 ⟨v2, rfl, hB2, hN2⟩; have HN2 := Lib.hid hN2; have HN12 := Lib.hid (HN1.out.below hB2); have HC2 : Hid (Below w2.heap.size w2 w4) := Lib.hid (HC1.out.trans (hB2.mono HC1.out.size)); clear hN2 hB2 tok2 _t)
        | (go_at_call 145; refine (gcd_any m n _ _ _ HN12.out HN2.out hm hn).mono ?_; rintro e w5 ⟨v3, rfl, hB3, hN3⟩; have HN3 := Lib.hid hN3; have HC3 : Hid (Below w2.heap.size w2 w5) := Lib.hid (HC2.out.trans (hB3.mono HC2.out.size)); clear hN3 hB3)
        | (go_at_call 147; refine (one_any _ _ _ HN3.out hg).mono ?_; rintro e w6 ⟨rfl, hE⟩; have HC4 : Hid (Below w2.heap.size w2 w6) := Lib.hid (hE ▸ HC3.out); clear hE))
      by_cases hgg : Nat.gcd m n = 1
      ·rw [decide_eq_true hgg]
       go_wp2
       go_ret
       exact ⟨ret_int (by simp [chk, *]), HB1.out.trans ((HB2.out.trans (HC4.out.mono HB2.out.size)).mono HB1.out.size)⟩
      ·rw [decide_eq_false hgg]
       go_wp2
       go_ret
       exact ⟨ret_int (by simp [chk, *]), HB1.out.trans ((HB2.out.trans (HC4.out.mono HB2.out.size)).mono HB1.out.size)⟩
     ·replace h1 := eq_false_of_ne_true h1
      go_wp2_with fail
      go_quiet (fail)
      go_wp2
      go_ret
      exact ⟨ret_int (by simp [chk, *]), HB1.out.trans ((below_drewN HB2.out _).mono HB1.out.size)⟩
def chkOf (nl dl : List UInt8) : Int := chk (digB (cutNum nl)) (digB dl) (cutNum nl) dl (negNum nl) (Mth.dv (cutNum nl)) (Mth.dv dl)
theorem digB_all {l : List UInt8} (h : digB l = true) : l.all Mth.isD = true := by
 simp only [digB, Bool.and_eq_true] at h; exact h.1.2
theorem numCheck_any (nl dl : List UInt8) (w : World) (hn : nl.length ≤ 1000000000) (hd : dl.length ≤ 1000000000) :
  Calls Tryz.prog 102 #[.agg #[.string ⟨nl.toArray⟩, .string ⟨dl.toArray⟩]] w fun e w' => e = .returned (.int .i64 (chkOf nl dl)) ∧ Below w.heap.size w w' := by
 have hcl : (cutNum nl).length ≤ nl.length := by unfold cutNum Lib.trimPrefix; split <;> simp
 have hlen : ∀ l : List UInt8, l.length ≤ 1000000000 → l.all Mth.isD = true → (Mth.dg 1000000000 (Mth.dv l)).length ≤ 100000000000 := fun l h1 h2 =>
  Nat.le_trans (Mth.dg_len_le (by omega) l.length _ (Nat.lt_of_lt_of_le (Mth.dv_lt l h2) (Nat.pow_le_pow_left (by omega) _))) (by omega)
 refine check_walk nl dl (cutNum nl) (negNum nl) (digB (cutNum nl)) (digB dl) (Mth.dv (cutNum nl)) (Mth.dv dl) w (Lib.hid ?_) (Lib.hid ?_) (Lib.hid ?_) (Lib.hid ?_) (Lib.hid ?_) (Lib.hid ?_) (Lib.hid ?_)
 ·intro W
  have hcut := Tryz.strings_CutPrefix ⟨nl.toArray⟩ ⟨#[45]⟩ W
  rw [bytes_toList] at hcut
  exact hcut
 ·exact fun W => digits_any (cutNum nl) W (by omega)
 ·exact fun W => digits_any dl W (by omega)
 ·intro h W
  have := parse_any ⟨(cutNum nl).toArray⟩ W (by rw [bytes_toList]; exact digB_all h) (by rw [bytes_toList]; omega)
  rwa [bytes_toList] at this
 ·intro h W
  have := parse_any ⟨dl.toArray⟩ W (by rw [bytes_toList]; exact digB_all h) (by rw [bytes_toList]; omega)
  rwa [bytes_toList] at this
 ·exact fun h => hlen _ (by omega) (digB_all h)
 ·exact fun h => hlen _ (by omega) (digB_all h)
end Go.Proofs.YtkcdgaijklhnaaaGreatDoor
namespace Go.Proofs.YtkcdgaijklhnaaaGreatDoor
open Go.RowKit
theorem str_eq {S : ByteArray} {l : List UInt8} (h : S.data.toList = l) : S = ⟨l.toArray⟩ := by
 rw [← h]
theorem rnum_len {m d k : Nat} (hm : (Mth.dg 1000000000 m).length ≤ k) : (Mth.dg 1000000000 (rnum m d)).length ≤ k := by
 refine Nat.le_trans (Mth.dg_len_mono (by omega) ?_) hm
 unfold rnum
 split <;> first | exact Nat.div_le_self _ _ | omega
theorem rden_len {m d k : Nat} (hm : (Mth.dg 1000000000 d).length ≤ k) (h1 : 1 ≤ k) : (Mth.dg 1000000000 (rden m d)).length ≤ k := by
 unfold rden
 split
 ·rw [Mth.dg_one (by omega) (by omega) (by omega)]; simpa using h1
 ·exact Nat.le_trans (Mth.dg_len_mono (by omega) (Nat.div_le_self _ _)) hm
set_option maxHeartbeats 2000000 in
set_option maxRecDepth 100000 in
theorem make_any (a b : Int) (w : World) (h1 : -9223372036854775808 ≤ a) (h2 : a ≤ 9223372036854775807) (h3 : -9223372036854775808 ≤ b) (h4 : b ≤ 9223372036854775807) (hb0 : b ≠ 0) (htab : Tabs w) :
  Calls Tryz.prog 101 #[.int .i64 a, .int .i64 b] w fun e w' => e = .returned (.tuple #[.agg #[.string ⟨(numBytes (qneg a b) (qnum a b)).toArray⟩, .string ⟨(Lib.decDigits (qden a b)).toArray⟩], .int .i64 0]) ∧ Below w.heap.size w w' := by
 have hq := fun W => quot_any a b W h1 h2 h3 h4 hb0
 have l1 : (Mth.dg 1000000000 (qnum a b)).length ≤ 1000000000000 := Nat.le_trans (rnum_len (k := 3) (by rw [Nat.mul_one]; exact natAbs_len h1 h2)) (by omega)
 have l2 : (Mth.dg 1000000000 (qden a b)).length ≤ 1000000000000 := Nat.le_trans (rden_len (k := 3) (by rw [Nat.one_mul]; exact natAbs_len h3 h4) (by omega)) (by omega)
 have hbd : (b == 0) = false := by simpa using hb0
 have HQ := Lib.hid hq
 have HL1 := Lib.hid l1
 have HL2 := Lib.hid l2
 obtain ⟨W, hW⟩ : ∃ W, W = w.alloc (.cells #[.string ⟨#[]⟩, .string ⟨#[]⟩] 50) := ⟨_, rfl⟩
 have hBW : Below w.heap.size w W := by
  rw [hW]
  exact (Below.refl _ w).alloc (Nat.le_refl _) _
 have hk0 : Blk W w.heap.size 50 #[.string ⟨#[]⟩, .string ⟨#[]⟩] := by
  rw [hW]; exact Blk.new w _ _
 have HW := Lib.hid hW
 have HT := Lib.hid (htab.low hBW)
 have HB := Lib.hid hBW
 have HK := Lib.hid hk0
 have HZ := Lib.hid hb0
 clear hq l1 l2 hW htab hBW hk0 hb0
 go_enter Tryz.func101, Tryz.ntmps101
 go_wp2_with fail
 rw [← HW.out]
 refine (HQ.out _).mono ?_
 rintro e w1 ⟨v1, v2, rfl, hN1, hN2, hB1⟩
 have hr := rat_any (qneg a b) (qnum a b) (qden a b) v1 v2 w1 hN1 hN2 HL1.out HL2.out (HT.out.low hB1)
 have HR := Lib.hid hr
 have HB1 := Lib.hid hB1
 clear hr hN1 hN2 hB1
 go_wp2_with fail
 refine HR.out.mono ?_
 rintro e w2 ⟨S, T, rfl, hS, hT, hB2⟩
 have hk := (HK.out.low HB1.out).low hB2
 have c0 := hk.cell 0
 have c1 := hk.cell 1
 have f0 := hk.frozen 0
 have f1 := hk.frozen 1
 simp only [List.getElem?_toArray, List.getElem?_cons_zero, List.getElem?_cons_succ] at c0 c1
 have HS := Lib.hid (str_eq hS)
 have HT2 := Lib.hid (str_eq hT)
 have HBB := Lib.hid (HB.out.trans ((HB1.out.trans (hB2.mono HB1.out.size)).mono HB.out.size))
 clear hS hT hB2 hk
 go_wp2
 refine bodyPost_ret (v := .tuple #[.agg #[.string S, .string T], .int .i64 0]) (by simp [results, Tryz.results101, go_sem, c0, c1]) rfl ?_
 refine ⟨?_, (HBB.out.setCell (p := ⟨w.heap.size, 0, none⟩) (Nat.le_refl _) _).setCell (p := ⟨w.heap.size, 1, none⟩) (Nat.le_refl _) _⟩
 rw [HS.out, HT2.out]
end Go.Proofs.YtkcdgaijklhnaaaGreatDoor
namespace Go.Proofs.YtkcdgaijklhnaaaGreatDoor
open Go.RowKit
theorem n64 : numBytes (qneg 6 (-4)) (qnum 6 (-4)) = [45, 51] := by decide +kernel
theorem d64 : Lib.decDigits (qden 6 (-4)) = [50] := by decide +kernel
theorem chk_64 : chkOf [45, 51] [50] = 0 := by decide +kernel
theorem chk_nil : chkOf [] [] = 3 := by decide +kernel
set_option maxHeartbeats 2000000 in
set_option maxRecDepth 100000 in
theorem nums_any (w : World) (htab : Tabs w) :
  Calls Tryz.prog 55 #[] w fun e w' => e = .returned (.bool true) ∧ Below w.heap.size w w' := by
 have hm := make_any 6 (-4) w (by omega) (by omega) (by omega) (by omega) (by omega) htab
 rw [n64, d64] at hm
 have hc1 := fun W => numCheck_any [45, 51] [50] W (by simp) (by simp)
 have hc2 := fun W => numCheck_any [] [] W (by simp) (by simp)
 rw [chk_64] at hc1
 rw [chk_nil] at hc2
 have HM := Lib.hid hm
 have HC1 := Lib.hid hc1
 have HC2 := Lib.hid hc2
 clear hm hc1 hc2
 go_enter Tryz.func55, Tryz.ntmps55
 go_wp2_with fail
 refine HM.out.mono ?_
 rintro e w1 ⟨rfl, hB1⟩
 have HB1 := Lib.hid hB1
 clear hB1
 have hk := Blk.new w1 50 #[.string ⟨#[45, 51]⟩, .string ⟨#[50]⟩]
 go_wp2_with fail
 refine (HC1.out _).mono ?_
 rintro e w2 ⟨rfl, hB2⟩
 have HB2 : Hid (Below w1.heap.size w1 w2) := Lib.hid (((Below.refl _ w1).alloc (Nat.le_refl _) _).trans (hB2.mono (by simp)))
 clear hB2
 go_wp2_with fail
 refine (HC2.out _).mono ?_
 rintro e w3 ⟨rfl, hB3⟩
 have HB3 := Lib.hid hB3
 clear hB3
 go_wp2
 go_ret
 exact ⟨rfl, HB1.out.trans ((HB2.out.trans (HB3.out.mono HB2.out.size)).mono HB1.out.size)⟩
end Go.Proofs.YtkcdgaijklhnaaaGreatDoor
