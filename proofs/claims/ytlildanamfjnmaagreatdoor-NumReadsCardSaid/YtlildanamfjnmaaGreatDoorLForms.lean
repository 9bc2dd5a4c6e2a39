/-
  The law NumForms: num.Text, RatText, the walk.
-/
import Derived.Test.YtlildanamfjnmaaGreatDoorNums
import Derived.Test.YtlildanamfjnmaaGreatDoorRFault
import Derived.Test.YtlildanamfjnmaaGreatDoorStrm
namespace Go.Proofs.YtlildanamfjnmaaGreatDoor
open Go.RowKit

/-- the text of a number -/
def txt (nl dl : List UInt8) : ByteArray := if (dl == [49]) = true then ⟨nl.toArray⟩ else (⟨nl.toArray⟩ ++ ⟨#[47]⟩) ++ ⟨dl.toArray⟩

set_option maxHeartbeats 1000000 in
set_option maxRecDepth 100000 in
theorem rtext_any (nl dl : List UInt8) (w : World) (hn : nl.length ≤ 100000000) (hd : dl.length ≤ 100000000) :
    Calls Tryz.prog 24 #[.agg #[.string ⟨nl.toArray⟩, .string ⟨dl.toArray⟩]] w fun e w' => e = .returned (.string (txt nl dl)) ∧ Below w.heap.size w w' := by
  have hB : Below w.heap.size w (w.alloc (.cells #[.string ⟨nl.toArray⟩, .string ⟨dl.toArray⟩] 31)) := (Below.refl _ w).alloc (Nat.le_refl _) _
  have HB := Lib.hid hB
  have s1 : (ByteArray.mk nl.toArray).size ≤ 100000000 := by rw [bytes_size, bytes_toList]; exact hn
  have s2 : (ByteArray.mk dl.toArray).size ≤ 100000000 := by rw [bytes_size, bytes_toList]; exact hd
  clear hB
  by_cases h : (dl == [49]) = true
  · have HTX : Hid (txt nl dl = ⟨nl.toArray⟩) := Lib.hid (by rw [txt, if_pos h])
    rw [HTX.out]
    go_enter Tryz.func24, Tryz.ntmps24
    go_wp2
    go_ret
    exact ⟨rfl, HB.out⟩
  · have HTX : Hid (txt nl dl = (⟨nl.toArray⟩ ++ ⟨#[47]⟩) ++ ⟨dl.toArray⟩) := Lib.hid (by rw [txt, if_neg h])
    replace h := eq_false_of_ne_true h
    rw [HTX.out]
    go_enter Tryz.func24, Tryz.ntmps24
    go_wp2
    go_ret
    exact ⟨rfl, HB.out⟩

set_option maxHeartbeats 1000000 in
set_option maxRecDepth 100000 in
theorem text_bad (nl dl : List UInt8) (K : Int) (w : World) (hn : nl.length ≤ 100000000) (hd : dl.length ≤ 100000000) (hK : chkOf nl dl = K) (h0 : K ≠ 0) :
    Calls Tryz.prog 23 #[.agg #[.string ⟨nl.toArray⟩, .string ⟨dl.toArray⟩]] w fun e w' => e = .returned (.tuple #[.string ⟨#[]⟩, .int .i64 K]) ∧ Below w.heap.size w w' := by
  have hc := fun W => numCheck_any nl dl W (by omega) (by omega)
  rw [hK] at hc
  have HC := Lib.hid hc
  have h1 : (K != 0) = true := by simpa using h0
  have HK := Lib.hid (Blk.new w 31 #[.string ⟨nl.toArray⟩, .string ⟨dl.toArray⟩])
  clear hc hK h0 hn hd
  go_enter Tryz.func23, Tryz.ntmps23
  go_wp2_with fail
  refine (HC.out _).mono ?_
  rintro e w1 ⟨rfl, hB1⟩
  have HB : Hid (Below w.heap.size w w1) := Lib.hid (((Below.refl _ w).alloc (Nat.le_refl _) _).trans (hB1.mono (by simp)))
  clear hB1
  go_wp2
  go_ret2
  exact ⟨rfl, HB.out⟩
set_option maxHeartbeats 1000000 in
set_option maxRecDepth 100000 in
theorem text_ok (nl dl : List UInt8) (w : World) (hn : nl.length ≤ 100000000) (hd : dl.length ≤ 100000000) (hK : chkOf nl dl = 0) :
    Calls Tryz.prog 23 #[.agg #[.string ⟨nl.toArray⟩, .string ⟨dl.toArray⟩]] w fun e w' => e = .returned (.tuple #[.string (txt nl dl), .int .i64 0]) ∧ Below w.heap.size w w' := by
  have hc := fun W => numCheck_any nl dl W (by omega) (by omega)
  rw [hK] at hc
  have HC := Lib.hid hc
  have HK := Lib.hid (Blk.new w 31 #[.string ⟨nl.toArray⟩, .string ⟨dl.toArray⟩])
  have s1 : (ByteArray.mk nl.toArray).size ≤ 100000000 := by rw [bytes_size, bytes_toList]; exact hn
  have s2 : (ByteArray.mk dl.toArray).size ≤ 100000000 := by rw [bytes_size, bytes_toList]; exact hd
  clear hc hK
  by_cases h : (dl == [49]) = true
  · have HTX : Hid (txt nl dl = ⟨nl.toArray⟩) := Lib.hid (by rw [txt, if_pos h])
    rw [HTX.out]
    go_enter Tryz.func23, Tryz.ntmps23
    go_wp2_with fail
    refine (HC.out _).mono ?_
    rintro e w1 ⟨rfl, hB1⟩
    have hk := HK.out.low hB1
    have c0 := hk.cell 0
    have c1 := hk.cell 1
    simp only [List.getElem?_toArray, List.getElem?_cons_zero, List.getElem?_cons_succ] at c0 c1
    have HB : Hid (Below w.heap.size w w1) := Lib.hid (((Below.refl _ w).alloc (Nat.le_refl _) _).trans (hB1.mono (by simp)))
    clear hB1 hk
    go_wp2
    go_ret2
    exact ⟨rfl, HB.out⟩
  · have HTX : Hid (txt nl dl = (⟨nl.toArray⟩ ++ ⟨#[47]⟩) ++ ⟨dl.toArray⟩) := Lib.hid (by rw [txt, if_neg h])
    replace h := eq_false_of_ne_true h
    rw [HTX.out]
    go_enter Tryz.func23, Tryz.ntmps23
    go_wp2_with fail
    refine (HC.out _).mono ?_
    rintro e w1 ⟨rfl, hB1⟩
    have hk := HK.out.low hB1
    have c0 := hk.cell 0
    have c1 := hk.cell 1
    simp only [List.getElem?_toArray, List.getElem?_cons_zero, List.getElem?_cons_succ] at c0 c1
    have HB : Hid (Below w.heap.size w w1) := Lib.hid (((Below.refl _ w).alloc (Nat.le_refl _) _).trans (hB1.mono (by simp)))
    clear hB1 hk
    go_wp2
    go_ret2
    exact ⟨rfl, HB.out⟩

/-- the stream that a law makes of its slice -/
theorem strm_new {w : World} {A : Option Addr} {c : Nat} {ws : List Int} (hv : LI w (.slice A ws.length c) ws) : Strm (w.alloc (.cells #[.slice A ws.length c, .int .i64 0] 45)) w.heap.size A c ws 0 := by
  have hcell : ∀ j u, #[Value.slice A ws.length c, .int .i64 0][j]? = some u → (w.alloc (.cells #[.slice A ws.length c, .int .i64 0] 45)).cell? ⟨w.heap.size, j, none⟩ = some u := by
    intro j u hu
    rw [cell_of_row _ _ _ _ _ (0, 0) (heap_alloc_new w _)]
    exact hu
  refine ⟨hcell 0 _ rfl, hcell 1 _ rfl, by unfold World.frozen?; simp only [heap_alloc_new]; rfl, hv.2.1, hv.2.2, fun h0 => ?_⟩
  obtain ⟨b, o, e, hc⟩ := hv.at_ h0
  exact ⟨b, o, e, World.block_lt_of_cell? w _ (hc 0 h0), fun j hj => (World.cell?_alloc_lt w _ _ (World.block_lt_of_cell? w _ (hc j hj))).trans (hc j hj)⟩
theorem str_form (S : ByteArray) : ∃ l : List UInt8, S = ⟨l.toArray⟩ ∧ l.length = S.size := ⟨S.data.toList, by cases S; simp, by rw [bytes_size]⟩

set_option maxHeartbeats 4000000 in
set_option maxRecDepth 100000 in
theorem forms_law (v : Value) (ws : List Int) (w : World) (hv : LI w v ws) (htab : Tabs w) :
    Calls Tryz.prog 5 #[v] w fun e w' => e = .returned (.bool true) ∧ Below w.heap.size w w' := by
  obtain ⟨A, c, rfl⟩ := hv.form
  have HN := Lib.hid (fun W (h : Tabs W) => nums_any W h)
  have HB0 : Hid (Below w.heap.size w (w.alloc (.cells #[.slice A ws.length c, .int .i64 0] 45))) := Lib.hid ((Below.refl _ w).alloc (Nat.le_refl _) _)
  have HT0 := Lib.hid (htab.low HB0.out)
  have HGT : Hid (w.heap.size ≠ 3) := Lib.hid (by have := htab.1; omega)
  have HL := Lib.hid (loose_any _ w.heap.size c A ws 0 (strm_new hv) (by omega) (by omega) HT0.out HGT.out)
  obtain ⟨n, hn⟩ : ∃ n, ws.length = n := ⟨_, rfl⟩
  rw [hn] at HL HB0 HT0 ⊢
  clear hv htab hn
  go_enter Tryz.func5, Tryz.ntmps5
  go_wp2_with fail
  refine HL.out.mono ?_
  rintro e w1 ⟨S, T, rfl, hS, hT, -, hg1⟩
  obtain ⟨nl, rfl, hnl⟩ := str_form S
  obtain ⟨dl, rfl, hdl⟩ := str_form T
  have hnl9 : nl.length ≤ 100000000 := by omega
  have hdl9 : dl.length ≤ 100000000 := by omega
  have hB1 : Below w.heap.size w w1 := HB0.out.grown hg1 (by simp) (fun k hk => by injection hk with hk; omega)
  have HB2 : Hid (Below w.heap.size w (w1.alloc (.cells #[.string ⟨nl.toArray⟩, .string ⟨dl.toArray⟩] 31))) := Lib.hid (hB1.alloc hB1.size _)
  have HT2 : Hid (Tabs (w1.alloc (.cells #[.string ⟨nl.toArray⟩, .string ⟨dl.toArray⟩] 31))) := Lib.hid ((HT0.out.only hg1 HGT.out).low ((Below.refl _ w1).alloc (Nat.le_refl _) _))
  have HK2 := Lib.hid (Blk.new w1 31 #[.string ⟨nl.toArray⟩, .string ⟨dl.toArray⟩])
  have HF := Lib.hid (fun W => rfault_any nl dl W hnl9 hdl9)
  have HCK := Lib.hid (fun W => numCheck_any nl dl W (by omega) (by omega))
  have HRT := Lib.hid (fun W => rtext_any nl dl W hnl9 hdl9)
  have HTB := Lib.hid (fun K W h1 h2 => text_bad nl dl K W hnl9 hdl9 h1 h2)
  have HTO := Lib.hid (fun W h => text_ok nl dl W hnl9 hdl9 h)
  obtain ⟨K, hK⟩ : ∃ K, chkOf nl dl = K := ⟨_, rfl⟩
  have HK := Lib.hid hK
  have hf := HF.out
  have hc := HCK.out
  rw [hK] at hf hc
  have HF1 := Lib.hid hf
  have HC1 := Lib.hid hc
  clear hg1 hB1 hS hT hnl hdl hnl9 hdl9 hK hf hc HF HCK
  go_wp2_with fail
  refine (HF1.out _).mono ?_
  rintro e w3 ⟨rfl, hB3⟩
  have hk3 := HK2.out.low hB3
  have c0 := hk3.cell 0
  have c1 := hk3.cell 1
  simp only [List.getElem?_toArray, List.getElem?_cons_zero, List.getElem?_cons_succ] at c0 c1
  have HB3 : Hid (Below w.heap.size w w3) := Lib.hid (HB2.out.trans (hB3.mono HB2.out.size))
  have HT3 := Lib.hid (HT2.out.low hB3)
  have HK3 := Lib.hid hk3
  clear hB3 hk3
  by_cases h0 : K = 0
  · subst h0
    have HTX := Lib.hid (fun W => HTO.out W HK.out)
    obtain ⟨tx, htx⟩ : ∃ tx, txt nl dl = tx := ⟨_, rfl⟩
    have h1 := HTX.out
    have h2 := HRT.out
    rw [htx] at h1 h2
    have HTX := Lib.hid h1
    have HRT := Lib.hid h2
    clear h1 h2 htx
    go_wp2_with fail
    refine (HTX.out _).mono ?_
    rintro e w4 ⟨rfl, hB4⟩
    have hk4 := HK3.out.low hB4
    have c0' := hk4.cell 0
    have c1' := hk4.cell 1
    simp only [List.getElem?_toArray, List.getElem?_cons_zero, List.getElem?_cons_succ] at c0' c1'
    have HB4 : Hid (Below w.heap.size w w4) := Lib.hid (HB3.out.trans (hB4.mono HB3.out.size))
    have HT4 := Lib.hid (HT3.out.low hB4)
    have HK4 := Lib.hid hk4
    clear hB4 hk4
    go_wp2_with fail
    refine (HRT.out _).mono ?_
    rintro e w5 ⟨rfl, hB5⟩
    have HB5 : Hid (Below w.heap.size w w5) := Lib.hid (HB4.out.trans (hB5.mono HB4.out.size))
    have HT5 := Lib.hid (HT4.out.low hB5)
    have HK5 := Lib.hid (HK4.out.low hB5)
    clear hB5
    go_wp2_with fail
    refine (HN.out _ HT5.out).mono ?_
    rintro e w6 ⟨rfl, hB6⟩
    have hk6 := HK5.out.low hB6
    have d0 := hk6.cell 0
    have d1 := hk6.cell 1
    simp only [List.getElem?_toArray, List.getElem?_cons_zero, List.getElem?_cons_succ] at d0 d1
    have HB6 : Hid (Below w.heap.size w w6) := Lib.hid (HB5.out.trans (hB6.mono HB5.out.size))
    clear hB6 hk6
    go_wp2_with fail
    refine (HC1.out _).mono ?_
    rintro e w7 ⟨rfl, hB7⟩
    have HB7 : Hid (Below w.heap.size w w7) := Lib.hid (HB6.out.trans (hB7.mono HB6.out.size))
    clear hB7
    go_wp2
    go_ret
    exact ⟨ret_bool (by simp), HB7.out⟩
  · have HTX := Lib.hid (fun W => HTB.out K W HK.out h0)
    have hK0 : (K == 0) = false := by simpa using h0
    clear h0
    go_wp2_with fail
    refine (HTX.out _).mono ?_
    rintro e w4 ⟨rfl, hB4⟩
    have HB4 : Hid (Below w.heap.size w w4) := Lib.hid (HB3.out.trans (hB4.mono HB3.out.size))
    have HT4 := Lib.hid (HT3.out.low hB4)
    have HK4 := Lib.hid (HK3.out.low hB4)
    clear hB4
    go_wp2_with fail
    refine (HN.out _ HT4.out).mono ?_
    rintro e w6 ⟨rfl, hB6⟩
    have hk6 := HK4.out.low hB6
    have d0 := hk6.cell 0
    have d1 := hk6.cell 1
    simp only [List.getElem?_toArray, List.getElem?_cons_zero, List.getElem?_cons_succ] at d0 d1
    have HB6 : Hid (Below w.heap.size w w6) := Lib.hid (HB4.out.trans (hB6.mono HB4.out.size))
    clear hB6 hk6
    go_wp2_with fail
    refine (HC1.out _).mono ?_
    rintro e w7 ⟨rfl, hB7⟩
    have HB7 : Hid (Below w.heap.size w w7) := Lib.hid (HB6.out.trans (hB7.mono HB6.out.size))
    clear hB7
    go_wp2
    go_ret
    exact ⟨ret_bool (by simp), HB7.out⟩
end Go.Proofs.YtlildanamfjnmaaGreatDoor
