/-
  The law NumReads: num.Read, RatRead, the walk.
-/
import Derived.Test.YtlildanamfjnmaaGreatDoorLForms
import Derived.Test.YtlildanamfjnmaaGreatDoorChanged
import Derived.Lib.IndexBytes
import Derived.Lib.IndexLaws
namespace Go.Proofs.YtlildanamfjnmaaGreatDoor
open Go.RowKit

/-- the library's own variable holds some number -/
def Mx (w : World) : Prop := ∃ m, w.cell? ⟨0, 0, none⟩ = some (.int .i64 m)
theorem Mx.low {w w' : World} (h : Mx w) (hb : Below w.heap.size w w') : Mx w' := by
  obtain ⟨m, hm⟩ := h
  exact ⟨m, (hb.cell (World.block_lt_of_cell? w _ hm)).trans hm⟩
theorem Mx.only {w w' : World} {g : Nat} (h : Mx w) (hg : w.grownBy w' (some g)) (hne : g ≠ 0) : Mx w' := by
  obtain ⟨m, hm⟩ := h
  exact ⟨m, (World.cell?_of_block (a := ⟨0, 0, none⟩) (hg.block _ (World.block_lt_of_cell? w _ hm) (by intro e; injection e with e; exact hne e.symm))).trans hm⟩
theorem cut_any (l : List UInt8) (w : World) (hl : l.length ≤ 1000000) (hm : Mx w) :
    Calls Tryz.prog 92 #[.string ⟨l.toArray⟩, .string ⟨#[47]⟩] w fun e w' => e = .returned (.tuple #[.string ⟨(Lib.cut l [47]).1.toArray⟩, .string ⟨(Lib.cut l [47]).2.1.toArray⟩, .bool (Lib.cut l [47]).2.2]) ∧ Below w.heap.size w w' := by
  obtain ⟨m, hm⟩ := hm
  have h := Any.strings_Cut { Tryz.laysM145 with } ⟨l.toArray⟩ ⟨#[47]⟩ m w (by rw [bytes_size, bytes_toList]; omega) hm
  rw [bytes_toList] at h
  refine h.mono ?_
  rintro e w' ⟨he, n, rfl⟩
  exact ⟨he, rbelow_drewN (Below.refl _ w) n⟩

/-- what the two readers return -/
def rdVal (N D : List UInt8) (P : Bool) : Value :=
  if ((P && (D == [49])) || !(chkOf N (if P then D else [49]) == 0)) = true then .tuple #[.agg #[.string ⟨#[]⟩, .string ⟨#[]⟩], .int .i64 10] else .tuple #[.agg #[.string ⟨N.toArray⟩, .string ⟨(if P then D else [49]).toArray⟩], .int .i64 0]
theorem rdVal_bad1 {N D : List UInt8} (h : (D == [49]) = true) : rdVal N D true = .tuple #[.agg #[.string ⟨#[]⟩, .string ⟨#[]⟩], .int .i64 10] := by rw [rdVal, h]; rfl
theorem rdVal_bad2 {N D E : List UInt8} {P : Bool} (hE : (if P then D else [49]) = E) {K : Int} (hK : chkOf N E = K) (h : K ≠ 0) : rdVal N D P = .tuple #[.agg #[.string ⟨#[]⟩, .string ⟨#[]⟩], .int .i64 10] := by
  rw [rdVal, hE, hK]
  have : (K == 0) = false := by simpa using h
  rw [this, if_pos (by simp)]
theorem rdVal_ok {N D E : List UInt8} {P : Bool} (hE : (if P then D else [49]) = E) (hP : (P && (D == [49])) = false) (hK : chkOf N E = 0) : rdVal N D P = .tuple #[.agg #[.string ⟨N.toArray⟩, .string ⟨E.toArray⟩], .int .i64 0] := by
  rw [rdVal, hE, hK, hP, if_neg (by simp)]

def ReadPost (l : List UInt8) (w : World) (e : Ending) (w' : World) : Prop := e = .returned (rdVal (Lib.cut l [47]).1 (Lib.cut l [47]).2.1 (Lib.cut l [47]).2.2) ∧ Below w.heap.size w w'

set_option maxHeartbeats 4000000 in
set_option maxRecDepth 100000 in
theorem numRead_walk (s : ByteArray) (N D : List UInt8) (P : Bool) (w : World) (hN : N.length ≤ 1000000) (hD : D.length ≤ 1000000)
    (HC : Hid (∀ W, Below w.heap.size w W → Calls Tryz.prog 92 #[.string s, .string ⟨#[47]⟩] W fun e w' => e = .returned (.tuple #[.string ⟨N.toArray⟩, .string ⟨D.toArray⟩, .bool P]) ∧ Below W.heap.size W w')) :
    Calls Tryz.prog 44 #[.string s] w fun e w' => e = .returned (rdVal N D P) ∧ Below w.heap.size w w' := by
  obtain ⟨W, hW⟩ : ∃ W, W = w.alloc (.cells #[.string ⟨#[]⟩, .string ⟨#[]⟩] 31) := ⟨_, rfl⟩
  have hBW : Below w.heap.size w W := by rw [hW]; exact (Below.refl _ w).alloc (Nat.le_refl _) _
  have hk : Blk W w.heap.size 31 #[.string ⟨#[]⟩, .string ⟨#[]⟩] := by rw [hW]; exact Blk.new w _ _
  have HC1 := Lib.hid (HC.out W hBW)
  have HW := Lib.hid hW
  have HBW := Lib.hid hBW
  obtain ⟨E, hE⟩ : ∃ E, (if P then D else [49]) = E := ⟨_, rfl⟩
  obtain ⟨K, hK⟩ : ∃ K, chkOf N E = K := ⟨_, rfl⟩
  have hck := fun W => numCheck_any N E W (by omega) (by rw [← hE]; split <;> first | omega | simp)
  rw [hK] at hck
  have HCK := Lib.hid hck
  have HK := Lib.hid hK
  have HE := Lib.hid hE
  have HBL := Lib.hid hk
  clear hBW hW hk hck hK hE HC hN hD
  have key : (P = true ∧ (D == [49]) = true) ∨ (P = true ∧ (D == [49]) = false) ∨ P = false := by
    cases P <;> cases (D == [49]) <;> simp
  rcases key with ⟨rfl, hd⟩ | ⟨rfl, hd⟩ | rfl
  · have HV := Lib.hid (rdVal_bad1 (N := N) hd)
    go_enter Tryz.func44, Tryz.ntmps44
    go_wp2_with fail
    rw [← HW.out]
    refine HC1.out.mono ?_
    rintro e w1 ⟨rfl, hB1⟩
    have hk := HBL.out.low hB1
    have c0 := hk.cell 0
    have c1 := hk.cell 1
    have f0 := hk.frozen 0
    have f1 := hk.frozen 1
    simp only [List.getElem?_toArray, List.getElem?_cons_zero, List.getElem?_cons_succ] at c0 c1
    have HB1 : Hid (Below w.heap.size w w1) := Lib.hid (HBW.out.trans (hB1.mono HBW.out.size))
    have hlt := hk.lt
    have HBL1 := Lib.hid hk
    clear hk hB1
    have hkE : Blk (((w1.setCell ⟨w.heap.size, 0, none⟩ (.string ⟨#[]⟩)).setCell ⟨w.heap.size, 1, none⟩ (.string ⟨#[]⟩)).alloc (.cells #[.string ⟨N.toArray⟩, .string ⟨D.toArray⟩] 31)) w.heap.size 31 #[.string ⟨#[]⟩, .string ⟨#[]⟩] := (((HBL1.out.set 0 (.string ⟨#[]⟩)).set 1 (.string ⟨#[]⟩))).alloc _
    have d0 := hkE.cell 0
    have d1 := hkE.cell 1
    simp only [List.getElem?_toArray, List.getElem?_cons_zero, List.getElem?_cons_succ] at d0 d1
    have HD0 := Lib.hid d0
    have HD1 := Lib.hid d1
    clear hkE d0 d1
    go_wp2
    have d0 := HD0.out
    have d1 := HD1.out
    refine bodyPost_ret (v := .tuple #[.agg #[.string ⟨#[]⟩, .string ⟨#[]⟩], .int .i64 10]) (by simp [results, Tryz.results44, go_sem, d0, d1]) rfl ?_
    rw [HV.out]
    exact ⟨rfl, ((HB1.out.setCell (p := ⟨w.heap.size, 0, none⟩) (Nat.le_refl _) _).setCell (p := ⟨w.heap.size, 1, none⟩) (Nat.le_refl _) _).alloc (by simp; omega) _⟩
  · obtain rfl : E = D := by have h := HE.out; simpa using h.symm
    go_enter Tryz.func44, Tryz.ntmps44
    go_wp2_with fail
    rw [← HW.out]
    refine HC1.out.mono ?_
    rintro e w1 ⟨rfl, hB1⟩
    have hk := HBL.out.low hB1
    have c0 := hk.cell 0
    have c1 := hk.cell 1
    have f0 := hk.frozen 0
    have f1 := hk.frozen 1
    simp only [List.getElem?_toArray, List.getElem?_cons_zero, List.getElem?_cons_succ] at c0 c1
    have HB1 : Hid (Below w.heap.size w w1) := Lib.hid (HBW.out.trans (hB1.mono HBW.out.size))
    have hlt := hk.lt
    have HBL1 := Lib.hid hk
    clear hk hB1
    go_wp2_with fail
    refine (HCK.out _).mono ?_
    rintro e w2 ⟨rfl, hB2⟩
    have hk2 := (HBL1.out.alloc (.cells #[.string ⟨N.toArray⟩, .string ⟨E.toArray⟩] 31)).low hB2
    have hk3 := (Blk.new w1 31 #[.string ⟨N.toArray⟩, .string ⟨E.toArray⟩]).low hB2
    have d0 := hk2.cell 0
    have d1 := hk2.cell 1
    have g0 := hk2.frozen 0
    have g1 := hk2.frozen 1
    have e0 := hk3.cell 0
    have e1 := hk3.cell 1
    simp only [List.getElem?_toArray, List.getElem?_cons_zero, List.getElem?_cons_succ] at d0 d1 e0 e1
    have HB2 : Hid (Below w.heap.size w w2) := Lib.hid ((HB1.out.alloc (by omega) _).trans (hB2.mono (by simp; omega)))
    clear hB2 hk2 hk3 c0 c1 f0 f1
    by_cases h0 : K = 0
    · subst h0
      have HV := Lib.hid (rdVal_ok (P := true) (D := E) rfl (by rw [hd]; rfl) HK.out)
      go_wp2
      refine bodyPost_ret (v := .tuple #[.agg #[.string ⟨N.toArray⟩, .string ⟨E.toArray⟩], .int .i64 0]) (by simp [results, Tryz.results44, go_sem, d0, d1]) rfl ?_
      rw [HV.out]
      exact ⟨rfl, (HB2.out.setCell (p := ⟨w.heap.size, 0, none⟩) (Nat.le_refl _) _).setCell (p := ⟨w.heap.size, 1, none⟩) (Nat.le_refl _) _⟩
    · have HV := Lib.hid (rdVal_bad2 (P := true) (D := E) rfl HK.out h0)
      have hK1 : (K != 0) = true := by simpa using h0
      clear h0
      go_wp2
      refine bodyPost_ret (v := .tuple #[.agg #[.string ⟨#[]⟩, .string ⟨#[]⟩], .int .i64 10]) (by simp [results, Tryz.results44, go_sem, d0, d1]) rfl ?_
      rw [HV.out]
      exact ⟨rfl, (HB2.out.setCell (p := ⟨w.heap.size, 0, none⟩) (Nat.le_refl _) _).setCell (p := ⟨w.heap.size, 1, none⟩) (Nat.le_refl _) _⟩
  · obtain rfl : E = [49] := by have h := HE.out; simpa using h.symm
    go_enter Tryz.func44, Tryz.ntmps44
    go_wp2_with fail
    rw [← HW.out]
    refine HC1.out.mono ?_
    rintro e w1 ⟨rfl, hB1⟩
    have hk := HBL.out.low hB1
    have c0 := hk.cell 0
    have c1 := hk.cell 1
    have f0 := hk.frozen 0
    have f1 := hk.frozen 1
    simp only [List.getElem?_toArray, List.getElem?_cons_zero, List.getElem?_cons_succ] at c0 c1
    have HB1 : Hid (Below w.heap.size w w1) := Lib.hid (HBW.out.trans (hB1.mono HBW.out.size))
    have hlt := hk.lt
    have HBL1 := Lib.hid hk
    clear hk hB1
    go_wp2_with fail
    refine (HCK.out _).mono ?_
    rintro e w2 ⟨rfl, hB2⟩
    have hk2 := (HBL1.out.alloc (.cells #[.string ⟨N.toArray⟩, .string ⟨#[49]⟩] 31)).low hB2
    have hk3 := (Blk.new w1 31 #[.string ⟨N.toArray⟩, .string ⟨#[49]⟩]).low hB2
    have d0 := hk2.cell 0
    have d1 := hk2.cell 1
    have g0 := hk2.frozen 0
    have g1 := hk2.frozen 1
    have e0 := hk3.cell 0
    have e1 := hk3.cell 1
    simp only [List.getElem?_toArray, List.getElem?_cons_zero, List.getElem?_cons_succ] at d0 d1 e0 e1
    have HB2 : Hid (Below w.heap.size w w2) := Lib.hid ((HB1.out.alloc (by omega) _).trans (hB2.mono (by simp; omega)))
    clear hB2 hk2 hk3 c0 c1 f0 f1
    by_cases h0 : K = 0
    · subst h0
      have HV := Lib.hid (rdVal_ok (P := false) (D := D) rfl rfl HK.out)
      go_wp2
      refine bodyPost_ret (v := .tuple #[.agg #[.string ⟨N.toArray⟩, .string ⟨#[49]⟩], .int .i64 0]) (by simp [results, Tryz.results44, go_sem, d0, d1]) rfl ?_
      rw [HV.out]
      exact ⟨rfl, (HB2.out.setCell (p := ⟨w.heap.size, 0, none⟩) (Nat.le_refl _) _).setCell (p := ⟨w.heap.size, 1, none⟩) (Nat.le_refl _) _⟩
    · have HV := Lib.hid (rdVal_bad2 (P := false) (D := D) rfl HK.out h0)
      have hK1 : (K != 0) = true := by simpa using h0
      clear h0
      go_wp2
      refine bodyPost_ret (v := .tuple #[.agg #[.string ⟨#[]⟩, .string ⟨#[]⟩], .int .i64 10]) (by simp [results, Tryz.results44, go_sem, d0, d1]) rfl ?_
      rw [HV.out]
      exact ⟨rfl, (HB2.out.setCell (p := ⟨w.heap.size, 0, none⟩) (Nat.le_refl _) _).setCell (p := ⟨w.heap.size, 1, none⟩) (Nat.le_refl _) _⟩

set_option maxHeartbeats 4000000 in
set_option maxRecDepth 100000 in
theorem ratRead_walk (l N D : List UInt8) (P : Bool) (w : World) (hN : N.length ≤ 1000000) (hD : D.length ≤ 1000000) (h1 : P = true → l = N ++ 47 :: D) (h2 : P = false → N = l)
    (HC : Hid (∀ W, Below w.heap.size w W → Calls Tryz.prog 92 #[.string ⟨l.toArray⟩, .string ⟨#[47]⟩] W fun e w' => e = .returned (.tuple #[.string ⟨N.toArray⟩, .string ⟨D.toArray⟩, .bool P]) ∧ Below W.heap.size W w')) :
    Calls Tryz.prog 45 #[.string ⟨l.toArray⟩] w fun e w' => e = .returned (rdVal N D P) ∧ Below w.heap.size w w' := by
  obtain ⟨W, hW⟩ : ∃ W, W = w.alloc (.cells #[.string ⟨#[]⟩, .string ⟨#[]⟩] 31) := ⟨_, rfl⟩
  have hBW : Below w.heap.size w W := by rw [hW]; exact (Below.refl _ w).alloc (Nat.le_refl _) _
  have hk : Blk W w.heap.size 31 #[.string ⟨#[]⟩, .string ⟨#[]⟩] := by rw [hW]; exact Blk.new w _ _
  have HC1 := Lib.hid (HC.out W hBW)
  have HW := Lib.hid hW
  have HBW := Lib.hid hBW
  obtain ⟨E, hE⟩ : ∃ E, (if P then D else [49]) = E := ⟨_, rfl⟩
  obtain ⟨K, hK⟩ : ∃ K, chkOf N E = K := ⟨_, rfl⟩
  have hE9 : E.length ≤ 1000000 := by rw [← hE]; split <;> first | omega | simp
  have hck := fun W => rfault_any N E W (by omega) (by omega)
  rw [hK] at hck
  have HCK := Lib.hid hck
  have HRT := Lib.hid (fun W => rtext_any N E W (by omega) (by omega))
  have HK := Lib.hid hK
  have HE := Lib.hid hE
  have HBL := Lib.hid hk
  have H1 := Lib.hid h1
  have H2 := Lib.hid h2
  clear hBW hW hk hck hK hE HC hN hD hE9 h1 h2
  have key : (P = true ∧ (D == [49]) = true) ∨ (P = true ∧ (D == [49]) = false) ∨ P = false := by
    cases P <;> cases (D == [49]) <;> simp
  rcases key with ⟨rfl, hd⟩ | ⟨rfl, hd⟩ | rfl
  · obtain rfl : E = D := by have h := HE.out; simpa using h.symm
    have hE49 : E = [49] := by simpa using hd
    have hne : (N == l) = false := by
      rw [H1.out rfl, beq_eq_false_iff_ne]
      intro h
      have := congrArg List.length h
      simp at this
    have HTX : Hid (txt N E = ⟨N.toArray⟩) := Lib.hid (by rw [txt, if_pos hd])
    have HNE := Lib.hid hne
    have HBV := Lib.hid (rdVal_bad1 (N := N) hd)
    clear hne hE49
    go_enter Tryz.func45, Tryz.ntmps45
    go_wp2_with fail
    rw [← HW.out]
    refine HC1.out.mono ?_
    rintro e w1 ⟨rfl, hB1⟩
    have HB1 : Hid (Below w.heap.size w w1) := Lib.hid (HBW.out.trans (hB1.mono HBW.out.size))
    have HBL1 := Lib.hid (HBL.out.low hB1)
    have hlt := HBL1.out.lt
    clear hB1
    go_wp2_with fail
    refine (HCK.out _).mono ?_
    rintro e w2 ⟨rfl, hB2⟩
    have hk2 := (HBL1.out.alloc (.cells #[.string ⟨N.toArray⟩, .string ⟨E.toArray⟩] 31)).low hB2
    have hk3 := (Blk.new w1 31 #[.string ⟨N.toArray⟩, .string ⟨E.toArray⟩]).low hB2
    have d0 := hk2.cell 0
    have d1 := hk2.cell 1
    have g0 := hk2.frozen 0
    have g1 := hk2.frozen 1
    have e0 := hk3.cell 0
    have e1 := hk3.cell 1
    simp only [List.getElem?_toArray, List.getElem?_cons_zero, List.getElem?_cons_succ] at d0 d1 e0 e1
    have HB2 : Hid (Below w.heap.size w w2) := Lib.hid ((HB1.out.alloc (by omega) _).trans (hB2.mono (by simp; omega)))
    have HK2 := Lib.hid hk2
    have HK3 := Lib.hid hk3
    clear hB2 hk2 hk3
    by_cases h0 : K = 0
    · subst h0
      have HV := Lib.hid (HBV.out)
      clear d0 d1 g0 g1
      go_wp2_with fail
      refine (HRT.out _).mono ?_
      rintro e w3 ⟨rfl, hB3⟩
      have hk2 := HK2.out.low hB3
      have hk3 := HK3.out.low hB3
      have d0 := hk2.cell 0
      have d1 := hk2.cell 1
      have g0 := hk2.frozen 0
      have g1 := hk2.frozen 1
      have e2 := hk3.cell 0
      have e3 := hk3.cell 1
      simp only [List.getElem?_toArray, List.getElem?_cons_zero, List.getElem?_cons_succ] at d0 d1 e2 e3
      have HB3 : Hid (Below w.heap.size w w3) := Lib.hid (HB2.out.trans (hB3.mono HB2.out.size))
      clear hB3 hk2 hk3 e0 e1
      rw [HTX.out]
      have hne := HNE.out
      have hne2 : (N != l) = true := by simp only [bne, hne]; rfl
      go_wp2
      refine bodyPost_ret (v := .tuple #[.agg #[.string ⟨#[]⟩, .string ⟨#[]⟩], .int .i64 10]) (by simp [results, Tryz.results45, go_sem, d0, d1]) rfl ?_
      rw [HV.out]
      exact ⟨rfl, (HB3.out.setCell (p := ⟨w.heap.size, 0, none⟩) (Nat.le_refl _) _).setCell (p := ⟨w.heap.size, 1, none⟩) (Nat.le_refl _) _⟩
    · have HV := Lib.hid (HBV.out)
      have hK1 : (K != 0) = true := by simpa using h0
      clear h0
      go_wp2
      refine bodyPost_ret (v := .tuple #[.agg #[.string ⟨#[]⟩, .string ⟨#[]⟩], .int .i64 10]) (by simp [results, Tryz.results45, go_sem, d0, d1]) rfl ?_
      rw [HV.out]
      exact ⟨rfl, (HB2.out.setCell (p := ⟨w.heap.size, 0, none⟩) (Nat.le_refl _) _).setCell (p := ⟨w.heap.size, 1, none⟩) (Nat.le_refl _) _⟩
  · obtain rfl : E = D := by have h := HE.out; simpa using h.symm
    have HTX : Hid (txt N E = ⟨l.toArray⟩) := Lib.hid (by
      rw [txt, if_neg (by rw [hd]; simp), H1.out rfl]
      apply ByteArray.ext
      simp [ByteArray.data_append])
    go_enter Tryz.func45, Tryz.ntmps45
    go_wp2_with fail
    rw [← HW.out]
    refine HC1.out.mono ?_
    rintro e w1 ⟨rfl, hB1⟩
    have HB1 : Hid (Below w.heap.size w w1) := Lib.hid (HBW.out.trans (hB1.mono HBW.out.size))
    have HBL1 := Lib.hid (HBL.out.low hB1)
    have hlt := HBL1.out.lt
    clear hB1
    go_wp2_with fail
    refine (HCK.out _).mono ?_
    rintro e w2 ⟨rfl, hB2⟩
    have hk2 := (HBL1.out.alloc (.cells #[.string ⟨N.toArray⟩, .string ⟨E.toArray⟩] 31)).low hB2
    have hk3 := (Blk.new w1 31 #[.string ⟨N.toArray⟩, .string ⟨E.toArray⟩]).low hB2
    have d0 := hk2.cell 0
    have d1 := hk2.cell 1
    have g0 := hk2.frozen 0
    have g1 := hk2.frozen 1
    have e0 := hk3.cell 0
    have e1 := hk3.cell 1
    simp only [List.getElem?_toArray, List.getElem?_cons_zero, List.getElem?_cons_succ] at d0 d1 e0 e1
    have HB2 : Hid (Below w.heap.size w w2) := Lib.hid ((HB1.out.alloc (by omega) _).trans (hB2.mono (by simp; omega)))
    have HK2 := Lib.hid hk2
    have HK3 := Lib.hid hk3
    clear hB2 hk2 hk3
    by_cases h0 : K = 0
    · subst h0
      have HV := Lib.hid (rdVal_ok (P := true) (D := E) rfl (by rw [hd]; rfl) HK.out)
      clear d0 d1 g0 g1
      go_wp2_with fail
      refine (HRT.out _).mono ?_
      rintro e w3 ⟨rfl, hB3⟩
      have hk2 := HK2.out.low hB3
      have hk3 := HK3.out.low hB3
      have d0 := hk2.cell 0
      have d1 := hk2.cell 1
      have g0 := hk2.frozen 0
      have g1 := hk2.frozen 1
      have e2 := hk3.cell 0
      have e3 := hk3.cell 1
      simp only [List.getElem?_toArray, List.getElem?_cons_zero, List.getElem?_cons_succ] at d0 d1 e2 e3
      have HB3 : Hid (Below w.heap.size w w3) := Lib.hid (HB2.out.trans (hB3.mono HB2.out.size))
      clear hB3 hk2 hk3 e0 e1
      rw [HTX.out]
      go_wp2
      refine bodyPost_ret (v := .tuple #[.agg #[.string ⟨N.toArray⟩, .string ⟨E.toArray⟩], .int .i64 0]) (by simp [results, Tryz.results45, go_sem, d0, d1]) rfl ?_
      rw [HV.out]
      exact ⟨rfl, (HB3.out.setCell (p := ⟨w.heap.size, 0, none⟩) (Nat.le_refl _) _).setCell (p := ⟨w.heap.size, 1, none⟩) (Nat.le_refl _) _⟩
    · have HV := Lib.hid (rdVal_bad2 (P := true) (D := E) rfl HK.out h0)
      have hK1 : (K != 0) = true := by simpa using h0
      clear h0
      go_wp2
      refine bodyPost_ret (v := .tuple #[.agg #[.string ⟨#[]⟩, .string ⟨#[]⟩], .int .i64 10]) (by simp [results, Tryz.results45, go_sem, d0, d1]) rfl ?_
      rw [HV.out]
      exact ⟨rfl, (HB2.out.setCell (p := ⟨w.heap.size, 0, none⟩) (Nat.le_refl _) _).setCell (p := ⟨w.heap.size, 1, none⟩) (Nat.le_refl _) _⟩
  · obtain rfl : E = [49] := by have h := HE.out; simpa using h.symm
    have HTX : Hid (txt N [49] = ⟨l.toArray⟩) := Lib.hid (by rw [txt, if_pos (by rfl), H2.out rfl])
    go_enter Tryz.func45, Tryz.ntmps45
    go_wp2_with fail
    rw [← HW.out]
    refine HC1.out.mono ?_
    rintro e w1 ⟨rfl, hB1⟩
    have HB1 : Hid (Below w.heap.size w w1) := Lib.hid (HBW.out.trans (hB1.mono HBW.out.size))
    have HBL1 := Lib.hid (HBL.out.low hB1)
    have hlt := HBL1.out.lt
    clear hB1
    go_wp2_with fail
    refine (HCK.out _).mono ?_
    rintro e w2 ⟨rfl, hB2⟩
    have hk2 := (HBL1.out.alloc (.cells #[.string ⟨N.toArray⟩, .string ⟨#[49]⟩] 31)).low hB2
    have hk3 := (Blk.new w1 31 #[.string ⟨N.toArray⟩, .string ⟨#[49]⟩]).low hB2
    have d0 := hk2.cell 0
    have d1 := hk2.cell 1
    have g0 := hk2.frozen 0
    have g1 := hk2.frozen 1
    have e0 := hk3.cell 0
    have e1 := hk3.cell 1
    simp only [List.getElem?_toArray, List.getElem?_cons_zero, List.getElem?_cons_succ] at d0 d1 e0 e1
    have HB2 : Hid (Below w.heap.size w w2) := Lib.hid ((HB1.out.alloc (by omega) _).trans (hB2.mono (by simp; omega)))
    have HK2 := Lib.hid hk2
    have HK3 := Lib.hid hk3
    clear hB2 hk2 hk3
    by_cases h0 : K = 0
    · subst h0
      have HV := Lib.hid (rdVal_ok (P := false) (D := D) rfl rfl HK.out)
      clear d0 d1 g0 g1
      go_wp2_with fail
      refine (HRT.out _).mono ?_
      rintro e w3 ⟨rfl, hB3⟩
      have hk2 := HK2.out.low hB3
      have hk3 := HK3.out.low hB3
      have d0 := hk2.cell 0
      have d1 := hk2.cell 1
      have g0 := hk2.frozen 0
      have g1 := hk2.frozen 1
      have e2 := hk3.cell 0
      have e3 := hk3.cell 1
      simp only [List.getElem?_toArray, List.getElem?_cons_zero, List.getElem?_cons_succ] at d0 d1 e2 e3
      have HB3 : Hid (Below w.heap.size w w3) := Lib.hid (HB2.out.trans (hB3.mono HB2.out.size))
      clear hB3 hk2 hk3 e0 e1
      rw [HTX.out]
      go_wp2
      refine bodyPost_ret (v := .tuple #[.agg #[.string ⟨N.toArray⟩, .string ⟨#[49]⟩], .int .i64 0]) (by simp [results, Tryz.results45, go_sem, d0, d1]) rfl ?_
      rw [HV.out]
      exact ⟨rfl, (HB3.out.setCell (p := ⟨w.heap.size, 0, none⟩) (Nat.le_refl _) _).setCell (p := ⟨w.heap.size, 1, none⟩) (Nat.le_refl _) _⟩
    · have HV := Lib.hid (rdVal_bad2 (P := false) (D := D) rfl HK.out h0)
      have hK1 : (K != 0) = true := by simpa using h0
      clear h0
      go_wp2
      refine bodyPost_ret (v := .tuple #[.agg #[.string ⟨#[]⟩, .string ⟨#[]⟩], .int .i64 10]) (by simp [results, Tryz.results45, go_sem, d0, d1]) rfl ?_
      rw [HV.out]
      exact ⟨rfl, (HB2.out.setCell (p := ⟨w.heap.size, 0, none⟩) (Nat.le_refl _) _).setCell (p := ⟨w.heap.size, 1, none⟩) (Nat.le_refl _) _⟩

theorem cut_split (l : List UInt8) : ((Lib.cut l [47]).2.2 = true → l = (Lib.cut l [47]).1 ++ 47 :: (Lib.cut l [47]).2.1) ∧ ((Lib.cut l [47]).2.2 = false → (Lib.cut l [47]).1 = l) ∧ (Lib.cut l [47]).1.length ≤ l.length ∧ (Lib.cut l [47]).2.1.length ≤ l.length := by
  unfold Lib.cut
  by_cases h : 0 ≤ Lib.index l [47]
  · rw [if_pos h]
    obtain ⟨i, hi⟩ : ∃ i : Nat, Lib.index l [47] = i := ⟨(Lib.index l [47]).toNat, by omega⟩
    rw [hi, Int.toNat_natCast]
    rw [Lib.index_one] at hi
    have h1 := (Lib.indexByte_some hi).1
    have hlt := (List.getElem?_eq_some_iff.1 h1).1
    have h2 := (List.getElem?_eq_some_iff.1 h1).2
    refine ⟨fun _ => ?_, fun e => (by cases e), by first | (simp; done) | (simp; omega), by first | (simp; done) | (simp; omega)⟩
    show l = l.take i ++ 47 :: l.drop (i + 1)
    conv => lhs; rw [← List.take_append_drop i l, List.drop_eq_getElem_cons hlt, h2]
  · rw [if_neg h]
    exact ⟨fun e => (by cases e), fun _ => rfl, Nat.le_refl _, by simp⟩

theorem numRead_any (l : List UInt8) (w : World) (hl : l.length ≤ 1000000) (hm : Mx w) : Calls Tryz.prog 44 #[.string ⟨l.toArray⟩] w (ReadPost l w) := by
  obtain ⟨-, -, h3, h4⟩ := cut_split l
  exact numRead_walk ⟨l.toArray⟩ _ _ _ w (by omega) (by omega) (Lib.hid fun W hW => cut_any l W hl (hm.low hW))
theorem ratRead_any (l : List UInt8) (w : World) (hl : l.length ≤ 1000000) (hm : Mx w) : Calls Tryz.prog 45 #[.string ⟨l.toArray⟩] w (ReadPost l w) := by
  obtain ⟨h1, h2, h3, h4⟩ := cut_split l
  exact ratRead_walk l _ _ _ w (by omega) (by omega) h1 h2 (Lib.hid fun W hW => cut_any l W hl (hm.low hW))
theorem rd_form (N D : List UInt8) (P : Bool) : ∃ (X Y : ByteArray) (Z : Int), rdVal N D P = .tuple #[.agg #[.string X, .string Y], .int .i64 Z] := by
  by_cases h : ((P && (D == [49])) || !(chkOf N (if P then D else [49]) == 0)) = true
  · exact ⟨_, _, _, by rw [rdVal, if_pos h]⟩
  · exact ⟨_, _, _, by rw [rdVal, if_neg h]⟩

theorem changed_any (S : ByteArray) (w : World) (g c : Nat) (A : Option Addr) (xs : List Int) (a : Int) (hs : Strm w g A c xs a) (ha : 0 ≤ a) (ha2 : a ≤ 1000000000) (h9 : S.size ≤ 1000000) :
    Calls Tryz.prog 43 #[.pointer (some ⟨g, 0, none⟩), .string S, .string ⟨#[48, 49, 50, 51, 52, 53, 54, 55, 56, 57, 45, 47, 43, 32, 46, 120]⟩] w (TextPost w g c A xs a 3 (S.size + 17)) := by
  by_cases h0 : S.size = 0
  · obtain rfl : S = ⟨#[]⟩ := by
      apply ByteArray.ext
      exact Array.eq_empty_of_size_eq_zero h0
    exact changed_none w g c A xs a hs
  · refine (changed_some S w g c A xs a hs ha ha2 (by omega) h9).mono ?_
    rintro e w' ⟨T, rfl, hT, hS⟩
    exact ⟨T, rfl, by omega, hS⟩

set_option maxHeartbeats 4000000 in
set_option maxRecDepth 100000 in
theorem reads_law (v : Value) (ws : List Int) (w : World) (hv : LI w v ws) (hm : Mx w) (htab : Tabs w) :
    Calls Tryz.prog 8 #[v] w fun e w' => e = .returned (.bool true) ∧ Below w.heap.size w w' := by
  obtain ⟨A, c, rfl⟩ := hv.form
  have HN := Lib.hid (fun W (h : Tabs W) => nums_any W h)
  have HB0 : Hid (Below w.heap.size w (w.alloc (.cells #[.slice A ws.length c, .int .i64 0] 45))) := Lib.hid ((Below.refl _ w).alloc (Nat.le_refl _) _)
  have HT := Lib.hid htab
  have HM := Lib.hid hm
  have HGT : Hid (w.heap.size ≠ 3) := Lib.hid (by have := htab.1; omega)
  have HL := Lib.hid (srat_any _ w.heap.size c A ws 0 (strm_new hv) (by omega) (by omega) (HT.out.low HB0.out) HGT.out)
  obtain ⟨n, hn⟩ : ∃ n, ws.length = n := ⟨_, rfl⟩
  rw [hn] at HL HB0 ⊢
  clear hv htab hn hm
  go_enter Tryz.func8, Tryz.ntmps8
  go_wp2_with fail
  refine HL.out.mono ?_
  rintro e w1 ⟨S, T, rfl, hS, hT, ⟨a1, ha0, ha1, hs1⟩, hg1⟩
  obtain ⟨nl, rfl, hnl⟩ := str_form S
  obtain ⟨dl, rfl, hdl⟩ := str_form T
  have hB1 : Below w.heap.size w w1 := HB0.out.grown hg1 (by simp) (fun k hk => by injection hk with hk; omega)
  have HB1 := Lib.hid hB1
  have HRT := Lib.hid (rtext_any nl dl w1 (by omega) (by omega))
  have htx : (txt nl dl).size ≤ 145 := by
    unfold txt
    split
    · rw [bytes_size, bytes_toList]; omega
    · rw [ByteArray.size_append, ByteArray.size_append, bytes_size, bytes_size ⟨dl.toArray⟩, bytes_toList, bytes_toList]; show nl.length + 1 + dl.length ≤ 145; omega
  obtain ⟨t0, ht0⟩ : ∃ t0, txt nl dl = t0 := ⟨_, rfl⟩
  rw [ht0] at htx HRT
  have HS1 := Lib.hid hs1
  clear hB1 hg1 hs1 hS hT hnl hdl ht0
  go_wp2_with fail
  refine HRT.out.mono ?_
  rintro e w2 ⟨rfl, hB2⟩
  have HB2 : Hid (Below w.heap.size w w2) := Lib.hid (HB1.out.trans (hB2.mono HB1.out.size))
  have HNX := Lib.hid (next_any w2 w.heap.size c A ws a1 3 (HS1.out.below hB2 HS1.out.lt) (by omega) (by omega) (by omega) (by omega))
  clear hB2
  go_wp2_with fail
  refine HNX.out.mono ?_
  rintro e w3 ⟨z, rfl, z1, z2, hs3, ha3⟩
  have HB3 : Hid (Below w.heap.size w w3) := Lib.hid (HB2.out.grown ha3.1 HB2.out.size (fun k hk => by injection hk with hk; omega))
  have HS3 := Lib.hid hs3
  clear hs3 ha3
  go_wp2
  go_loopw [4, 17] (fun a4 a17 wr => ∃ (k : Nat) (t : ByteArray) (a : Int), a4 = .string t ∧ a17 = .int .i64 k ∧ (k : Int) ≤ z ∧ t.size ≤ 145 + 17 * k ∧ Strm wr w.heap.size A c ws a ∧ 0 ≤ a ∧ a ≤ 20 + 3 * k ∧ Below w.heap.size w wr) (fun _ a17 _ => 64 - (intOf a17).toNat)
  case atStart => exact ⟨0, t0, _, rfl, rfl, by omega, by omega, HS3.out, by omega, by omega, HB3.out⟩
  case round =>
    obtain ⟨k, t, a, rfl, rfl, hk, ht, hs, hap, hak, hB⟩ := hrel
    have HB := Lib.hid hB
    by_cases hlt : (k : Int) < z
    · have HCH := Lib.hid (changed_any t wr w.heap.size c A ws a hs hap (by omega) (by omega))
      clear hs hB
      go_wp2_with fail
      refine HCH.out.mono ?_
      rintro e w4 ⟨t', rfl, ht', ⟨a', h1, h2, hs4⟩, hg4⟩
      have HB4 : Hid (Below w.heap.size w w4) := Lib.hid (HB.out.grown hg4 HB.out.size (fun k hk => by injection hk with hk; omega))
      have HS4 := Lib.hid hs4
      clear hs4 hg4
      go_wp2
      go_roundw
      case rel => exact ⟨k + 1, t', a', rfl, by go_num, by omega, by omega, HS4.out, by omega, by omega, HB4.out⟩
      case measure => simp [intOf]; omega
    · obtain ⟨l, rfl, hl⟩ := str_form t
      have hl9 : l.length ≤ 1000000 := by omega
      obtain ⟨X, Y, Z, hXYZ⟩ := rd_form (Lib.cut l [47]).1 (Lib.cut l [47]).2.1 (Lib.cut l [47]).2.2
      have HR1 : Hid (∀ W, Mx W → Calls Tryz.prog 44 #[.string ⟨l.toArray⟩] W fun e w' => e = .returned (.tuple #[.agg #[.string X, .string Y], .int .i64 Z]) ∧ Below W.heap.size W w') := Lib.hid fun W hW => by
        have h := numRead_any l W hl9 hW
        unfold ReadPost at h
        rwa [hXYZ] at h
      have HR2 : Hid (∀ W, Mx W → Calls Tryz.prog 45 #[.string ⟨l.toArray⟩] W fun e w' => e = .returned (.tuple #[.agg #[.string X, .string Y], .int .i64 Z]) ∧ Below W.heap.size W w') := Lib.hid fun W hW => by
        have h := ratRead_any l W hl9 hW
        unfold ReadPost at h
        rwa [hXYZ] at h
      clear hs hB hXYZ ht hl hl9
      go_wp2_with fail
      refine (HR1.out _ (HM.out.low HB.out)).mono ?_
      rintro e w4 ⟨rfl, hB4⟩
      have HB4 : Hid (Below w.heap.size w w4) := Lib.hid (HB.out.trans (hB4.mono HB.out.size))
      have HK4 := Lib.hid (Blk.new w4 31 #[.string X, .string Y])
      have HB5 : Hid (Below w.heap.size w (w4.alloc (.cells #[.string X, .string Y] 31))) := Lib.hid (HB4.out.alloc HB4.out.size _)
      clear hB4
      go_wp2_with fail
      refine (HR2.out _ (HM.out.low HB5.out)).mono ?_
      rintro e w6 ⟨rfl, hB6⟩
      have HB6 : Hid (Below w.heap.size w w6) := Lib.hid (HB5.out.trans (hB6.mono HB5.out.size))
      have HK6 := Lib.hid (HK4.out.low hB6)
      have HB7 : Hid (Below w.heap.size w (w6.alloc (.cells #[.string X, .string Y] 31))) := Lib.hid (HB6.out.alloc HB6.out.size _)
      have HK7 := Lib.hid (HK6.out.alloc (.cells #[.string X, .string Y] 31))
      have HK8 := Lib.hid (Blk.new w6 31 #[.string X, .string Y])
      clear hB6
      go_wp2_with fail
      refine (HN.out _ (HT.out.low HB7.out)).mono ?_
      rintro e w9 ⟨rfl, hB9⟩
      have hk7 := HK7.out.low hB9
      have hk8 := HK8.out.low hB9
      have c0 := hk7.cell 0
      have c1 := hk7.cell 1
      have d0 := hk8.cell 0
      have d1 := hk8.cell 1
      simp only [List.getElem?_toArray, List.getElem?_cons_zero, List.getElem?_cons_succ] at c0 c1 d0 d1
      have HB9 : Hid (Below w.heap.size w w9) := Lib.hid (HB7.out.trans (hB9.mono HB7.out.size))
      clear hB9 hk7 hk8
      go_wp2
      go_ret
      exact ⟨ret_bool (by simp), HB9.out⟩
end Go.Proofs.YtlildanamfjnmaaGreatDoor
