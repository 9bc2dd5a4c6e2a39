/-
  models.Vocabulary, models.Length, weftref1.EntryLength for every model.
-/
import Derived.Test.YtneabpgphjcbkaaGreatDoorChm
namespace Go.Proofs.YtneabpgphjcbkaaGreatDoor
open Go.RowKit

/-- the number of elements of an entry -/
def lenM (m : LModel) : Int := if m.kind = 1 then 3 * m.width else m.width
set_option maxHeartbeats 4000000 in
set_option maxRecDepth 100000 in
theorem mlen_any (m : LModel) (v : Value) (w : World) (hv : VModel w.cell? v m) (hD : -100000 ≤ m.width ∧ m.width ≤ 100000) : Calls Tryz.prog 35 #[v] w fun e w' => e = .returned (.int .i64 (lenM m)) ∧ Below w.heap.size w w' := by
  obtain ⟨a1, a2, a3, a4, a5, a6, a7, rfl, h1, h2, h3, h4, h5, h6, h7⟩ := hv
  obtain ⟨A1, c1, rfl, -, -, q1⟩ := h1.shape
  obtain ⟨n1, e1⟩ : ∃ n, m.cuts.length = n := ⟨_, rfl⟩
  rw [e1] at q1 h1 ⊢
  obtain ⟨A2, c2, rfl, -, -, q2⟩ := h2.shape
  obtain ⟨n2, e2⟩ : ∃ n, m.embed.length = n := ⟨_, rfl⟩
  rw [e2] at q2 h2 ⊢
  obtain ⟨A3, c3, rfl, -, -, q3⟩ := h3.shape
  obtain ⟨n3, e3⟩ : ∃ n, m.place.length = n := ⟨_, rfl⟩
  rw [e3] at q3 h3 ⊢
  obtain ⟨A4, c4, rfl, -, -, q4⟩ := h4.shape
  obtain ⟨n4, e4⟩ : ∃ n, m.mix.length = n := ⟨_, rfl⟩
  rw [e4] at q4 h4 ⊢
  obtain ⟨A5, c5, rfl, -, -, q5⟩ := h5.shape
  obtain ⟨n5, e5⟩ : ∃ n, m.out.length = n := ⟨_, rfl⟩
  rw [e5] at q5 h5 ⊢
  obtain ⟨A6, c6, rfl, -, -, q6⟩ := h6.shape
  obtain ⟨n6, e6⟩ : ∃ n, m.soft.length = n := ⟨_, rfl⟩
  rw [e6] at q6 h6 ⊢
  obtain ⟨A7, c7, rfl, -, -, q7⟩ := h7.shape
  obtain ⟨n7, e7⟩ : ∃ n, m.odds.length = n := ⟨_, rfl⟩
  rw [e7] at q7 h7 ⊢
  obtain ⟨K, eK⟩ : ∃ x, m.kind = x := ⟨_, rfl⟩
  obtain ⟨V, eV⟩ : ∃ x, m.vocab = x := ⟨_, rfl⟩
  obtain ⟨D, eD⟩ : ∃ x, m.width = x := ⟨_, rfl⟩
  obtain ⟨T, eT⟩ : ∃ x, m.top = x := ⟨_, rfl⟩
  rw [eK, eV, eD, eT]
  have hl : lenM m = if K = 1 then 3 * D else D := by unfold lenM; rw [eK, eD]
  rw [eD] at hD
  rw [hl]
  have t3 : IntKind.i64.wrap (3 * D) = 3 * D := i64_wrap_id (by omega) (by omega)
  have t4 : wrap64 (3 * D) = 3 * D := wrap64_id (by omega) (by omega)
  obtain ⟨W, hW⟩ : ∃ W, W = w.alloc (.cells #[.int .i64 K, .int .i64 V, .int .i64 D, .int .i64 T, .slice A1 n1 c1, .slice A2 n2 c2, .slice A3 n3 c3, .slice A4 n4 c4, .slice A5 n5 c5, .slice A6 n6 c6, .slice A7 n7 c7] 27) := ⟨_, rfl⟩
  have hb : Bk W w.heap.size 27 #[.int .i64 K, .int .i64 V, .int .i64 D, .int .i64 T, .slice A1 n1 c1, .slice A2 n2 c2, .slice A3 n3 c3, .slice A4 n4 c4, .slice A5 n5 c5, .slice A6 n6 c6, .slice A7 n7 c7] := by rw [hW]; exact Bk.new _ _ _
  have HBW : Hid (Below w.heap.size w W) := Lib.hid (by rw [hW]; exact laid (Below.refl _ _) _)
  have HK : Hid (∀ w', Below W.heap.size W w' → (w'.cell? ⟨w.heap.size, 0, none⟩ = some (.int .i64 K) ∧ w'.cell? ⟨w.heap.size, 1, none⟩ = some (.int .i64 V) ∧ w'.cell? ⟨w.heap.size, 2, none⟩ = some (.int .i64 D) ∧ w'.cell? ⟨w.heap.size, 3, none⟩ = some (.int .i64 T) ∧ w'.cell? ⟨w.heap.size, 4, none⟩ = some (.slice A1 n1 c1) ∧ w'.cell? ⟨w.heap.size, 5, none⟩ = some (.slice A2 n2 c2) ∧ w'.cell? ⟨w.heap.size, 6, none⟩ = some (.slice A3 n3 c3) ∧ w'.cell? ⟨w.heap.size, 7, none⟩ = some (.slice A4 n4 c4) ∧ w'.cell? ⟨w.heap.size, 8, none⟩ = some (.slice A5 n5 c5) ∧ w'.cell? ⟨w.heap.size, 9, none⟩ = some (.slice A6 n6 c6) ∧ w'.cell? ⟨w.heap.size, 10, none⟩ = some (.slice A7 n7 c7))) := Lib.hid fun w' h => ⟨(hb.low h).cell 0, (hb.low h).cell 1, (hb.low h).cell 2, (hb.low h).cell 3, (hb.low h).cell 4, (hb.low h).cell 5, (hb.low h).cell 6, (hb.low h).cell 7, (hb.low h).cell 8, (hb.low h).cell 9, (hb.low h).cell 10⟩
  obtain ⟨p0, p1, p2, p3, p4, p5, p6, p7, p8, p9, p10⟩ := HK.out W (Below.refl _ _)
  have HW := Lib.hid hW
  clear hW hb h1 h2 h3 h4 h5 h6 h7 e1 e2 e3 e4 e5 e6 e7 eK eV eD eT hl hD HK
  by_cases hk : K = 1
  · subst hk
    go_enter Tryz.func35, Tryz.ntmps35
    go_wp2_with fail
    rw [← HW.out]
    go_wp2
    go_ret
    exact ⟨by simp, HBW.out⟩
  · have hk0 : (K == 1) = false := by simpa using hk
    rw [if_neg hk]
    clear hk
    go_enter Tryz.func35, Tryz.ntmps35
    go_wp2_with fail
    rw [← HW.out]
    go_wp2
    go_ret
    exact ⟨by simp, HBW.out⟩
set_option maxHeartbeats 4000000 in
set_option maxRecDepth 100000 in
theorem elen_any (m : LModel) (v : Value) (w : World) (hv : VModel w.cell? v m) (hD : -100000 ≤ m.width ∧ m.width ≤ 100000) : Calls Tryz.prog 11 #[v] w fun e w' => e = .returned (.int .i64 (lenM m)) ∧ Below w.heap.size w w' := by
  obtain ⟨a1, a2, a3, a4, a5, a6, a7, rfl, h1, h2, h3, h4, h5, h6, h7⟩ := hv
  obtain ⟨A1, c1, rfl, -, -, q1⟩ := h1.shape
  obtain ⟨n1, e1⟩ : ∃ n, m.cuts.length = n := ⟨_, rfl⟩
  rw [e1] at q1 h1 ⊢
  obtain ⟨A2, c2, rfl, -, -, q2⟩ := h2.shape
  obtain ⟨n2, e2⟩ : ∃ n, m.embed.length = n := ⟨_, rfl⟩
  rw [e2] at q2 h2 ⊢
  obtain ⟨A3, c3, rfl, -, -, q3⟩ := h3.shape
  obtain ⟨n3, e3⟩ : ∃ n, m.place.length = n := ⟨_, rfl⟩
  rw [e3] at q3 h3 ⊢
  obtain ⟨A4, c4, rfl, -, -, q4⟩ := h4.shape
  obtain ⟨n4, e4⟩ : ∃ n, m.mix.length = n := ⟨_, rfl⟩
  rw [e4] at q4 h4 ⊢
  obtain ⟨A5, c5, rfl, -, -, q5⟩ := h5.shape
  obtain ⟨n5, e5⟩ : ∃ n, m.out.length = n := ⟨_, rfl⟩
  rw [e5] at q5 h5 ⊢
  obtain ⟨A6, c6, rfl, -, -, q6⟩ := h6.shape
  obtain ⟨n6, e6⟩ : ∃ n, m.soft.length = n := ⟨_, rfl⟩
  rw [e6] at q6 h6 ⊢
  obtain ⟨A7, c7, rfl, -, -, q7⟩ := h7.shape
  obtain ⟨n7, e7⟩ : ∃ n, m.odds.length = n := ⟨_, rfl⟩
  rw [e7] at q7 h7 ⊢
  obtain ⟨K, eK⟩ : ∃ x, m.kind = x := ⟨_, rfl⟩
  obtain ⟨V, eV⟩ : ∃ x, m.vocab = x := ⟨_, rfl⟩
  obtain ⟨D, eD⟩ : ∃ x, m.width = x := ⟨_, rfl⟩
  obtain ⟨T, eT⟩ : ∃ x, m.top = x := ⟨_, rfl⟩
  rw [eK, eV, eD, eT]
  have hl : lenM m = if K = 1 then 3 * D else D := by unfold lenM; rw [eK, eD]
  rw [eD] at hD
  rw [hl]
  have t3 : IntKind.i64.wrap (3 * D) = 3 * D := i64_wrap_id (by omega) (by omega)
  have t4 : wrap64 (3 * D) = 3 * D := wrap64_id (by omega) (by omega)
  obtain ⟨W, hW⟩ : ∃ W, W = w.alloc (.cells #[.int .i64 K, .int .i64 V, .int .i64 D, .int .i64 T, .slice A1 n1 c1, .slice A2 n2 c2, .slice A3 n3 c3, .slice A4 n4 c4, .slice A5 n5 c5, .slice A6 n6 c6, .slice A7 n7 c7] 27) := ⟨_, rfl⟩
  have hb : Bk W w.heap.size 27 #[.int .i64 K, .int .i64 V, .int .i64 D, .int .i64 T, .slice A1 n1 c1, .slice A2 n2 c2, .slice A3 n3 c3, .slice A4 n4 c4, .slice A5 n5 c5, .slice A6 n6 c6, .slice A7 n7 c7] := by rw [hW]; exact Bk.new _ _ _
  have HBW : Hid (Below w.heap.size w W) := Lib.hid (by rw [hW]; exact laid (Below.refl _ _) _)
  have HK : Hid (∀ w', Below W.heap.size W w' → (w'.cell? ⟨w.heap.size, 0, none⟩ = some (.int .i64 K) ∧ w'.cell? ⟨w.heap.size, 1, none⟩ = some (.int .i64 V) ∧ w'.cell? ⟨w.heap.size, 2, none⟩ = some (.int .i64 D) ∧ w'.cell? ⟨w.heap.size, 3, none⟩ = some (.int .i64 T) ∧ w'.cell? ⟨w.heap.size, 4, none⟩ = some (.slice A1 n1 c1) ∧ w'.cell? ⟨w.heap.size, 5, none⟩ = some (.slice A2 n2 c2) ∧ w'.cell? ⟨w.heap.size, 6, none⟩ = some (.slice A3 n3 c3) ∧ w'.cell? ⟨w.heap.size, 7, none⟩ = some (.slice A4 n4 c4) ∧ w'.cell? ⟨w.heap.size, 8, none⟩ = some (.slice A5 n5 c5) ∧ w'.cell? ⟨w.heap.size, 9, none⟩ = some (.slice A6 n6 c6) ∧ w'.cell? ⟨w.heap.size, 10, none⟩ = some (.slice A7 n7 c7))) := Lib.hid fun w' h => ⟨(hb.low h).cell 0, (hb.low h).cell 1, (hb.low h).cell 2, (hb.low h).cell 3, (hb.low h).cell 4, (hb.low h).cell 5, (hb.low h).cell 6, (hb.low h).cell 7, (hb.low h).cell 8, (hb.low h).cell 9, (hb.low h).cell 10⟩
  obtain ⟨p0, p1, p2, p3, p4, p5, p6, p7, p8, p9, p10⟩ := HK.out W (Below.refl _ _)
  have HW := Lib.hid hW
  clear hW hb h1 h2 h3 h4 h5 h6 h7 e1 e2 e3 e4 e5 e6 e7 eK eV eD eT hl hD HK
  by_cases hk : K = 1
  · subst hk
    go_enter Tryz.func11, Tryz.ntmps11
    go_wp2_with fail
    rw [← HW.out]
    go_wp2
    go_ret
    exact ⟨by simp, HBW.out⟩
  · have hk0 : (K == 1) = false := by simpa using hk
    rw [if_neg hk]
    clear hk
    go_enter Tryz.func11, Tryz.ntmps11
    go_wp2_with fail
    rw [← HW.out]
    go_wp2
    go_ret
    exact ⟨by simp, HBW.out⟩
set_option maxHeartbeats 4000000 in
set_option maxRecDepth 100000 in
theorem vocab_any (m : LModel) (v : Value) (w : World) (hv : VModel w.cell? v m) (hsum : sumLen [m.embed, m.place, m.mix, m.out] ≤ 1000000) : Calls Tryz.prog 9 #[v] w fun e w' => e = .returned (.tuple #[.int .i64 (if chkM m = 0 then m.vocab else 0), .int .i64 (chkM m)]) ∧ Below w.heap.size w w' := by
  have HV : Hid (∀ w', Below w.heap.size w w' → VModel w'.cell? v m) := Lib.hid fun w' hb => hv.keep (Keeps.of_below hb)
  obtain ⟨a1, a2, a3, a4, a5, a6, a7, rfl, h1, h2, h3, h4, h5, h6, h7⟩ := hv
  obtain ⟨A1, c1, rfl, -, -, q1⟩ := h1.shape
  obtain ⟨n1, e1⟩ : ∃ n, m.cuts.length = n := ⟨_, rfl⟩
  rw [e1] at q1 h1 ⊢
  obtain ⟨A2, c2, rfl, -, -, q2⟩ := h2.shape
  obtain ⟨n2, e2⟩ : ∃ n, m.embed.length = n := ⟨_, rfl⟩
  rw [e2] at q2 h2 ⊢
  obtain ⟨A3, c3, rfl, -, -, q3⟩ := h3.shape
  obtain ⟨n3, e3⟩ : ∃ n, m.place.length = n := ⟨_, rfl⟩
  rw [e3] at q3 h3 ⊢
  obtain ⟨A4, c4, rfl, -, -, q4⟩ := h4.shape
  obtain ⟨n4, e4⟩ : ∃ n, m.mix.length = n := ⟨_, rfl⟩
  rw [e4] at q4 h4 ⊢
  obtain ⟨A5, c5, rfl, -, -, q5⟩ := h5.shape
  obtain ⟨n5, e5⟩ : ∃ n, m.out.length = n := ⟨_, rfl⟩
  rw [e5] at q5 h5 ⊢
  obtain ⟨A6, c6, rfl, -, -, q6⟩ := h6.shape
  obtain ⟨n6, e6⟩ : ∃ n, m.soft.length = n := ⟨_, rfl⟩
  rw [e6] at q6 h6 ⊢
  obtain ⟨A7, c7, rfl, -, -, q7⟩ := h7.shape
  obtain ⟨n7, e7⟩ : ∃ n, m.odds.length = n := ⟨_, rfl⟩
  rw [e7] at q7 h7 ⊢
  obtain ⟨K, eK⟩ : ∃ x, m.kind = x := ⟨_, rfl⟩
  obtain ⟨V, eV⟩ : ∃ x, m.vocab = x := ⟨_, rfl⟩
  obtain ⟨D, eD⟩ : ∃ x, m.width = x := ⟨_, rfl⟩
  obtain ⟨T, eT⟩ : ∃ x, m.top = x := ⟨_, rfl⟩
  rw [eK, eV, eD, eT]
  rw [e1, e2, e3, e4, e5, e6, e7, eK, eV, eD, eT] at HV
  obtain ⟨z, hz⟩ : ∃ z, chkM m = z := ⟨_, rfl⟩
  have HCK : Hid (∀ W, Below w.heap.size w W → Calls Tryz.prog 13 #[.agg #[.int .i64 K, .int .i64 V, .int .i64 D, .int .i64 T, .slice A1 n1 c1, .slice A2 n2 c2, .slice A3 n3 c3, .slice A4 n4 c4, .slice A5 n5 c5, .slice A6 n6 c6, .slice A7 n7 c7]] W fun e w' => e = .returned (.int .i64 z) ∧ Below W.heap.size W w') := Lib.hid fun W hb => by
    have h := mcheck_any m _ W (HV.out W hb) hsum
    rwa [hz] at h
  rw [hz]
  obtain ⟨W, hW⟩ : ∃ W, W = w.alloc (.cells #[.int .i64 K, .int .i64 V, .int .i64 D, .int .i64 T, .slice A1 n1 c1, .slice A2 n2 c2, .slice A3 n3 c3, .slice A4 n4 c4, .slice A5 n5 c5, .slice A6 n6 c6, .slice A7 n7 c7] 27) := ⟨_, rfl⟩
  have hb : Bk W w.heap.size 27 #[.int .i64 K, .int .i64 V, .int .i64 D, .int .i64 T, .slice A1 n1 c1, .slice A2 n2 c2, .slice A3 n3 c3, .slice A4 n4 c4, .slice A5 n5 c5, .slice A6 n6 c6, .slice A7 n7 c7] := by rw [hW]; exact Bk.new _ _ _
  have HBW : Hid (Below w.heap.size w W) := Lib.hid (by rw [hW]; exact laid (Below.refl _ _) _)
  have HK : Hid (∀ w', Below W.heap.size W w' → (w'.cell? ⟨w.heap.size, 0, none⟩ = some (.int .i64 K) ∧ w'.cell? ⟨w.heap.size, 1, none⟩ = some (.int .i64 V) ∧ w'.cell? ⟨w.heap.size, 2, none⟩ = some (.int .i64 D) ∧ w'.cell? ⟨w.heap.size, 3, none⟩ = some (.int .i64 T) ∧ w'.cell? ⟨w.heap.size, 4, none⟩ = some (.slice A1 n1 c1) ∧ w'.cell? ⟨w.heap.size, 5, none⟩ = some (.slice A2 n2 c2) ∧ w'.cell? ⟨w.heap.size, 6, none⟩ = some (.slice A3 n3 c3) ∧ w'.cell? ⟨w.heap.size, 7, none⟩ = some (.slice A4 n4 c4) ∧ w'.cell? ⟨w.heap.size, 8, none⟩ = some (.slice A5 n5 c5) ∧ w'.cell? ⟨w.heap.size, 9, none⟩ = some (.slice A6 n6 c6) ∧ w'.cell? ⟨w.heap.size, 10, none⟩ = some (.slice A7 n7 c7))) := Lib.hid fun w' h => ⟨(hb.low h).cell 0, (hb.low h).cell 1, (hb.low h).cell 2, (hb.low h).cell 3, (hb.low h).cell 4, (hb.low h).cell 5, (hb.low h).cell 6, (hb.low h).cell 7, (hb.low h).cell 8, (hb.low h).cell 9, (hb.low h).cell 10⟩
  obtain ⟨p0, p1, p2, p3, p4, p5, p6, p7, p8, p9, p10⟩ := HK.out W (Below.refl _ _)
  have HW := Lib.hid hW
  clear hW hb h1 h2 h3 h4 h5 h6 h7 e1 e2 e3 e4 e5 e6 e7 eK eD eT hz HV hsum
  by_cases h0 : z = 0
  · subst h0
    go_enter Tryz.func9, Tryz.ntmps9
    go_wp2_with fail
    rw [← HW.out]
    refine (HCK.out _ HBW.out).mono ?_
    rintro e w1 ⟨rfl, hB⟩
    have HB := Lib.hid hB
    clear p0 p1 p2 p3 p4 p5 p6 p7 p8 p9 p10 hB
    obtain ⟨p0, p1, p2, p3, p4, p5, p6, p7, p8, p9, p10⟩ := HK.out w1 HB.out
    go_wp2
    refine bodyPost_ret (v := .tuple #[.int .i64 V, .int .i64 0]) (by simp [results, Tryz.results9, go_sem]) rfl ?_
    exact ⟨rfl, behind HBW.out HB.out⟩
  · have hz0 : (z != 0) = true := by simpa using h0
    rw [if_neg h0]
    clear h0
    go_enter Tryz.func9, Tryz.ntmps9
    go_wp2_with fail
    rw [← HW.out]
    refine (HCK.out _ HBW.out).mono ?_
    rintro e w1 ⟨rfl, hB⟩
    have HB := Lib.hid hB
    clear p0 p1 p2 p3 p4 p5 p6 p7 p8 p9 p10 hB
    go_wp2
    refine bodyPost_ret (v := .tuple #[.int .i64 0, .int .i64 z]) (by simp [results, Tryz.results9, go_sem]) rfl ?_
    exact ⟨rfl, behind HBW.out HB.out⟩
set_option maxHeartbeats 4000000 in
set_option maxRecDepth 100000 in
theorem mlength_any (m : LModel) (v : Value) (w : World) (hv : VModel w.cell? v m) (hsum : sumLen [m.embed, m.place, m.mix, m.out] ≤ 1000000) (hD : -100000 ≤ m.width ∧ m.width ≤ 100000) : Calls Tryz.prog 10 #[v] w fun e w' => e = .returned (.tuple #[.int .i64 (if chkM m = 0 then lenM m else 0), .int .i64 (chkM m)]) ∧ Below w.heap.size w w' := by
  have HV : Hid (∀ w', Below w.heap.size w w' → VModel w'.cell? v m) := Lib.hid fun w' hb => hv.keep (Keeps.of_below hb)
  obtain ⟨a1, a2, a3, a4, a5, a6, a7, rfl, h1, h2, h3, h4, h5, h6, h7⟩ := hv
  obtain ⟨A1, c1, rfl, -, -, q1⟩ := h1.shape
  obtain ⟨n1, e1⟩ : ∃ n, m.cuts.length = n := ⟨_, rfl⟩
  rw [e1] at q1 h1 ⊢
  obtain ⟨A2, c2, rfl, -, -, q2⟩ := h2.shape
  obtain ⟨n2, e2⟩ : ∃ n, m.embed.length = n := ⟨_, rfl⟩
  rw [e2] at q2 h2 ⊢
  obtain ⟨A3, c3, rfl, -, -, q3⟩ := h3.shape
  obtain ⟨n3, e3⟩ : ∃ n, m.place.length = n := ⟨_, rfl⟩
  rw [e3] at q3 h3 ⊢
  obtain ⟨A4, c4, rfl, -, -, q4⟩ := h4.shape
  obtain ⟨n4, e4⟩ : ∃ n, m.mix.length = n := ⟨_, rfl⟩
  rw [e4] at q4 h4 ⊢
  obtain ⟨A5, c5, rfl, -, -, q5⟩ := h5.shape
  obtain ⟨n5, e5⟩ : ∃ n, m.out.length = n := ⟨_, rfl⟩
  rw [e5] at q5 h5 ⊢
  obtain ⟨A6, c6, rfl, -, -, q6⟩ := h6.shape
  obtain ⟨n6, e6⟩ : ∃ n, m.soft.length = n := ⟨_, rfl⟩
  rw [e6] at q6 h6 ⊢
  obtain ⟨A7, c7, rfl, -, -, q7⟩ := h7.shape
  obtain ⟨n7, e7⟩ : ∃ n, m.odds.length = n := ⟨_, rfl⟩
  rw [e7] at q7 h7 ⊢
  obtain ⟨K, eK⟩ : ∃ x, m.kind = x := ⟨_, rfl⟩
  obtain ⟨V, eV⟩ : ∃ x, m.vocab = x := ⟨_, rfl⟩
  obtain ⟨D, eD⟩ : ∃ x, m.width = x := ⟨_, rfl⟩
  obtain ⟨T, eT⟩ : ∃ x, m.top = x := ⟨_, rfl⟩
  rw [eK, eV, eD, eT]
  rw [e1, e2, e3, e4, e5, e6, e7, eK, eV, eD, eT] at HV
  obtain ⟨z, hz⟩ : ∃ z, chkM m = z := ⟨_, rfl⟩
  have HCK : Hid (∀ W, Below w.heap.size w W → Calls Tryz.prog 13 #[.agg #[.int .i64 K, .int .i64 V, .int .i64 D, .int .i64 T, .slice A1 n1 c1, .slice A2 n2 c2, .slice A3 n3 c3, .slice A4 n4 c4, .slice A5 n5 c5, .slice A6 n6 c6, .slice A7 n7 c7]] W fun e w' => e = .returned (.int .i64 z) ∧ Below W.heap.size W w') := Lib.hid fun W hb => by
    have h := mcheck_any m _ W (HV.out W hb) hsum
    rwa [hz] at h
  have HLN : Hid (∀ W, Below w.heap.size w W → Calls Tryz.prog 35 #[.agg #[.int .i64 K, .int .i64 V, .int .i64 D, .int .i64 T, .slice A1 n1 c1, .slice A2 n2 c2, .slice A3 n3 c3, .slice A4 n4 c4, .slice A5 n5 c5, .slice A6 n6 c6, .slice A7 n7 c7]] W fun e w' => e = .returned (.int .i64 (lenM m)) ∧ Below W.heap.size W w') := Lib.hid fun W hb => mlen_any m _ W (HV.out W hb) hD
  rw [hz]
  obtain ⟨W, hW⟩ : ∃ W, W = w.alloc (.cells #[.int .i64 K, .int .i64 V, .int .i64 D, .int .i64 T, .slice A1 n1 c1, .slice A2 n2 c2, .slice A3 n3 c3, .slice A4 n4 c4, .slice A5 n5 c5, .slice A6 n6 c6, .slice A7 n7 c7] 27) := ⟨_, rfl⟩
  have hb : Bk W w.heap.size 27 #[.int .i64 K, .int .i64 V, .int .i64 D, .int .i64 T, .slice A1 n1 c1, .slice A2 n2 c2, .slice A3 n3 c3, .slice A4 n4 c4, .slice A5 n5 c5, .slice A6 n6 c6, .slice A7 n7 c7] := by rw [hW]; exact Bk.new _ _ _
  have HBW : Hid (Below w.heap.size w W) := Lib.hid (by rw [hW]; exact laid (Below.refl _ _) _)
  have HK : Hid (∀ w', Below W.heap.size W w' → (w'.cell? ⟨w.heap.size, 0, none⟩ = some (.int .i64 K) ∧ w'.cell? ⟨w.heap.size, 1, none⟩ = some (.int .i64 V) ∧ w'.cell? ⟨w.heap.size, 2, none⟩ = some (.int .i64 D) ∧ w'.cell? ⟨w.heap.size, 3, none⟩ = some (.int .i64 T) ∧ w'.cell? ⟨w.heap.size, 4, none⟩ = some (.slice A1 n1 c1) ∧ w'.cell? ⟨w.heap.size, 5, none⟩ = some (.slice A2 n2 c2) ∧ w'.cell? ⟨w.heap.size, 6, none⟩ = some (.slice A3 n3 c3) ∧ w'.cell? ⟨w.heap.size, 7, none⟩ = some (.slice A4 n4 c4) ∧ w'.cell? ⟨w.heap.size, 8, none⟩ = some (.slice A5 n5 c5) ∧ w'.cell? ⟨w.heap.size, 9, none⟩ = some (.slice A6 n6 c6) ∧ w'.cell? ⟨w.heap.size, 10, none⟩ = some (.slice A7 n7 c7))) := Lib.hid fun w' h => ⟨(hb.low h).cell 0, (hb.low h).cell 1, (hb.low h).cell 2, (hb.low h).cell 3, (hb.low h).cell 4, (hb.low h).cell 5, (hb.low h).cell 6, (hb.low h).cell 7, (hb.low h).cell 8, (hb.low h).cell 9, (hb.low h).cell 10⟩
  obtain ⟨p0, p1, p2, p3, p4, p5, p6, p7, p8, p9, p10⟩ := HK.out W (Below.refl _ _)
  have HW := Lib.hid hW
  clear hW hb h1 h2 h3 h4 h5 h6 h7 e1 e2 e3 e4 e5 e6 e7 eK eD eT hz HV hsum
  by_cases h0 : z = 0
  · subst h0
    go_enter Tryz.func10, Tryz.ntmps10
    go_wp2_with fail
    rw [← HW.out]
    refine (HCK.out _ HBW.out).mono ?_
    rintro e w1 ⟨rfl, hB⟩
    have HB := Lib.hid hB
    clear p0 p1 p2 p3 p4 p5 p6 p7 p8 p9 p10 hB
    obtain ⟨p0, p1, p2, p3, p4, p5, p6, p7, p8, p9, p10⟩ := HK.out w1 HB.out
    go_wp2_with (go_at_call 35; refine (HLN.out _ (behind HBW.out HB.out)).mono ?_; rintro e w2 ⟨rfl, hB2⟩; have HB2 := Lib.hid (behind HB.out hB2); clear hB2)
    refine bodyPost_ret (v := .tuple #[.int .i64 (lenM m), .int .i64 0]) (by simp [results, Tryz.results10, go_sem]) rfl ?_
    exact ⟨rfl, behind HBW.out HB2.out⟩
  · have hz0 : (z != 0) = true := by simpa using h0
    rw [if_neg h0]
    clear h0
    go_enter Tryz.func10, Tryz.ntmps10
    go_wp2_with fail
    rw [← HW.out]
    refine (HCK.out _ HBW.out).mono ?_
    rintro e w1 ⟨rfl, hB⟩
    have HB := Lib.hid hB
    clear p0 p1 p2 p3 p4 p5 p6 p7 p8 p9 p10 hB
    go_wp2
    refine bodyPost_ret (v := .tuple #[.int .i64 0, .int .i64 z]) (by simp [results, Tryz.results10, go_sem]) rfl ?_
    exact ⟨rfl, behind HBW.out HB.out⟩
end Go.Proofs.YtneabpgphjcbkaaGreatDoor
