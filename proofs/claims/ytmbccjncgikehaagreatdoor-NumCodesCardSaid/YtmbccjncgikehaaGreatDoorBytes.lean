/-
  slices.Clone and slices.Equal of bytes.
-/
import Derived.Test.YtmbccjncgikehaaGreatDoorCode
import Derived.Outline
import Derived.Lib.SliceRun
import Derived.BigQuiet
import Derived.Deep.QuietTactic
namespace Go.Proofs.YtmbccjncgikehaaGreatDoor
open Go.RowKit

theorem info_u8 : (Tryz.prog.info? 5).map (fun i => (i.zero, i.size, i.bytes)) = some (some (.int .u8 0), 1, 1) := by kernel_rfl

set_option maxHeartbeats 1000000 in
set_option maxRecDepth 100000 in
theorem clone8_any (l : List Nat) (v : Value) (w : World) (hv : BI w v l) (hp : 0 < l.length) (hs : l.length ≤ 1000000000000) :
    Calls Tryz.prog 36 #[v] w fun e w' => ∃ v', e = .returned v' ∧ Below w.heap.size w w' ∧ w'.ownsRow w.heap.size 5 1 v' l.length (u8s l) := by
  obtain ⟨i0, hi, hz0, hz1, hz2⟩ := info_parts info_u8
  obtain ⟨A, c, rfl⟩ := hv.form
  obtain ⟨b, o, rfl, hc⟩ := hv.at_ hp
  have hnews : ∀ j u, (u8s l)[j]? = some u → (w.alloc (.cells #[] 5)).cell? ((⟨b, o, none⟩ : Addr).add j) = some u := by
    intro j u hu
    have hj : j < l.length := by
      have := (List.getElem?_eq_some_iff.1 hu).1
      rwa [u8s_length] at this
    rw [u8s_at hj] at hu
    injection hu with hu
    subst hu
    have := hc j hj
    rw [Addr.add_lit]
    exact (World.cell?_alloc_lt w _ _ (World.block_lt_of_cell? w _ this)).trans this
  have h1c : ∀ u ∈ u8s l, u.oneCell' = true := by
    intro u hu
    simp only [u8s, List.mem_map] at hu
    obtain ⟨d, _, rfl⟩ := hu
    rfl
  have heq := fun W => Lib.run_eql_slice_nil (P := Tryz.prog) W 45 5 (some ⟨b, o, none⟩) l.length c 0 0 Tryz.underlying45
  have hown := World.ownsRow_made (base := w.heap.size) (e := 5) (size := 1) w #[] 0 (Nat.le_refl _) (by unfold maxLen; omega) rfl
  have HN := Lib.hid hnews
  have HC1 := Lib.hid h1c
  clear hc hnews h1c hv
  go_enter Tryz.func36, Tryz.ntmps36
  go_wp2_with (at_builtin; refine wpList_append_own _ rfl _ _ 45 rfl w.heap.size 5 i0 (.int .u8 0) 1 1 Tryz.underlying45 hi hz0 hz1 hz2 rfl (by decide) _ _ _ rfl hown ⟨b, o, none⟩ l.length c (u8s l) rfl (by rw [u8s_length, Nat.mul_one]) HN.out HC1.out (by unfold maxLen; omega) (by omega) (by simp) ?_; intro v' w1 hown' hgrow _)
  go_ret
  refine ⟨_, rfl, ((Below.refl _ _).alloc (Nat.le_refl _) _).grown hgrow (by simp) (fun k hk => (hown.lt k hk).1), ?_⟩
  simpa using hown'

set_option maxHeartbeats 1000000 in
set_option maxRecDepth 100000 in
theorem equal8_any (l m : List Nat) (v u : Value) (w : World) (hv : BI w v l) (hu : BI w u m) (hl : l.length = m.length) (hs : l.length ≤ 1000000000000) :
    Calls Tryz.prog 38 #[v, u] w fun e w' => e = .returned (.bool (decide (l = m))) ∧ ∃ q, w' = w.drewN q := by
  obtain ⟨A, c, rfl⟩ := hv.form
  obtain ⟨A2, c2, rfl⟩ := hu.form
  rw [← hl] at hu ⊢
  have HV := Lib.hid hv
  have HU := Lib.hid hu
  obtain ⟨n, hn⟩ : ∃ n, l.length = n := ⟨_, rfl⟩
  rw [hn] at hl hs HV HU ⊢
  have HL := Lib.hid hn
  have HM := Lib.hid hl.symm
  have hn2 : (n : Int) ≤ 1000000000000 := by omega
  obtain ⟨E, hE⟩ : ∃ E, decide (l = m) = E := ⟨_, rfl⟩
  have HE := Lib.hid hE
  rw [hE]
  clear hv hu hn hl hE
  go_enter Tryz.func38, Tryz.ntmps38
  go_wp2
  go_loopw [13] (fun a13 wr => ∃ (j q : Nat), a13 = .int .i64 j ∧ wr = w.drewN q ∧ j ≤ n ∧ l.take j = m.take j) (fun a13 _ => n - (intOf a13).toNat)
  case atStart => exact ⟨0, 0, rfl, rfl, by omega, rfl⟩
  case round =>
    obtain ⟨j, q, rfl, rfl, hj, ht⟩ := hrel
    have HTK := Lib.hid ht
    clear ht
    by_cases hlt : j < n
    · have hlt2 : (j : Int) < (n : Int) := by omega
      obtain ⟨b, o, rfl, hc⟩ := HV.out.at_ (by rw [HL.out]; omega)
      obtain ⟨b2, o2, rfl, hc2⟩ := HU.out.at_ (by rw [HM.out]; omega)
      have hcj := hc j (by rw [HL.out]; exact hlt)
      have hcj2 := hc2 j (by rw [HM.out]; exact hlt)
      have hjl : j < l.length := by rw [HL.out]; exact hlt
      have hjm : j < m.length := by rw [HM.out]; exact hlt
      rw [List.getElem?_eq_getElem hjl] at hcj
      rw [List.getElem?_eq_getElem hjm] at hcj2
      simp only [Option.getD_some] at hcj hcj2
      have hE1 : l.take (j + 1) = m.take (j + 1) ↔ l[j] = m[j] := by
        rw [List.take_add_one, List.take_add_one, HTK.out, List.getElem?_eq_getElem hjl, List.getElem?_eq_getElem hjm]
        show List.take j m ++ [l[j]] = List.take j m ++ [m[j]] ↔ _
        rw [List.append_cancel_left_eq]
        exact ⟨fun h => by injection h, fun h => by rw [h]⟩
      obtain ⟨x, hx⟩ : ∃ x, l[j] = x := ⟨_, rfl⟩
      obtain ⟨y, hy⟩ : ∃ y, m[j] = y := ⟨_, rfl⟩
      rw [hx] at hcj hE1
      rw [hy] at hcj2 hE1
      have HE1 := Lib.hid hE1
      have HLM : Hid (l = m → x = y) := Lib.hid (fun e => by subst e; rw [← hx, ← hy])
      clear hE1 hx hy hjl hjm hc hc2
      by_cases hxy : x = y
      · subst hxy
        have hne : ((x : Int) != (x : Int)) = false := by simp
        go_wp2
        go_quiet (fail)
        go_wp2
        go_roundw
        case rel => exact ⟨j + 1, q + nq, by go_num, by first | rfl | exact World.drewN_drewN _ _ _, by omega, by first | exact HE1.out.2 rfl | exact HE1.out.2 trivial⟩
        case measure => simp [intOf]; omega
      · have hne : ((x : Int) != (y : Int)) = true := by simp; omega
        have hEF : E = false := by rw [← HE.out]; exact decide_eq_false (fun e => hxy (HLM.out e))
        subst hEF
        go_wp2
        go_quiet (fail)
        go_wp2
        go_ret
        exact ⟨rfl, q + nq, by first | rfl | exact World.drewN_drewN _ _ _⟩
    · obtain rfl : j = n := by omega
      have hE1 : l = m := by
        have h := HTK.out
        rwa [List.take_of_length_le (by rw [HL.out]; omega), List.take_of_length_le (by rw [HM.out]; omega)] at h
      go_wp2
      go_ret
      exact ⟨ret_bool (by rw [← HE.out]; simp [hE1]), q, rfl⟩
end Go.Proofs.YtmbccjncgikehaaGreatDoor
