/-
  slices.ContainsFunc over ints, num.Histogram.
-/
import Derived.Test.YtmbccjncgikehaaGreatDoorRound
import Derived.Test.YtmbccjncgikehaaGreatDoorInts
namespace Go.Proofs.YtmbccjncgikehaaGreatDoor
open Go.RowKit

/-- the function F answers as p -/
def Answers (F : Nat) (p : Int → Bool) : Prop := ∀ (x : Int) (W : World), Calls Tryz.prog F #[.int .i64 x] W fun e w' => e = .returned (.bool (p x)) ∧ w' = W

def IdxPost (p : Int → Bool) (ws : List Int) (w : World) (e : Ending) (w' : World) : Prop := ∃ z : Int, e = .returned (.int .i64 z) ∧ (0 ≤ z ↔ ws.any p = true) ∧ w' = w

set_option maxHeartbeats 1000000 in
set_option maxRecDepth 100000 in
theorem indexFunc_any (F : Nat) (p : Int → Bool) (eF : ∀ args w, (callFunc F args).run Tryz.prog w = .ok (.enter F args) w) (hF : Answers F p) (ws : List Int) (v : Value) (w : World) (hv : LI w v ws) :
    Calls Tryz.prog 93 #[v, .func (.func F) #[] #[]] w (IdxPost p ws w) := by
  obtain ⟨A, c, rfl⟩ := hv.form
  have hmx := hv.2.1
  unfold maxLen at hmx
  have HV := Lib.hid hv
  obtain ⟨n, hn⟩ : ∃ n, ws.length = n := ⟨_, rfl⟩
  rw [hn] at hmx HV ⊢
  have HL := Lib.hid hn
  have HF := Lib.hid hF
  have hn2 : (n : Int) ≤ 9223372036854775807 := by omega
  clear hv hn hF
  go_enter Tryz.func93, Tryz.ntmps93
  go_wp2
  go_loopw [8] (fun a8 wr => ∃ j : Nat, a8 = .int .i64 j ∧ wr = w ∧ j ≤ n ∧ (ws.take j).any p = false) (fun a8 _ => n - (intOf a8).toNat)
  case atStart => exact ⟨0, rfl, rfl, by omega, rfl⟩
  case round =>
    obtain ⟨j, rfl, rfl, hj, hp⟩ := hrel
    have HP := Lib.hid hp
    clear hp
    by_cases hlt : j < n
    · have hlt2 : (j : Int) < (n : Int) := by omega
      obtain ⟨b, o, rfl, hc⟩ := HV.out.at_ (by rw [HL.out]; omega)
      have hcj := hc j (by rw [HL.out]; exact hlt)
      obtain ⟨x, hx⟩ : ∃ x, ws[j]?.getD 0 = x := ⟨_, rfl⟩
      rw [hx] at hcj
      have HX := Lib.hid hx
      clear hx hc
      obtain ⟨bx, hbx⟩ : ∃ bx, p x = bx := ⟨_, rfl⟩
      have hf := HF.out x
      rw [hbx] at hf
      have HFX := Lib.hid hf
      have HBX := Lib.hid hbx
      clear hf hbx
      go_wp2_with fail
      refine (HFX.out _).mono ?_
      rintro e w1 ⟨rfl, rfl⟩
      cases bx with
      | true =>
        go_wp2
        go_ret
        refine ⟨j, rfl, ⟨fun _ => ?_, fun _ => by omega⟩, rfl⟩
        rw [List.any_eq_true]
        refine ⟨x, ?_, HBX.out⟩
        have hjl : j < ws.length := by rw [HL.out]; exact hlt
        have h := HX.out
        rw [List.getElem?_eq_getElem hjl] at h
        have h2 : ws[j] = x := h
        rw [← h2]
        exact List.getElem_mem hjl
      | false =>
        have HN : Hid ((ws.take (j + 1)).any p = false) := Lib.hid (by
          have hjl : j < ws.length := by rw [HL.out]; exact hlt
          have h := HX.out
          rw [List.getElem?_eq_getElem hjl] at h
          have h2 : ws[j] = x := h
          rw [List.take_add_one, List.any_append, HP.out, List.getElem?_eq_getElem hjl, h2]
          simp [HBX.out])
        go_wp2
        go_roundw
        case rel => exact ⟨j + 1, by go_num, by first | rfl | trivial, by omega, HN.out⟩
        case measure => simp [intOf]; omega
    · obtain rfl : j = n := by omega
      have hp := HP.out
      rw [List.take_of_length_le (by rw [HL.out]; omega)] at hp
      have HP2 := Lib.hid hp
      clear hp
      go_wp2
      go_ret
      refine ⟨-1, rfl, ?_, rfl⟩
      rw [HP2.out]
      simp
theorem containsFunc_any (F : Nat) (p : Int → Bool) (eF : ∀ args w, (callFunc F args).run Tryz.prog w = .ok (.enter F args) w) (hF : Answers F p) (ws : List Int) (v : Value) (w : World) (hv : LI w v ws) :
    Calls Tryz.prog 40 #[v, .func (.func F) #[] #[]] w fun e w' => e = .returned (.bool (ws.any p)) ∧ w' = w := by
  have HI := Lib.hid (indexFunc_any F p eF hF ws v w hv)
  obtain ⟨B, hB⟩ : ∃ B, ws.any p = B := ⟨_, rfl⟩
  have HB := Lib.hid hB
  rw [hB]
  clear eF hF hv hB
  go_enter Tryz.func40, Tryz.ntmps40
  go_wp2_with fail
  refine HI.out.mono ?_
  rintro e w1 ⟨z, rfl, hz, rfl⟩
  rw [HB.out] at hz
  have HZ := Lib.hid hz
  clear hz
  go_wp2
  go_ret
  refine ⟨ret_bool ?_, rfl⟩
  have h := HZ.out
  cases B <;> simp_all

/-- no word -/
def noW (x : Int) : Bool := !isW x
theorem histLaw_fn : Answers 41 noW := by
  intro x W
  rcases (show x < -2147483648 ∨ (-2147483648 ≤ x ∧ 2147483647 < x) ∨ (-2147483648 ≤ x ∧ x ≤ 2147483647) by omega) with h1 | ⟨h1, h2⟩ | ⟨h1, h2⟩
  all_goals
    go_enter Tryz.func41, Tryz.ntmps41
    go_wp2
    go_ret
    exact ⟨ret_bool (by first | (simp [noW, isW]; omega) | (simp [noW, isW, *]; done) | (simp [noW, isW]; intros; omega)), rfl⟩
theorem hist_fn : Answers 92 noW := by
  intro x W
  have HW := Lib.hid (isWord_any x)
  go_enter Tryz.func92, Tryz.ntmps92
  go_wp2_with fail
  refine (HW.out _).mono ?_
  rintro e w1 ⟨rfl, rfl⟩
  go_wp2
  go_ret
  exact ⟨rfl, rfl⟩
theorem enter_hl : ∀ args w, (callFunc 41 args).run Tryz.prog w = .ok (.enter 41 args) w := fun _ _ => by kernel_rfl
theorem enter_h : ∀ args w, (callFunc 92 args).run Tryz.prog w = .ok (.enter 92 args) w := fun _ _ => by kernel_rfl

/-- the bin of a number -/
def bin (lo hi : Int) (B : Nat) (x : Int) : Nat := ((x - lo) * B / (hi - lo + 1)).toNat
def hstep (lo hi : Int) (B : Nat) (out : List Int) (x : Int) : List Int := if lo ≤ x ∧ x ≤ hi then out.set (bin lo hi B x) (wrap64 (out[bin lo hi B x]?.getD 0 + 1)) else out
def hist (lo hi : Int) (B : Nat) : List Int → List Int → List Int
  | [], out => out
  | x :: l, out => hist lo hi B l (hstep lo hi B out x)
theorem hist_append (lo hi : Int) (B : Nat) : ∀ (l m out : List Int), hist lo hi B (l ++ m) out = hist lo hi B m (hist lo hi B l out)
  | [], _, _ => rfl
  | _ :: l, m, _ => hist_append lo hi B l m _
theorem hstep_length (lo hi : Int) (B : Nat) (out : List Int) (x : Int) : (hstep lo hi B out x).length = out.length := by
  unfold hstep; split <;> simp
theorem hist_length (lo hi : Int) (B : Nat) : ∀ (l out : List Int), (hist lo hi B l out).length = out.length
  | [], _ => rfl
  | x :: l, out => by rw [hist, hist_length lo hi B l, hstep_length]
theorem hist_take {lo hi : Int} {B : Nat} {l out : List Int} {j : Nat} (h : j < l.length) : hist lo hi B (l.take (j + 1)) out = hstep lo hi B (hist lo hi B (l.take j) out) (l[j]?.getD 0) := by
  rw [List.take_add_one, hist_append, List.getElem?_eq_getElem h]; rfl
theorem bin_in {lo hi x : Int} {B : Nat} (h1 : lo ≤ x) (h2 : x ≤ hi) (hB : 1 ≤ B) : 0 ≤ (x - lo) * B / (hi - lo + 1) ∧ (x - lo) * B / (hi - lo + 1) < B := by
  have h0 : (0:Int) < hi - lo + 1 := by omega
  have hm : 0 ≤ (x - lo) * B := Int.mul_nonneg (by omega) (by omega)
  refine ⟨Int.ediv_nonneg hm (by omega), (Int.ediv_lt_iff_lt_mul h0).2 ?_⟩
  rw [Int.mul_comm (B : Int)]
  exact Int.mul_lt_mul_of_pos_right (by omega) (by omega)
theorem bin_mul {lo hi x : Int} {B : Nat} (h1 : lo ≤ x) (h2 : x ≤ hi) (h3 : -2147483648 ≤ lo) (h4 : hi ≤ 2147483647) (hB : B ≤ 1024) : 0 ≤ (x - lo) * B ∧ (x - lo) * B ≤ 4398046511104 := by
  refine ⟨Int.mul_nonneg (by omega) (by omega), ?_⟩
  have h5 : (x - lo) * B ≤ 4294967296 * 1024 := Int.mul_le_mul (by omega) (by omega) (by omega) (by omega)
  omega

theorem isW_at {ws : List Int} (h : ws.any noW = false) {j : Nat} (hj : j < ws.length) : -2147483648 ≤ ws[j]?.getD 0 ∧ ws[j]?.getD 0 ≤ 2147483647 := by
  rw [List.getElem?_eq_getElem hj]
  have h1 := List.any_eq_false.1 h _ (List.getElem_mem hj)
  simp [noW, isW] at h1
  exact h1
theorem hinfo_int : (Tryz.prog.info? 3).map (fun i => (i.zero, i.size, i.bytes)) = some (some (.int .i64 0), 1, 8) := by kernel_rfl

theorem hist_bad (v : Value) (lo hi b : Int) (w : World) (h : ¬ (-2147483648 ≤ lo ∧ lo ≤ hi ∧ hi ≤ 2147483647 ∧ 1 ≤ b ∧ b ≤ 1024)) :
    Calls Tryz.prog 39 #[v, .int .i64 lo, .int .i64 hi, .int .i64 b] w fun e w' => e = .returned (.tuple #[.slice none 0 0, .int .i64 1]) ∧ w' = w := by
  rcases (show lo < -2147483648 ∨ (-2147483648 ≤ lo ∧ hi < lo) ∨ (-2147483648 ≤ lo ∧ lo ≤ hi ∧ 2147483647 < hi) ∨ (-2147483648 ≤ lo ∧ lo ≤ hi ∧ hi ≤ 2147483647 ∧ b < 1) ∨ (-2147483648 ≤ lo ∧ lo ≤ hi ∧ hi ≤ 2147483647 ∧ 1 ≤ b ∧ 1024 < b) by omega) with h1 | ⟨h1, h2⟩ | ⟨h1, h2, h3⟩ | ⟨h1, h2, h3, h4⟩ | ⟨h1, h2, h3, h4, h5⟩
  all_goals
    clear h
    go_enter Tryz.func39, Tryz.ntmps39
    go_wp2
    all_goals first
      | (exfalso; omega)
      | (refine bodyPost_ret (results_tmp2 Tryz.results39 _ _ _) rfl ?_
         exact ⟨rfl, rfl⟩)
theorem hist_words (v : Value) (ws : List Int) (lo hi b : Int) (w : World) (hv : LI w v ws) (h : -2147483648 ≤ lo ∧ lo ≤ hi ∧ hi ≤ 2147483647 ∧ 1 ≤ b ∧ b ≤ 1024) (hn : ws.any noW = true) :
    Calls Tryz.prog 39 #[v, .int .i64 lo, .int .i64 hi, .int .i64 b] w fun e w' => e = .returned (.tuple #[.slice none 0 0, .int .i64 9]) ∧ w' = w := by
  have hc := containsFunc_any _ noW enter_h hist_fn ws v w hv
  rw [hn] at hc
  have HC := Lib.hid hc
  obtain ⟨h1, h2, h3, h4, h5⟩ := h
  clear hc hv hn
  go_enter Tryz.func39, Tryz.ntmps39
  go_wp2_with fail
  all_goals first
    | (exfalso; omega)
    | skip
  refine HC.out.mono ?_
  rintro e w1 ⟨rfl, rfl⟩
  go_wp2
  refine bodyPost_ret (results_tmp2 Tryz.results39 _ _ _) rfl ?_
  exact ⟨rfl, rfl⟩

set_option maxHeartbeats 2000000 in
set_option maxRecDepth 100000 in
theorem hist_ok (v : Value) (ws : List Int) (lo hi : Int) (B : Nat) (w : World) (hv : LI w v ws) (h : -2147483648 ≤ lo ∧ lo ≤ hi ∧ hi ≤ 2147483647 ∧ 1 ≤ B ∧ B ≤ 1024) (hn : ws.any noW = false) :
    Calls Tryz.prog 39 #[v, .int .i64 lo, .int .i64 hi, .int .i64 (B : Int)] w fun e w' => e = .returned (.tuple #[.slice (some ⟨w.heap.size, 0, none⟩) B B, .int .i64 0]) ∧ OwnI w' w.heap.size (hist lo hi B ws (List.replicate B 0)) ∧ Below w.heap.size w w' := by
  have hc := containsFunc_any _ noW enter_h hist_fn ws v w hv
  rw [hn] at hc
  have HC := Lib.hid hc
  obtain ⟨h1, h2, h3, h4, h5⟩ := h
  have hmk := run_make_row' (P := Tryz.prog) 36 3 (.int .i64 0) 8 Tryz.underlying36 hinfo_int rfl .i64 .i64 B (by omega) (by omega)
  obtain ⟨A, c, rfl⟩ := hv.form
  have hmx := hv.2.1
  unfold maxLen at hmx
  have HV := Lib.hid hv
  obtain ⟨n, hnn⟩ : ∃ n, ws.length = n := ⟨_, rfl⟩
  rw [hnn] at hmx HV HC ⊢
  have HL := Lib.hid hnn
  have HNW := Lib.hid hn
  have hn2 : (n : Int) ≤ 9223372036854775807 := by omega
  have h4' : 1 ≤ (B : Int) := by omega
  have h5' : (B : Int) ≤ 1024 := by omega
  have HB0 := Lib.hid h4
  have HB1 := Lib.hid h5
  clear hc hv hnn hn h4 h5
  go_enter Tryz.func39, Tryz.ntmps39
  go_wp2_with fail
  all_goals first
    | (exfalso; omega)
    | skip
  refine HC.out.mono ?_
  rintro e w1 ⟨rfl, rfl⟩
  go_wp2
  clear hmk
  go_loopw [40] (fun a40 wr => ∃ j : Nat, a40 = .int .i64 j ∧ j ≤ n ∧ OwnI wr w1.heap.size (hist lo hi B (ws.take j) (List.replicate B 0)) ∧ Below w1.heap.size w1 wr) (fun a40 _ => n - (intOf a40).toNat)
  case atStart => exact ⟨0, rfl, by omega, OwnI.made w1 B, (Below.refl _ _).alloc (Nat.le_refl _) _⟩
  case round =>
    obtain ⟨j, rfl, hj, hown, hB⟩ := hrel
    have hBs := hB.size
    have HO := Lib.hid hown
    have HBW := Lib.hid hB
    clear hown
    by_cases hlt : j < n
    · have hlt2 : (j : Int) < (n : Int) := by omega
      obtain ⟨b, o, rfl, hc⟩ := HV.out.at_ (by rw [HL.out]; omega)
      have hcj := hc j (by rw [HL.out]; exact hlt)
      have hcj2 := (Below.cell hB (World.block_lt_of_cell? _ _ hcj)).trans hcj
      have hxw := isW_at HNW.out (by rw [HL.out]; exact hlt)
      obtain ⟨x, hx⟩ : ∃ x, ws[j]?.getD 0 = x := ⟨_, rfl⟩
      rw [hx] at hcj2 hxw
      have HX := Lib.hid hx
      obtain ⟨x1, x2⟩ := hxw
      clear hx hc hcj hB
      have HT := hist_take (lo := lo) (hi := hi) (B := B) (out := List.replicate B 0) (l := ws) (j := j) (by rw [HL.out]; exact hlt)
      rw [HX.out] at HT
      have HTT := Lib.hid HT
      clear HT
      by_cases hin : lo ≤ x ∧ x ≤ hi
      · obtain ⟨i1, i2⟩ := hin
        have hb := bin_in i1 i2 HB0.out
        have hm := bin_mul i1 i2 h1 h3 HB1.out
        obtain ⟨I, hI⟩ : ∃ I : Nat, (x - lo) * B / (hi - lo + 1) = (I : Int) := ⟨((x - lo) * B / (hi - lo + 1)).toNat, by omega⟩
        have hbin : bin lo hi B x = I := by rw [bin, hI, Int.toNat_natCast]
        rw [hI] at hb
        have hlen := hist_length lo hi B (ws.take j) (List.replicate B 0)
        rw [List.length_replicate] at hlen
        have g0 := HO.out.cell (j := I) (by rw [hlen]; omega)
        have gf := HO.out.frozen I
        have HREL : Hid (OwnI (wr.setCell ⟨w1.heap.size, I, none⟩ (.int .i64 (wrap64 ((hist lo hi B (ws.take j) (List.replicate B 0))[I]?.getD 0 + 1)))) w1.heap.size (hist lo hi B (ws.take (j + 1)) (List.replicate B 0))) := Lib.hid (by
          rw [HTT.out, hstep, if_pos ⟨i1, i2⟩, hbin]
          exact HO.out.set I _)
        obtain ⟨q, hq⟩ : ∃ q, (hist lo hi B (ws.take j) (List.replicate B 0))[I]?.getD 0 = q := ⟨_, rfl⟩
        rw [hq] at g0 HREL
        obtain ⟨Y, hY⟩ : ∃ Y, (x - lo) * (B : Int) = Y := ⟨_, rfl⟩
        rw [hY] at hm hI
        obtain ⟨hb1, hb2⟩ := hb
        obtain ⟨hm1, hm2⟩ := hm
        clear hq hlen hbin
        go_wp2
        go_roundw
        case rel => exact ⟨j + 1, by go_num, by omega, HREL.out, HBW.out.setCell (p := ⟨w1.heap.size, I, none⟩) (Nat.le_refl _) _⟩
        case measure => simp [intOf]; omega
      · have hE : hist lo hi B (ws.take (j + 1)) (List.replicate B 0) = hist lo hi B (ws.take j) (List.replicate B 0) := by rw [HTT.out, hstep, if_neg hin]
        have HE := Lib.hid hE
        clear hE
        rcases (show x < lo ∨ (lo ≤ x ∧ hi < x) by omega) with i1 | ⟨i1, i2⟩
        all_goals
          clear hin
          go_wp2
          go_roundw
          case rel => exact ⟨j + 1, by go_num, by omega, by rw [HE.out]; exact HO.out, HBW.out⟩
          case measure => simp [intOf]; omega
    · obtain rfl : j = n := by omega
      have hp := HO.out
      rw [List.take_of_length_le (by rw [HL.out]; omega)] at hp
      have HO2 := Lib.hid hp
      clear hp hB
      go_wp2
      refine bodyPost_ret (results_tmp2 Tryz.results39 _ _ _) rfl ?_
      exact ⟨rfl, HO2.out, HBW.out⟩
end Go.Proofs.YtmbccjncgikehaaGreatDoor
