/-
  num.Pick.
-/
import Derived.Test.YtmbccjncgikehaaGreatDoorDraw
import Derived.Test.YtmbccjncgikehaaGreatDoorInts
namespace Go.Proofs.YtmbccjncgikehaaGreatDoor
open Go.RowKit

theorem wrap_u64_nn (x : Int) : 0 ≤ IntKind.u64.wrap x ∧ IntKind.u64.wrap x ≤ 18446744073709551615 := by
  simp [IntKind.wrap, IntKind.signed, IntKind.bits]; omega
theorem mix4_nn (x : Int) : 0 ≤ mix4 x := by
  unfold mix4 bits
  obtain ⟨y, hy⟩ : ∃ y, y = IntKind.u64.wrap (match BinOp.xor with
    | .and => BitVec.ofInt IntKind.u64.bits x &&& BitVec.ofInt IntKind.u64.bits (x / 2147483648)
    | .or => BitVec.ofInt IntKind.u64.bits x ||| BitVec.ofInt IntKind.u64.bits (x / 2147483648)
    | .xor => BitVec.ofInt IntKind.u64.bits x ^^^ BitVec.ofInt IntKind.u64.bits (x / 2147483648)
    | _ => BitVec.ofInt IntKind.u64.bits x &&& ~~~BitVec.ofInt IntKind.u64.bits (x / 2147483648)).toNat := ⟨_, rfl⟩
  have h := wrap_u64_nn (match BinOp.xor with
    | .and => BitVec.ofInt IntKind.u64.bits x &&& BitVec.ofInt IntKind.u64.bits (x / 2147483648)
    | .or => BitVec.ofInt IntKind.u64.bits x ||| BitVec.ofInt IntKind.u64.bits (x / 2147483648)
    | .xor => BitVec.ofInt IntKind.u64.bits x ^^^ BitVec.ofInt IntKind.u64.bits (x / 2147483648)
    | _ => BitVec.ofInt IntKind.u64.bits x &&& ~~~BitVec.ofInt IntKind.u64.bits (x / 2147483648)).toNat
  rw [← hy] at h
  show 0 ≤ wrap64 (_ / 4294967296)
  rw [← hy]
  unfold wrap64
  omega
theorem drawn_nn (s k : Int) : 0 ≤ drawn s k := mix4_nn _
theorem below_nn (s k L : Int) : ∀ (r : Nat) (u : Int), 0 ≤ (below s k L r u).1
  | 0, u => drawn_nn _ _
  | r + 1, u => by
    unfold below
    split
    · exact drawn_nn _ _
    · exact below_nn s k L r (u + 1)
/-- a number that is drawn below n -/
def dv (s k n : Int) : Int := (below s k (lim n) 63 0).1.tmod n
def du (s k n : Int) : Int := (below s k (lim n) 63 0).2
theorem dv_in (s k n : Int) (h : 1 ≤ n) : 0 ≤ dv s k n ∧ dv s k n < n := by
  have h0 := below_nn s k (lim n) 63 0
  unfold dv
  rw [Int.tmod_eq_emod_of_nonneg h0]
  exact ⟨Int.emod_nonneg _ (by omega), Int.emod_lt_of_pos _ (by omega)⟩

def good (x : Int) : Bool := decide (0 ≤ x) && decide (x ≤ 1000000)
def sumI : List Int → Int
  | [] => 0
  | x :: l => x + sumI l
theorem sumI_append (l m : List Int) : sumI (l ++ m) = sumI l + sumI m := by
  induction l with
  | nil => simp [sumI]
  | cons x l ih => simp [sumI, ih]; omega
theorem sumI_take {l : List Int} {k : Nat} (h : k < l.length) : sumI (l.take (k + 1)) = sumI (l.take k) + l[k]?.getD 0 := by
  rw [List.take_add_one, sumI_append, List.getElem?_eq_getElem h]
  simp [sumI]
theorem sumI_good {l : List Int} (h : ∀ x ∈ l, good x = true) : 0 ≤ sumI l ∧ sumI l ≤ 1000000 * l.length := by
  induction l with
  | nil => simp [sumI]
  | cons x l ih =>
    have h1 := h x (by simp)
    have h2 := ih fun y hy => h y (by simp [hy])
    simp [good] at h1
    simp [sumI]
    omega
/-- the index of a weight -/
def pk : List Int → Int → Nat → Nat
  | [], _, i => i
  | x :: l, v, i => if x ≤ v then pk l (v - x) (i + 1) else i
theorem pk_yes {l : List Int} {i : Nat} {v : Int} (h : i < l.length) (hx : l[i]?.getD 0 ≤ v) : pk (l.drop i) v i = pk (l.drop (i + 1)) (v - l[i]?.getD 0) (i + 1) := by
  rw [List.getElem?_eq_getElem h] at hx ⊢
  rw [List.drop_eq_getElem_cons h, pk, if_pos (by simpa using hx)]
  rfl
theorem pk_no {l : List Int} {i : Nat} {v : Int} (h : i < l.length) (hx : ¬ l[i]?.getD 0 ≤ v) : pk (l.drop i) v i = i := by
  rw [List.getElem?_eq_getElem h] at hx
  rw [List.drop_eq_getElem_cons h, pk, if_neg (by simpa using hx)]
theorem sum_drop {l : List Int} {i : Nat} (h : i < l.length) : sumI (l.drop i) = l[i]?.getD 0 + sumI (l.drop (i + 1)) := by
  rw [List.drop_eq_getElem_cons h, sumI, List.getElem?_eq_getElem h]; rfl
theorem sum_drop_end {l : List Int} {i : Nat} {v : Int} (h0 : 0 ≤ v) (h : v < sumI (l.drop i)) : i < l.length := by
  apply Nat.lt_of_not_le
  intro h1
  rw [List.drop_of_length_le h1, sumI] at h
  omega

/-- what Pick gives -/
def pickOf (s k : Int) (ws : List Int) : Int × Int × Int :=
  if ws.length = 0 then (0, 0, 11) else if 1024 < ws.length then (0, 0, 2)
  else if ws.all good then (if sumI ws = 0 then (0, 0, 23) else (((pk ws (dv s k (sumI ws)) 0 : Nat) : Int), du s k (sumI ws), 0)) else (0, 0, 9)
def PickPost (s k : Int) (ws : List Int) (w : World) (e : Ending) (w' : World) : Prop :=
  e = .returned (.tuple #[.int .i64 (pickOf s k ws).1, .int .i64 (pickOf s k ws).2.1, .int .i64 (pickOf s k ws).2.2]) ∧ w' = w
theorem pickOf_bad {s k : Int} {ws : List Int} (h1 : 1 ≤ ws.length) (h2 : ws.length ≤ 1024) {j : Nat} (hj : j < ws.length) (hb : ¬ good (ws[j]?.getD 0) = true) : pickOf s k ws = (0, 0, 9) := by
  unfold pickOf
  rw [if_neg (by omega), if_neg (by omega), if_neg]
  intro ha
  apply hb
  rw [List.getElem?_eq_getElem hj]
  exact List.all_eq_true.1 ha _ (List.getElem_mem hj)
theorem pickOf_zero {s k : Int} {ws : List Int} (h1 : 1 ≤ ws.length) (h2 : ws.length ≤ 1024) (hg : ∀ x ∈ ws, good x = true) (h0 : sumI ws = 0) : pickOf s k ws = (0, 0, 23) := by
  unfold pickOf
  rw [if_neg (by omega), if_neg (by omega), if_pos (List.all_eq_true.2 hg), if_pos h0]
theorem pickOf_ok {s k : Int} {ws : List Int} (h1 : 1 ≤ ws.length) (h2 : ws.length ≤ 1024) (hg : ∀ x ∈ ws, good x = true) (h0 : ¬ sumI ws = 0) : pickOf s k ws = (((pk ws (dv s k (sumI ws)) 0 : Nat) : Int), du s k (sumI ws), 0) := by
  unfold pickOf
  rw [if_neg (by omega), if_neg (by omega), if_pos (List.all_eq_true.2 hg), if_neg h0]
theorem take_good {ws : List Int} {j : Nat} (h : ∀ x ∈ ws.take j, good x = true) (hj : j < ws.length) (hg : good (ws[j]?.getD 0) = true) : ∀ x ∈ ws.take (j + 1), good x = true := by
  intro x hx
  rw [List.take_add_one, List.mem_append] at hx
  rcases hx with hx | hx
  · exact h x hx
  · rw [List.getElem?_eq_getElem hj] at hx hg
    simp at hx hg
    subst hx
    exact hg

theorem pick_none (s k : Int) (A : Option Addr) (c : Nat) (w : World) : Calls Tryz.prog 44 #[.int .i64 s, .int .i64 k, .slice A 0 c] w (PickPost s k [] w) := by
  go_enter Tryz.func44, Tryz.ntmps44
  go_wp2
  go_ret3
  exact ⟨rfl, rfl⟩
theorem pick_large (s k : Int) (ws : List Int) (n : Nat) (hn : ws.length = n) (h : 1024 < n) (A : Option Addr) (c : Nat) (w : World) : Calls Tryz.prog 44 #[.int .i64 s, .int .i64 k, .slice A n c] w (PickPost s k ws w) := by
  have hq : pickOf s k ws = (0, 0, 2) := by
    unfold pickOf
    rw [if_neg (by omega), if_pos (by omega)]
  have HQ := Lib.hid hq
  have h3 : 1024 < (n : Int) := by omega
  clear hq hn
  go_enter Tryz.func44, Tryz.ntmps44
  go_wp2
  all_goals first
    | (exfalso; omega)
    | skip
  go_ret3
  refine ⟨?_, rfl⟩
  rw [HQ.out]; rfl

set_option maxHeartbeats 1000000 in
set_option maxRecDepth 100000 in
theorem pick_run (s k : Int) (ws : List Int) (n b o c : Nat) (w : World) (hn : ws.length = n) (h1 : 1 ≤ n) (h2 : n ≤ 1024) (hc : ∀ j, j < ws.length → w.cell? ⟨b, o + j, none⟩ = some (.int .i64 (ws[j]?.getD 0))) :
    Calls Tryz.prog 44 #[.int .i64 s, .int .i64 k, .slice (some ⟨b, o, none⟩) n c] w (PickPost s k ws w) := by
  have HB := Lib.hid (fun W (S : Int) (hS : 1 ≤ S ∧ S ≤ 2147483647) => below_ok s k S W hS.1 hS.2)
  have HC := Lib.hid hc
  have HL := Lib.hid hn
  have h3 : 1 ≤ (n : Int) := by omega
  have h4 : (n : Int) ≤ 1024 := by omega
  have h5 : ((n : Int) == 0) = false := by simp; omega
  have h6 : decide (1024 < (n : Int)) = false := by simp; omega
  clear hc hn
  go_enter Tryz.func44, Tryz.ntmps44
  go_wp2
  all_goals first
    | (exfalso; omega)
    | skip
  go_loopw [6, 9, 24] (fun a6 a9 a24 wr => ∃ j : Nat, a6 = .int .i64 0 ∧ a24 = .int .i64 j ∧ a9 = .int .i64 (sumI (ws.take j)) ∧ wr = w ∧ j ≤ n ∧ ∀ x ∈ ws.take j, good x = true) (fun _ _ a24 _ => n - (intOf a24).toNat)
  case atStart => exact ⟨0, rfl, rfl, rfl, rfl, by omega, fun x hx => by simp at hx⟩
  case round =>
    obtain ⟨j, rfl, rfl, rfl, rfl, hj, hg⟩ := hrel
    have hs := sumI_good hg
    rw [List.length_take, HL.out, Nat.min_eq_left hj] at hs
    obtain ⟨S, hS⟩ : ∃ S, sumI (ws.take j) = S := ⟨_, rfl⟩
    rw [hS] at hs ⊢
    have HS := Lib.hid hS
    have HG := Lib.hid hg
    obtain ⟨s1, s2⟩ := hs
    have hj' : (j : Int) ≤ 1024 := by omega
    clear hS hg
    by_cases hlt : j < n
    · have hlt2 : (j : Int) < (n : Int) := by omega
      have hcj := HC.out j (by rw [HL.out]; exact hlt)
      obtain ⟨x, hx⟩ : ∃ x, ws[j]?.getD 0 = x := ⟨_, rfl⟩
      rw [hx] at hcj
      have HX := Lib.hid hx
      clear hx
      by_cases hg : good x = true
      · have hg2 : 0 ≤ x ∧ x ≤ 1000000 := by simpa [good] using hg
        obtain ⟨g1, g2⟩ := hg2
        have HGG := Lib.hid hg
        clear hg
        go_wp2
        go_roundw
        case rel =>
          refine ⟨j + 1, rfl, by go_num, ?_, by first | rfl | trivial, by omega, take_good HG.out (by rw [HL.out]; exact hlt) (by rw [HX.out]; exact HGG.out)⟩
          rw [sumI_take (by rw [HL.out]; exact hlt), HS.out, HX.out]
        case measure => simp [intOf]; omega
      · have HP : Hid (pickOf s k ws = (0, 0, 9)) := Lib.hid (pickOf_bad (by rw [HL.out]; omega) (by rw [HL.out]; omega) (by rw [HL.out]; exact hlt) (by rw [HX.out]; exact hg))
        have hg2 : x < 0 ∨ (0 ≤ x ∧ 1000000 < x) := by
          have : ¬ (0 ≤ x ∧ x ≤ 1000000) := by simpa [good] using hg
          omega
        clear hg
        rcases hg2 with g1 | ⟨g1, g2⟩
        all_goals
          go_wp2
          go_ret3
          refine ⟨?_, rfl⟩
          rw [HP.out]; rfl
    · obtain rfl : j = n := by omega
      have hT : sumI ws = S := by
        have h := HS.out
        rwa [List.take_of_length_le (by rw [HL.out]; omega)] at h
      have hGG : ∀ x ∈ ws, good x = true := by
        have h := HG.out
        rwa [List.take_of_length_le (by rw [HL.out]; omega)] at h
      by_cases hz : S = 0
      · have HP : Hid (pickOf s k ws = (0, 0, 23)) := Lib.hid (pickOf_zero (by rw [HL.out]; omega) (by rw [HL.out]; omega) hGG (by rw [hT]; exact hz))
        clear hT hGG
        subst hz
        go_wp2
        go_ret3
        refine ⟨?_, rfl⟩
        rw [HP.out]; rfl
      · have hP := pickOf_ok (s := s) (k := k) (by rw [HL.out]; omega) (by rw [HL.out]; omega) hGG (by rw [hT]; exact hz)
        rw [hT] at hP
        have hin := dv_in s k S (by omega)
        obtain ⟨V, hV⟩ : ∃ V, dv s k S = V := ⟨_, rfl⟩
        obtain ⟨U, hU⟩ : ∃ U, du s k S = U := ⟨_, rfl⟩
        rw [hV, hU] at hP
        rw [hV] at hin
        have HP := Lib.hid hP
        have HT := Lib.hid hT
        have HV := Lib.hid hV
        have HU := Lib.hid hU
        have HBB : Hid (∀ W, Calls Tryz.prog 22 #[.int .i64 s, .int .i64 k, .int .i64 S] W fun e w' => e = .returned (.tuple #[.int .i64 V, .int .i64 U, .int .i64 0]) ∧ w' = W) := Lib.hid (fun W => by
          have h := HB.out W S ⟨by omega, by omega⟩
          rw [show (below s k (lim S) 63 0).1.tmod S = V from HV.out, show (below s k (lim S) 63 0).2 = U from HU.out] at h
          exact h)
        obtain ⟨i1, i2⟩ := hin
        have hz1 : 1 ≤ S := by omega
        clear hP hT hV hU hGG hz
        go_wp2_with fail
        all_goals first
          | (exfalso; omega)
          | skip
        refine (HBB.out _).mono ?_
        rintro e w1 ⟨rfl, rfl⟩
        go_wp2
        go_loopw [6, 12] (fun a6 a12 wr => ∃ (i : Nat) (v : Int), a6 = .int .i64 i ∧ a12 = .int .i64 v ∧ wr = w1 ∧ 0 ≤ v ∧ v ≤ 1024000000 ∧ v < sumI (ws.drop i) ∧ pk ws V 0 = pk (ws.drop i) v i) (fun a6 _ _ => j - (intOf a6).toNat)
        case atStart => exact ⟨0, V, rfl, rfl, rfl, i1, by omega, by rw [List.drop_zero, HT.out]; exact i2, rfl⟩
        case round =>
          obtain ⟨i, v, rfl, rfl, rfl, v1, v3, v2, hpk⟩ := hrel
          have hi : i < j := by have := sum_drop_end v1 v2; rw [HL.out] at this; exact this
          have hi2 : (i : Int) < (j : Int) := by omega
          have hci := HC.out i (by rw [HL.out]; exact hi)
          obtain ⟨x, hx⟩ : ∃ x, ws[i]?.getD 0 = x := ⟨_, rfl⟩
          rw [hx] at hci
          have hsd := sum_drop (l := ws) (i := i) (by rw [HL.out]; exact hi)
          rw [hx] at hsd
          by_cases hxv : x ≤ v
          · have hgx := HG.out
            have hyes := pk_yes (l := ws) (v := v) (by rw [HL.out]; exact hi) (by rw [hx]; exact hxv)
            rw [hx] at hyes
            have h0x : 0 ≤ x := by
              have : ws[i]?.getD 0 ∈ ws := by rw [List.getElem?_eq_getElem (by rw [HL.out]; exact hi)]; exact List.getElem_mem _
              have h := hgx _ (by rw [List.take_of_length_le (by rw [HL.out]; omega)]; exact this)
              rw [hx] at h
              have : 0 ≤ x ∧ x ≤ 1000000 := by simpa [good] using h
              exact this.1
            have HR : Hid (v - x < sumI (ws.drop (i + 1)) ∧ pk ws V 0 = pk (ws.drop (i + 1)) (v - x) (i + 1)) := Lib.hid ⟨by omega, hpk.trans hyes⟩
            clear hpk hyes hsd hx v2 hgx
            go_wp2
            go_roundw
            case rel => exact ⟨i + 1, v - x, by go_num, by first | rfl | trivial, by first | rfl | trivial, by omega, by omega, HR.out.1, HR.out.2⟩
            case measure => simp [intOf]; omega
          · have hno := pk_no (l := ws) (v := v) (by rw [HL.out]; exact hi) (by rw [hx]; exact hxv)
            have HR : Hid (pk ws V 0 = i) := Lib.hid (hpk.trans hno)
            clear hpk hno hsd hx v2
            go_wp2
            go_ret3
            refine ⟨?_, rfl⟩
            rw [HP.out, HR.out]; rfl
end Go.Proofs.YtmbccjncgikehaaGreatDoor
