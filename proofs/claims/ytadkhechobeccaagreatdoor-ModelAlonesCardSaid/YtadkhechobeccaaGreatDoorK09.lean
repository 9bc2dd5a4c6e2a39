/-
  Entries of a model, in plain terms and run by the value machine.
  Functions as the value machine turns them.
-/
import Derived.Test.YtadkhechobeccaaGreatDoorK07
import Derived.Test.YtadkhechobeccaaGreatDoorK05
import Derived.Test.YtadkhechobeccaaGreatDoorK08
namespace Go.Proofs.YtadkhechobeccaaGreatDoor.Vm
open Go.RowKit
theorem w32_id {n : Int} (h1 : -2147483648 ≤ n) (h2 : n ≤ 2147483647) : w32 n = n := by
  unfold w32
  rw [IntKind.wrap_i32]
  omega
theorem w32_rng (n : Int) : -2147483648 ≤ w32 n ∧ w32 n ≤ 2147483647 := by
  unfold w32
  rw [IntKind.wrap_i32]
  omega
def shM (n by_ : Int) : Int := (n + 2 ^ (by_ - 1).toNat).fdiv (2 ^ by_.toNat)
theorem fdiv_td {a b : Int} (hb : 0 < b) : a.fdiv b = if a.tmod b < 0 then a.tdiv b - 1 else a.tdiv b := by
  have h1 := Int.mul_tdiv_add_tmod a b
  have h2 := Int.tmod_lt_of_pos a hb
  have h3 := Int.lt_tmod_of_pos a hb
  rw [Int.fdiv_eq_ediv_of_nonneg _ (by omega)]
  by_cases h : a.tmod b < 0
  · rw [if_pos h]
    exact ((Int.ediv_emod_unique (r := a.tmod b + b) hb).2 ⟨by rw [Int.mul_sub]; omega, by omega, by omega⟩).1
  · rw [if_neg h]
    exact ((Int.ediv_emod_unique (r := a.tmod b) hb).2 ⟨by omega, by omega, by omega⟩).1
theorem dotK_congr {a a' b : List Int} : ∀ {k : Nat}, (∀ j, j < k → a[j]? = a'[j]?) → dotK a b k = dotK a' b k
  | 0, _ => rfl
  | k + 1, h => by rw [dotK, dotK, dotK_congr fun j hj => h j (by omega), h k (by omega)]
theorem dotK_rng (a b : List Int) : ∀ k, -2147483648 ≤ dotK a b k ∧ dotK a b k ≤ 2147483647
  | 0 => ⟨by simp [dotK], by simp [dotK]⟩
  | _ + 1 => w32_rng _
def mapR (n : Nat) (g : Nat → Int) : List Int := (List.range n).map g
@[simp] theorem mapR_len (n : Nat) (g : Nat → Int) : (mapR n g).length = n := by simp [mapR]
theorem mapR_succ (n : Nat) (g : Nat → Int) : mapR (n + 1) g = mapR n g ++ [g n] := by simp [mapR, List.range_succ]
theorem mapR_get {n : Nat} {g : Nat → Int} {k : Nat} (h : k < n) : (mapR n g)[k]? = some (g k) := by simp [mapR, h]
theorem mapR_eq {n : Nat} {g : Nat → Int} {l : List Int} (hl : l.length = n) (h : ∀ k, k < n → l[k]? = some (g k)) : l = mapR n g := by
  apply List.ext_getElem?
  intro i
  by_cases hi : i < n
  · rw [h i hi, mapR_get hi]
  · rw [List.getElem?_eq_none (by omega), List.getElem?_eq_none (by simp; omega)]
def gI (l : List Int) (k : Nat) : Int := (l[k]?).getD 0
theorem gI_of {l : List Int} {k : Nat} {x : Int} (h : l[k]? = some x) : gI l k = x := by simp [gI, h]
theorem gI_mem {l : List Int} {k : Nat} {lo hi : Int} (h : ∀ x ∈ l, lo ≤ x ∧ x ≤ hi) (hk : k < l.length) : lo ≤ gI l k ∧ gI l k ≤ hi := by
  rw [gI_of (List.getElem?_eq_getElem hk)]
  exact h _ (List.getElem_mem hk)
def xM (m : LModel) (w t p : Nat) : List Int := mapR w fun k => gI m.embed (t * w + k) + gI m.place (p * w + k)
def mvM (mat : List Int) (w : Nat) (x : List Int) (j : Nat) : Int := dotK (mat.drop (j * w)) x w
def entM (m : LModel) (w t p : Nat) : List Int := if m.kind = 1 then mapR (3 * w) (fun j => shM (mvM m.mix w (xM m w t p) j) (gI m.cuts 0)) else xM m w t p
end Go.Proofs.YtadkhechobeccaaGreatDoor.Vm
namespace Go.Proofs.YtadkhechobeccaaGreatDoor.Vm
open Go.RowKit
section
variable {T : Tbl} {M : Nat → Bool} {st : St} {K : V → St → Prop} {Kp : List PanicEntry → St → Prop}
theorem pow_rng {k : Nat} (hk : k ≤ 15) : 1 ≤ (2 : Int) ^ k ∧ (2 : Int) ^ k ≤ 32768 := by
  rcases (show k = 0 ∨ k = 1 ∨ k = 2 ∨ k = 3 ∨ k = 4 ∨ k = 5 ∨ k = 6 ∨ k = 7 ∨ k = 8 ∨ k = 9 ∨ k = 10 ∨ k = 11 ∨ k = 12 ∨ k = 13 ∨ k = 14 ∨ k = 15 by omega) with e | e | e | e | e | e | e | e | e | e | e | e | e | e | e | e <;> rw [e] <;> decide
theorem shM_nat (n : Int) (k : Nat) : shM n ((k : Int) + 1) = (n + 2 ^ k).fdiv (2 ^ (k + 1)) := by
  unfold shM
  rw [show ((k : Int) + 1 - 1).toNat = k by omega, show ((k : Int) + 1).toNat = k + 1 by omega]
theorem shift_v (n by_ : Int) (hb : 1 ≤ by_ ∧ by_ ≤ 15) (hn : -1000000000000 ≤ n ∧ n ≤ 1000000000000) (hK : K (I (shM n by_)) st) : CallV Tryz.prog T M 89 [I n, I by_] st K Kp := by
  obtain ⟨k, rfl⟩ : ∃ k : Nat, by_ = (k : Int) + 1 := ⟨(by_ - 1).toNat, by omega⟩
  have hp := pow_rng (k := k) (by omega)
  rw [shM_nat] at hK
  refine fun_ok hmix c_shift (le_of rfl) ?_
  simp [F_shift, w64 (n := (k : Int)) (by omega) (by omega), show (0 : Int) ≤ (k : Int) + 1 by omega, IntKind.bits, show min k 64 = k by omega, show min (k + 1) 64 = k + 1 by omega, w64 (n := 2 ^ k) (by omega) (by omega), w64 (n := n + 2 ^ k) (by omega) (by omega)]
  exact hK
theorem floorDiv_v (a b : Int) (ha : -1000000000000000 ≤ a ∧ a ≤ 1000000000000000) (hb : 1 ≤ b) (hK : K (I (a.fdiv b)) st) : CallV Tryz.prog T M 111 [I a, I b] st K Kp := by
  have h1 : a.tdiv b ≤ 1000000000000000 ∧ -1000000000000000 ≤ a.tdiv b := by
    have h2 := Int.natAbs_tdiv_le_natAbs a b
    omega
  rw [fdiv_td (by omega)] at hK
  refine fun_ok hmix c_floorDiv (le_of rfl) ?_
  have h0 : b ≠ 0 := by omega
  by_cases h : a.tmod b < 0
  · rw [if_pos h] at hK
    simp [F_floorDiv, h0, h, w64 (n := a.tdiv b) (by omega) (by omega), w64 (n := a.tdiv b - 1) (by omega) (by omega)]
    exact hK
  · rw [if_neg h] at hK
    simp [F_floorDiv, h0, h, w64 (n := a.tdiv b) (by omega) (by omega)]
    exact hK
theorem refShift_v (n by_ : Int) (hb : 1 ≤ by_ ∧ by_ ≤ 15) (hn : -1000000000000 ≤ n ∧ n ≤ 1000000000000) (hK : K (I (shM n by_)) st) : CallV Tryz.prog T M 83 [I n, I by_] st K Kp := by
  obtain ⟨k, rfl⟩ : ∃ k : Nat, by_ = (k : Int) + 1 := ⟨(by_ - 1).toNat, by omega⟩
  have hp := pow_rng (k := k) (by omega)
  have hp2 := pow_rng (k := k + 1) (by omega)
  rw [shM_nat] at hK
  refine fun_ok hmix c_refShift (le_of rfl) ?_
  simp [F_refShift]
  refine wp_mflat [] [] ?_
  simp [w64 (n := (k : Int)) (by omega) (by omega), show (0 : Int) ≤ (k : Int) + 1 by omega, IntKind.bits, show min k 64 = k by omega, show min (k + 1) 64 = k + 1 by omega, w64 (n := 2 ^ k) (by omega) (by omega), w64 (n := n + 2 ^ k) (by omega) (by omega), w64 (n := 2 ^ (k + 1)) (by omega) (by omega)]
  refine floorDiv_v _ _ (by omega) (by omega) ?_
  simpa using hK
theorem wrapped_v (n : Int) (hK : K (I (w32 n)) st) : CallV Tryz.prog T M 84 [I n] st K Kp := by
  have e : IntKind.i64.wrap (IntKind.i32.wrap (IntKind.u32.wrap n)) = w32 n := by
    unfold w32
    simp only [IntKind.wrap_i64, IntKind.wrap_i32, IntKind.wrap_u32]
    omega
  refine fun_ok hmix c_wrapped (le_of rfl) ?_
  simp [F_wrapped, e]
  exact hK
theorem within_v (n lo hi : Int) (hK : K (Bo (inB lo hi n)) st) : CallV Tryz.prog T M 56 [I n, I lo, I hi] st K Kp := by
  refine fun_ok hmix c_within (le_of rfl) ?_
  by_cases h : lo ≤ n <;> simp [F_within, h]
  · simpa [inB, h] using hK
  · simpa [inB, h] using hK
theorem rowsN_v (f : Bool) (l : List Int) (k : Nat) (hk : 1 ≤ k) (hl : l.length ≤ 1000000) (hK : K (I (rowsM l.length k : Nat)) st) : CallV Tryz.prog T M 87 [.lst f (ints l), I k] st K Kp := by
  refine fun_ok hmix c_rows (le_of rfl) ?_
  have h0 : (k : Int) ≠ 0 := by omega
  have e1 : (l.length : Int).tmod k = (l.length : Int) % k := Int.tmod_eq_emod_of_nonneg (by omega)
  have e2 : (l.length : Int).tdiv k = (l.length : Int) / k := Int.tdiv_eq_ediv_of_nonneg (by omega)
  have hd : 0 ≤ (l.length : Int) / k := Int.ediv_nonneg (by omega) (by omega)
  have hd2 : (l.length : Int) / k ≤ l.length := Int.ediv_le_self _ (by omega)
  have hd3 : (l.length : Int) % k = ((l.length % k : Nat) : Int) := rfl
  have hz : k ≠ 0 := by omega
  by_cases h : l.length % k = 0
  · have hn : (l.length : Int) % k = 0 := by omega
    simp [F_rows, hz, e1, e2, hn, w64 (n := (l.length : Int) / k) (by omega) (by omega)]
    simpa [rowsM, h] using hK
  · have hn : ¬ (l.length : Int) % k = 0 := fun e => h (Int.ofNat_eq_zero.1 (by rw [← hd3]; exact e))
    have hn2 : ((l.length : Int) % k != 0) = true := by simp [bne, hn]
    simp [F_rows, hz, e1, hn2]
    simpa [rowsM, h] using hK
end
end Go.Proofs.YtadkhechobeccaaGreatDoor.Vm
namespace Go.Proofs.YtadkhechobeccaaGreatDoor.Vm
open Go.RowKit
def Rd (st : St) (v : V) (l : List Int) : Prop := (∃ f, v = .lst f (ints l)) ∨ ∃ b t, v = .own b l.length 0 l.length ∧ st[b]? = some (.row t 1 (ints l))
theorem Rd.lst (st : St) (f : Bool) (l : List Int) : Rd st (.lst f (ints l)) l := Or.inl ⟨f, rfl⟩
theorem Rd.of_out {n t : Nat} {st : St} {v : V} {l : List Int} (h : OutS n t 1 st v (ints l)) : Rd st v l := by
  rcases h with ⟨h1, rfl⟩ | ⟨b, h1, h2, rfl⟩
  · have : l = [] := by simpa [ints] using h1
    subst this
    exact Or.inl ⟨true, rfl⟩
  · rw [ints_len]
    exact Or.inr ⟨b, t, rfl, h2⟩
theorem Rd.more {st : St} {v : V} {l : List Int} (h : Rd st v l) (e : St) : Rd (st ++ e) v l := by
  rcases h with h | ⟨b, t, h1, h2⟩
  · exact Or.inl h
  · exact Or.inr ⟨b, t, h1, get_more h2 e⟩
theorem Rd.len {st : St} {v : V} {l : List Int} (h : Rd st v l) : lenV st v = some (I (l.length : Int)) := by
  rcases h with ⟨f, rfl⟩ | ⟨b, t, rfl, h2⟩
  · simp
  · simp [h2]
theorem Rd.el {st : St} {v : V} {l : List Int} (h : Rd st v l) {k : Nat} {x : Int} (hx : l[k]? = some x) : ∃ p, elemAt 1 st (k : Int) v = some p ∧ (∀ rd : Nat → Nat → Bool, (∀ b j, rd b j = true) → mLoad rd false 1 st p = some (I x)) := by
  have hi := ints_get hx
  rcases h with ⟨f, rfl⟩ | ⟨b, t, rfl, h2⟩
  · exact ⟨.cref (I x) 0, by simp [hi], fun rd _ => by simp⟩
  · have hk : k < l.length := (List.getElem?_eq_some_iff.1 hx).1
    exact ⟨.ptr b l.length k 0, by simp [h2, hk], fun rd hrd => by simp [h2, hi, rdOk_of (hrd b), hrd]⟩
section
variable {T : Tbl} {M : Nat → Bool} {st : St} {K : V → St → Prop} {Kp : List PanicEntry → St → Prop}
theorem dot_r {va vb : V} {a b : List Int} (ra : Rd st va a) (rb : Rd st vb b) (h : a.length ≤ b.length) (hl : a.length ≤ 1000000000) (hK : K (I (dotK a b a.length)) st) : CallV Tryz.prog T M 90 [va, vb] st K Kp := by
  refine fun_ok hmix c_dot (le_of rfl) ?_
  simp [F_dot, ra.len]
  refine wp_mloop (fun fr s => ∃ k : Nat, k ≤ a.length ∧ s = st ∧ fr.df = [] ∧ fr.g 0 = va ∧ fr.g 1 = vb ∧ fr.g 8 = I a.length ∧ fr.g 9 = I k ∧ fr.g 5 = I (dotK a b k)) (fun fr _ => a.length - nat (fr.g 9)) ⟨0, by simp [dotK]⟩ ?_
  rintro fr s ⟨k, hk, rfl, hdf, g0, g1, g8, g9, g5⟩
  by_cases hlt : k < a.length
  · have ha := List.getElem?_eq_getElem hlt
    have hb := List.getElem?_eq_getElem (show k < b.length by omega)
    obtain ⟨p, p1, p2⟩ := ra.el ha
    obtain ⟨q, q1, q2⟩ := rb.el hb
    simp [g8, g9, hlt]
    refine wp_mflat [] [] ?_
    simp [g0, g1, g9, g5, p1, p2, q1, q2]
    refine wrap_v _ ?_
    simp
    refine wrap_v _ ?_
    simp [g8, hdf, w64 (n := (k : Int) + 1) (by omega) (by omega)]
    refine ⟨⟨k + 1, by omega, by omega, ?_⟩, by omega⟩
    simp [dotK, w32_w64, List.getElem?_eq_getElem hlt, List.getElem?_eq_getElem (show k < b.length by omega)]
  · obtain rfl : k = a.length := by omega
    simp [g8, g9, g5, hdf]
    exact hK
set_option maxRecDepth 10000 in
theorem refRow_r {vm vx : V} (mat x : List Int) (j : Int) (rm : Rd st vm mat) (rx : Rd st vx x) (hj : 0 ≤ j ∧ j ≤ 1000000) (hx : x.length ≤ 1000000) (hm : j * x.length + x.length ≤ mat.length) (hK : K (I (mvM mat x.length x j.toNat)) st) : CallV Tryz.prog T M 47 [vm, I j, vx] st K Kp := by
  obtain ⟨j, rfl⟩ : ∃ q : Nat, j = (q : Int) := ⟨j.toNat, by omega⟩
  have hjx : j * x.length ≤ 1000000 * 1000000 := Nat.mul_le_mul (by omega) hx
  have hm' : j * x.length + x.length ≤ mat.length := by
    have : ((j * x.length : Nat) : Int) = (j : Int) * (x.length : Int) := by push_cast; rfl
    omega
  refine fun_ok hmix c_refRow (le_of rfl) ?_
  simp [F_refRow, rx.len]
  refine wp_mloop (fun fr s => ∃ k : Nat, k ≤ x.length ∧ s = st ∧ fr.df = [] ∧ fr.g 0 = vm ∧ fr.g 1 = I j ∧ fr.g 2 = vx ∧ fr.g 10 = vx ∧ fr.g 11 = I x.length ∧ fr.g 12 = I k ∧ fr.g 7 = I (dotK (mat.drop (j * x.length)) x k)) (fun fr _ => x.length - nat (fr.g 12)) ⟨0, by simp [dotK]⟩ ?_
  rintro fr s ⟨k, hk, rfl, hdf, g0, g1, g2, g10, g11, g12, g7⟩
  by_cases hlt : k < x.length
  · have hb := List.getElem?_eq_getElem hlt
    have ha := List.getElem?_eq_getElem (show j * x.length + k < mat.length by omega)
    obtain ⟨p, p1, p2⟩ := rx.el hb
    obtain ⟨q, q1, q2⟩ := rm.el ha
    have e0 : (j : Int) * (x.length : Int) = ((j * x.length : Nat) : Int) := by push_cast; rfl
    have e3 : ((j * x.length + k : Nat) : Int) = (j : Int) * (x.length : Int) + (k : Int) := by push_cast; rfl
    rw [e3] at q1
    simp [g11, g12, hlt]
    simp [g10, p1, p2, g7, g0, g1, g2, rx.len, w64 (n := (j : Int) * (x.length : Int)) (by omega) (by omega), w64 (n := (j : Int) * (x.length : Int) + (k : Int)) (by omega) (by omega), q1, q2]
    refine wrapped_v _ ?_
    simp
    refine wrapped_v _ ?_
    simp [hdf, w64 (n := (k : Int) + 1) (by omega) (by omega)]
    refine ⟨⟨k + 1, by omega, by omega, ?_⟩, by omega⟩
    simp [dotK, w32_w64, hb, ha]
  · obtain rfl : k = x.length := by omega
    simp [g11, g12, g7, hdf]
    simpa [mvM] using hK
theorem equal_r {va vb : V} {a b : List Int} (ra : Rd st va a) (rb : Rd st vb b) (hl : a.length ≤ 1000000000) (hK : K (Bo (decide (a = b))) st) : CallV Tryz.prog T M 13 [va, vb] st K Kp := by
  refine fun_ok hmix c_equalI (le_of rfl) ?_
  by_cases hab : a.length = b.length
  · have hn : ((a.length : Int) != (b.length : Int)) = false := by simp [hab]
    simp [F_equalI, ra.len, rb.len, hab]
    refine wp_mloop (fun fr s => ∃ k : Nat, k ≤ a.length ∧ s = st ∧ fr.df = [] ∧ fr.g 0 = va ∧ fr.g 1 = vb ∧ fr.g 12 = I a.length ∧ fr.g 13 = I k ∧ ∀ j, j < k → a[j]? = b[j]?) (fun fr _ => a.length - nat (fr.g 13)) ⟨0, by simp [hab]⟩ ?_
    rintro fr s ⟨k, hk, rfl, hdf, g0, g1, g12, g13, hj⟩
    by_cases hlt : k < a.length
    · have ha := List.getElem?_eq_getElem hlt
      have hb := List.getElem?_eq_getElem (show k < b.length by omega)
      obtain ⟨p, p1, p2⟩ := ra.el ha
      obtain ⟨q, q1, q2⟩ := rb.el hb
      generalize hu : a[k] = u at *
      generalize hv : b[k] = v at *
      simp [g12, g13, hlt]
      refine wp_mflat [] [] ?_
      simp [g0, g1, g13, p1, p2, q1, q2]
      by_cases he : u = v
      · simp [he, g12, hdf, w64 (n := (k : Int) + 1) (by omega) (by omega)]
        refine ⟨⟨k + 1, by omega, by omega, fun j hj2 => ?_⟩, by omega⟩
        rcases Nat.lt_or_ge j k with h | h
        · exact hj j h
        · obtain rfl : j = k := by omega
          rw [ha, hb, he]
      · have hne : a ≠ b := fun e => he (by rw [e] at ha; rw [ha] at hb; exact Option.some.inj hb)
        rw [decide_eq_false hne] at hK
        have hb1 : (u != v) = true := by simp [he]
        simp [hb1, hdf]
        exact hK
    · obtain rfl : k = a.length := by omega
      have heq : a = b := List.ext_getElem? fun i => by
        by_cases hi : i < a.length
        · exact hj i hi
        · rw [List.getElem?_eq_none (by omega), List.getElem?_eq_none (by omega)]
      rw [decide_eq_true heq] at hK
      simp [g12, g13, hdf]
      exact hK
  · have hne : a ≠ b := fun e => hab (by rw [e])
    rw [decide_eq_false hne] at hK
    have hb1 : ((a.length : Int) != (b.length : Int)) = true := by simp; omega
    simp [F_equalI, ra.len, rb.len, hb1]
    exact hK
theorem clone_v (f : Bool) (l : List Int) (h0 : l ≠ []) (hl : l.length ≤ 1000000) (hK : K (.own st.length l.length 0 l.length) (st ++ [.row 3 1 (ints l)])) : CallV Tryz.prog T M 40 [.lst f (ints l)] st K Kp := by
  have hne : ints l ≠ [] := by simpa [ints] using h0
  refine fun_ok hmix c_cloneI (le_of rfl) ?_
  simp [F_cloneI, nnil_lst hne, app_eq]
  refine ⟨fun y hy => (by obtain ⟨z, -, rfl⟩ := List.mem_map.1 hy; rfl), ⟨by omega, by omega⟩, ?_⟩
  exact hK
end
end Go.Proofs.YtadkhechobeccaaGreatDoor.Vm
namespace Go.Proofs.YtadkhechobeccaaGreatDoor.Vm
open Go.RowKit
structure EntS (m : LModel) (w r vo : Nat) : Prop where
  hw : m.width = (w : Int)
  w1 : 1 ≤ w ∧ w ≤ 5
  hv : m.vocab = (vo : Int)
  v1 : 2 ≤ vo ∧ vo ≤ 16
  emb : m.embed.length = vo * w
  out : m.out.length = vo * w
  pla : m.place.length = r * w
  r1 : 1 ≤ r ∧ r ≤ 16
  kind : 1 ≤ m.kind ∧ m.kind ≤ 3
  mix : m.kind = 1 → m.mix.length = 3 * w * w
  cuts : m.cuts.length = 4 ∧ ∀ x ∈ m.cuts, 1 ≤ x ∧ x ≤ 15
  re : ∀ x ∈ m.embed, -128 ≤ x ∧ x ≤ 127
  rp : ∀ x ∈ m.place, -128 ≤ x ∧ x ≤ 127
theorem GenM.entS {m : LModel} (h : GenM m) : ∃ w r vo, EntS m w r vo := by
  obtain ⟨h1, h2, h3, h4, h5, h6, ⟨⟨r, r1, r2, r3⟩, h7⟩, ⟨⟨q, q1, q2, q3, q4, q5⟩, h8⟩, h9, h10, h11⟩ := h
  obtain ⟨w, hw⟩ : ∃ w : Nat, m.width = (w : Int) := ⟨m.width.toNat, by omega⟩
  obtain ⟨vo, hv⟩ : ∃ w : Nat, m.vocab = (w : Int) := ⟨m.vocab.toNat, by omega⟩
  obtain ⟨r, rfl⟩ : ∃ k : Nat, r = (k : Int) := ⟨r.toNat, by omega⟩
  rw [hw] at h3 r3 q5
  rw [hv] at h2 h4
  refine ⟨w, r, vo, hw, by omega, hv, by omega, ?_, ?_, ?_, by omega, h1, fun c => ?_, h5, h6.2, h7⟩
  · have := h6.1; rw [hv, hw] at this; exact_mod_cast this
  · have := h9.1; rw [hv, hw] at this; exact_mod_cast this
  · exact_mod_cast r3
  · rw [q3 c] at q5; exact_mod_cast q5
theorem len_sub {l : List Int} {t w n : Nat} (h : l.length = n * w) (ht : t < n) : ((l.drop (t * w)).take w).length = w := by
  have : t * w + w ≤ n * w := by rw [← Nat.succ_mul]; exact Nat.mul_le_mul_right w ht
  simp; omega
theorem get_sub {l : List Int} {t w n k : Nat} (h : l.length = n * w) (ht : t < n) (hk : k < w) : ((l.drop (t * w)).take w)[k]? = some (gI l (t * w + k)) := by
  have h1 : t * w + w ≤ n * w := by rw [← Nat.succ_mul]; exact Nat.mul_le_mul_right w ht
  rw [List.getElem?_take_of_lt hk, List.getElem?_drop, gI, List.getElem?_eq_getElem (by omega)]
  rfl
section
variable {T : Tbl} {M : Nat → Bool} {st : St} {K : V → St → Prop} {Kp : List PanicEntry → St → Prop}
theorem row_i (f : Bool) (l : List Int) (t w n : Nat) (hl : l.length = n * w) (ht : t < n) (hn : n ≤ 1000) (hw : w ≤ 1000) (hK : ∀ g, K (.lst g (ints ((l.drop (t * w)).take w))) st) : CallV Tryz.prog T M 86 [.lst f (ints l), I t, I w] st K Kp := by
  have h1 : t * w + w ≤ n * w := by rw [← Nat.succ_mul]; exact Nat.mul_le_mul_right w ht
  have e : (t : Int) * (w : Int) = ((t * w : Nat) : Int) := by push_cast; rfl
  refine row_v f (ints l) t w (by omega) (by omega) (by rw [e]; simp; omega) (fun x hx => ?_) fun g => ?_
  · obtain ⟨z, -, rfl⟩ := List.mem_map.1 hx; rfl
  · have := hK g
    have e4 : ((t : Int) * (w : Int)).toNat = t * w := by rw [e]; rfl
    rw [e4]
    simpa [ints, List.map_drop, List.map_take] using this
end
theorem rowsM_r {n w r : Nat} (hw : 1 ≤ w) (h : n = r * w) : rowsM n w = r := by
  subst h
  unfold rowsM
  rw [if_pos (Nat.mul_mod_left _ _), Nat.mul_div_cancel _ (by omega)]
section
variable {T : Tbl} {M : Nat → Bool} {st : St} {K : V → St → Prop} {Kp : List PanicEntry → St → Prop}
theorem ints_get' {l : List Int} {k : Nat} {x : Int} (h : l[k]? = some x) (hk : k < (ints l).length) : (ints l)[k] = I x := by
  have := ints_get h
  rw [List.getElem?_eq_getElem hk] at this
  exact Option.some.inj this
theorem ints_set (l : List Int) (k : Nat) (x : Int) : (ints l).set k (I x) = ints (l.set k x) := by simp [ints, List.map_set]
structure Keep0 (s0 s : St) : Prop where
  len : s0.length ≤ s.length
  get : ∀ b, b < s0.length → s[b]? = s0[b]?
theorem Keep0.refl (s : St) : Keep0 s s := ⟨Nat.le_refl _, fun _ _ => rfl⟩
theorem Keep0.at_ {s0 s : St} (h : Keep0 s0 s) {b : Nat} {x : Blk} (hx : s0[b]? = some x) : s[b]? = some x := (h.get b (List.getElem?_eq_some_iff.1 hx).1).trans hx
theorem Keep0.more {s0 s : St} (h : Keep0 s0 s) (e : St) : Keep0 s0 (s ++ e) := ⟨by have := h.len; simp; omega, fun b hb => by rw [List.getElem?_append_left (Nat.lt_of_lt_of_le hb h.len)]; exact h.get b hb⟩
theorem Keep0.trans {s0 s s1 : St} (h : Keep0 s0 s) (hl : s.length ≤ s1.length) (hg : ∀ b, b < s0.length → s1[b]? = s[b]?) : Keep0 s0 s1 := ⟨Nat.le_trans h.len hl, fun b hb => (hg b hb).trans (h.get b hb)⟩
theorem Keep0.rd {s0 s : St} (h : Keep0 s0 s) {v : V} {l : List Int} (hr : Rd s0 v l) : Rd s v l := by
  rcases hr with h1 | ⟨b, t, h1, h2⟩
  · exact Or.inl h1
  · exact Or.inr ⟨b, t, h1, h.at_ h2⟩
theorem Keep0.low {st e s : St} (h : Keep0 (st ++ e) s) : LowSt st s := fun b hb => Or.inl (by rw [h.get b (by simp; omega), List.getElem?_append_left hb])
theorem Keep0.take {st e s : St} (h : Keep0 (st ++ e) s) : s.take st.length = st := by
  apply List.ext_getElem?
  intro i
  by_cases hi : i < st.length
  · rw [List.getElem?_take_of_lt hi, h.get i (by simp; omega), List.getElem?_append_left hi]
  · rw [List.getElem?_eq_none (by simp; omega), List.getElem?_eq_none (by omega)]
theorem app_one {M2 : Nat → Nat → Bool} {s0 s : St} {v : V} {l : List Int} {x : Int} {k2 : V → St → Prop} (h : OutS s0.length 3 1 s v (ints l)) (hk : Keep0 s0 s) (hM : ∀ b ∈ ownL v, ∀ j, M2 b j = true) (hl : l.length ≤ 1000000)
    (hK : ∀ v' s', OutS s0.length 3 1 s' v' (ints (l ++ [x])) → Keep0 s0 s' → k2 v' s') : obind2 (mApp M2 3 1 8 (s ++ [.row 3 1 [I x]]) v (.own s.length 1 0 1)) k2 := by
  refine app_out (h.more _) (by have := hk.len; simp; omega) (news := [I x]) (by simp) (by simp) (Or.inl (by simp)) (fun b L _ e j => hM b (by rw [e]; simp [ownL]) j) (by simp; omega) (by simp; omega) fun v' s' o hl' hb' _ _ => ?_
  exact hK v' s' (by rw [ints_append]; exact o) ((hk.more _).trans hl' hb')
theorem OutS.down {n n' t k : Nat} {s : St} {v : V} {l : List V} (h : OutS n t k s v l) (hn : n' ≤ n) : OutS n' t k s v l := by
  rcases h with h | ⟨b, h1, h2, h3⟩
  · exact Or.inl h
  · exact Or.inr ⟨b, Nat.le_trans hn h1, h2, h3⟩
theorem rd_own {n t k b : Nat} {s : St} {v : V} {l : List V} (ho : OutS n t k s v l) (hb : b < n) (j : Nat) : rdW (ownL v) [] b j = true := by
  have : b ∉ ownL v := fun h => by have := (ho.lt b h).1; omega
  simp [rdW, this]
theorem own_up {n n0 t k : Nat} {s : St} {v : V} {l : List V} (ho : OutS n t k s v l) (hn : n0 ≤ n) (m : Nat) (M : Nat → Bool) : ∀ b ∈ ownL v, ∀ j, inW m (ownL v) [] (liftM (upM n0 M)) b j = true := fun b hb j => inW_mem (by have := (ho.lt b hb).1; simp [upM]; omega) hb j
theorem mv_eq {mix X : List Int} {w i o : Nat} (hm : i * (w * w) + o * w + w ≤ mix.length) (ho : o < w) : dotK ((((mix.drop (i * (w * w))).take (w * w)).drop (o * w)).take w) X ((((mix.drop (i * (w * w))).take (w * w)).drop (o * w)).take w).length = mvM mix w X (i * w + o) := by
  have h1 : o * w + w ≤ w * w := by rw [← Nat.succ_mul]; exact Nat.mul_le_mul_right w ho
  have hlen : ((((mix.drop (i * (w * w))).take (w * w)).drop (o * w)).take w).length = w := by simp; omega
  rw [hlen]
  unfold mvM
  have e : (i * w + o) * w = i * (w * w) + o * w := by rw [Nat.add_mul, Nat.mul_assoc]
  refine dotK_congr fun j hj => ?_
  rw [List.getElem?_take_of_lt hj, List.getElem?_drop, List.getElem?_take_of_lt (by omega), List.getElem?_drop, List.getElem?_drop, e]
  congr 1
  omega
theorem matrix_v {m : LModel} {w : Nat} {fl : Nat → Bool} {x : V} (hx : encM fl m = x) (hw : m.width = (w : Int)) (w2 : w ≤ 5) (i n : Nat) (hi : i < n) (hn : n ≤ 100) (hm : m.mix.length = n * (w * w)) (hK : ∀ g, K (.lst g (ints ((m.mix.drop (i * (w * w))).take (w * w)))) st) : CallV Tryz.prog T M 91 [x, I i] st K Kp := by
  subst hx
  refine CallV.give (fun_ok hmix c_matrix (le_of rfl) ?_)
  have e : (w : Int) * (w : Int) = ((w * w : Nat) : Int) := by push_cast; rfl
  have h25 := Nat.mul_le_mul w2 w2
  have hi64 : IntKind.i64.wrap ((w : Int) * (w : Int)) = ((w * w : Nat) : Int) := by rw [e, w64 (by omega) (by omega)]
  simp only [F_matrix, encM, hw]
  simp [hi64, -Int.natCast_mul]
  refine row_i _ _ i (w * w) n hm hi (by omega) (by omega) fun g => ?_
  simp
  exact ⟨_, .same _ rfl, Keep0.low (Keep0.refl _), hK g⟩
set_option maxRecDepth 10000 in
theorem entry_v {m : LModel} {w r vo : Nat} (fl : Nat → Bool) (e : EntS m w r vo) (t a : Nat) (ht : t < vo) (ha : a ≤ 1000) (hK : ∀ g, K (.lst g (ints (entM m w t (a % r)))) st) : CallV Tryz.prog T M 58 [encM fl m, I t, I a] st K Kp := by
  obtain ⟨hw, ⟨w1, w2⟩, hv, ⟨v1, v2⟩, emb, out, pla, ⟨r1, r2⟩, ⟨k1, k2⟩, mix, ⟨cl, hc⟩, re, rp⟩ := e
  refine CallV.give (fun_ok hmix c_entry (le_of rfl) ?_)
  simp [F_entry, encM, hw]
  refine row_i _ _ t w vo emb ht (by omega) (by omega) fun g1 => ?_
  have hE0 := len_sub emb ht
  have gE0 := fun k hk => get_sub (k := k) emb ht hk
  generalize (m.embed.drop (t * w)).take w = E0 at *
  refine clone_v g1 E0 (by intro h; rw [h] at hE0; simp at hE0; omega) (by omega) ?_
  simp [hE0]
  refine wp_mflat [] [] ?_
  simp
  refine rowsN_v _ _ w w1 (by rw [pla]; have := Nat.mul_le_mul r2 w2; omega) ?_
  have hr0 : (r : Int) ≠ 0 := by omega
  have hr1 : (a : Int).tmod r = ((a % r : Nat) : Int) := by rw [Int.tmod_eq_emod_of_nonneg (by omega)]; rfl
  have hr2 : a % r < r := Nat.mod_lt _ (by omega)
  simp [rowsM_r w1 pla, hr1, show r ≠ 0 by omega]
  refine row_i _ _ (a % r) w r pla hr2 (by omega) (by omega) fun g2 => ?_
  have hP0 := len_sub pla hr2
  have gP0 := fun k hk => get_sub (k := k) pla hr2 hk
  generalize (m.place.drop (a % r * w)).take w = P0 at *
  simp [hP0]
  have hMB : Blk.row 27 11 [V.agg [I m.kind, I m.vocab, I (w : Int), I m.top, .lst (fl 0) (ints m.cuts), .lst (fl 1) (ints m.embed), .lst (fl 2) (ints m.place), .lst (fl 3) (ints m.mix), .lst (fl 4) (ints m.out), .lst (fl 5) (ints m.soft), .lst (fl 6) (ints m.odds)]] = mdl m.kind m.vocab w m.top (fun i => .lst (fl i) (ints (mls m i))) := rfl
  rw [hMB]
  have nE : ∀ k, k < w → -128 ≤ gI m.embed (t * w + k) ∧ gI m.embed (t * w + k) ≤ 127 := fun k hk => gI_mem re (by
    have : t * w + w ≤ vo * w := by rw [← Nat.succ_mul]; exact Nat.mul_le_mul_right w ht
    omega)
  have nP : ∀ k, k < w → -128 ≤ gI m.place (a % r * w + k) ∧ gI m.place (a % r * w + k) ≤ 127 := fun k hk => gI_mem rp (by
    have : a % r * w + w ≤ r * w := by rw [← Nat.succ_mul]; exact Nat.mul_le_mul_right w hr2
    omega)
  refine wp_mloop (fun fr s => ∃ (k : Nat) (l : List Int), k ≤ w ∧ l.length = w ∧ (∀ j, j < k → l[j]? = some (gI m.embed (t * w + j) + gI m.place (a % r * w + j))) ∧ (∀ j, k ≤ j → l[j]? = E0[j]?) ∧ s = st ++ [mdl m.kind m.vocab w m.top (fun i => .lst (fl i) (ints (mls m i))), .row 3 1 (ints l)] ∧ fr.df = [] ∧ fr.g 3 = .ptr st.length 1 0 0 ∧ fr.g 7 = I w ∧ fr.g 8 = .own (st.length + 1) w 0 w ∧ fr.g 31 = .lst g2 (ints P0) ∧ fr.g 32 = I w ∧ fr.g 33 = I k) (fun fr _ => w - nat (fr.g 33))
    ⟨0, E0, by omega, hE0, fun j hj => absurd hj (by omega), fun j _ => rfl, rfl, by simp, by simp, by simp, by simp, by simp, by simp, by simp⟩ ?_
  rintro fr s ⟨k, l, hk, hl, q1, q2, rfl, hdf, h3, h7, h8, h31, h32, h33⟩
  by_cases hlt : k < w
  · have hx : l[k]? = some (gI m.embed (t * w + k)) := by rw [q2 k (by omega), gE0 k hlt]
    have hy := gP0 k hlt
    have n1 := nE k hlt
    have n2 := nP k hlt
    simp [h32, h33, hlt]
    simp [h31, h8, ints_get hy, ints_get' hx, hl, hlt]
    refine wrap_v _ ?_
    have hs : w32 (IntKind.i64.wrap (gI m.embed (t * w + k) + gI m.place (a % r * w + k))) = gI m.embed (t * w + k) + gI m.place (a % r * w + k) := by rw [w32_w64, w32_id (by omega) (by omega)]
    have hw1 : IntKind.i64.wrap ((k : Int) + 1) = ((k + 1 : Nat) : Int) := by rw [w64 (n := (k : Int) + 1) (by omega) (by omega)]; push_cast; rfl
    simp [hl, hs, ints_set, ints_get hx]
    refine ⟨⟨k + 1, by omega, l.set k (gI m.embed (t * w + k) + gI m.place (a % r * w + k)), by simp [hl], fun j hj => ?_, fun j hj => ?_, rfl, hdf, h3, h7, hw1⟩, ?_⟩
    · by_cases hjk : j = k
      · subst hjk; rw [List.getElem?_set_self (by omega)]
      · rw [List.getElem?_set_ne (Ne.symm hjk)]; exact q1 j (by omega)
    · rw [List.getElem?_set_ne (by omega)]; exact q2 j (by omega)
    · rw [hw1]; omega
  · obtain rfl : k = w := by omega
    have hX : l = xM m k t (a % r) := mapR_eq hl q1
    have hXl : (xM m k t (a % r)).length = k := mapR_len _ _
    subst hX
    simp [h32, h33]
    by_cases hk1 : m.kind = 1
    · simp [h3, mdl, hk1, hdf]
      have hmx := mix hk1
      have hmx2 : m.mix.length = 3 * (k * k) := by rw [hmx, Nat.mul_assoc]
      generalize hS0 : st ++ [mdl m.kind m.vocab k m.top (fun i => .lst (fl i) (ints (mls m i))), .row 3 1 (ints (xM m k t (a % r)))] = s0
      have hMb : s0[st.length]? = some (mdl m.kind m.vocab k m.top (fun i => .lst (fl i) (ints (mls m i)))) := by rw [← hS0]; simp
      have hXb : s0[st.length + 1]? = some (.row 3 1 (ints (xM m k t (a % r)))) := by rw [← hS0]; simp
      have hs0l : s0.length = st.length + 2 := by rw [← hS0]; simp
      have hrx : Rd s0 (.own (st.length + 1) k 0 k) (xM m k t (a % r)) := Or.inr ⟨st.length + 1, 3, by rw [hXl], hXb⟩
      simp only [mdl, hk1] at hS0
      rw [hS0]
      let G := fun j => shM (mvM m.mix k (xM m k t (a % r)) j) (gI m.cuts 0)
      have hc0 : ∃ c0 l2, m.cuts = c0 :: l2 := by
        match hcc : m.cuts, cl with
        | c0 :: l2, _ => exact ⟨c0, l2, rfl⟩
      obtain ⟨c0, l2, hc0⟩ := hc0
      have hg0 : gI m.cuts 0 = c0 := by rw [hc0]; rfl
      have hc1 := hc c0 (by rw [hc0]; simp)
      refine wp_mloop (fun fr s => ∃ i : Nat, i ≤ 3 ∧ Keep0 s0 s ∧ OutS s0.length 3 1 s (fr.g 11) (ints (mapR (i * k) G)) ∧ fr.df = [] ∧ fr.g 3 = .ptr st.length 1 0 0 ∧ fr.g 7 = I k ∧ fr.g 8 = .own (st.length + 1) k 0 k ∧ fr.g 53 = I i) (fun fr _ => 3 - nat (fr.g 53))
        ⟨0, by omega, Keep0.refl _, by simpa [mapR, ints] using OutS.nil _ _ _ _, by simp [hdf], by simp [h3], by simp [h7], by simp [h8], by simp⟩ ?_
      rintro fr s ⟨i, hi, hkp, ho, zdf, z3, z7, z8, z53⟩
      by_cases hi3 : i < 3
      · simp [z53, show (i : Int) < 3 by omega, z7]
        refine wp_mloop (fun fr s => ∃ o : Nat, o ≤ k ∧ Keep0 s0 s ∧ OutS s0.length 3 1 s (fr.g 11) (ints (mapR (i * k + o) G)) ∧ fr.df = [] ∧ fr.g 3 = .ptr st.length 1 0 0 ∧ fr.g 7 = I k ∧ fr.g 8 = .own (st.length + 1) k 0 k ∧ fr.g 53 = I i ∧ fr.g 12 = I i ∧ fr.g 56 = I k ∧ fr.g 57 = I o) (fun fr _ => k - nat (fr.g 57))
          ⟨0, by omega, hkp, by simpa using ho, by simp [zdf], by simp [z3], by simp [z7], by simp [z8], by simp [z53], by simp, by simp, by simp⟩ ?_
        rintro fr s ⟨o, hok, hkp, ho, zdf, z3, z7, z8, z53, z12, z56, z57⟩
        by_cases hok2 : o < k
        · have hMb' := hkp.at_ hMb
          simp only [mdl] at hMb'
          simp [z56, z57, hok2]
          have hrd := fun j => rd_own ho (b := st.length) (by omega) j
          have hcu : (ints (mls m 0))[0]? = some (I c0) := by show (ints m.cuts)[0]? = _; rw [hc0]; rfl
          refine wp_mflat (ownL (fr.g 11)) [] ?_
          simp [z3, z7, z8, z12, hMb', hcu, hrd, z57]
          refine matrix_v (fl := fl) (m := m) (by rw [encM, hw]; rfl) hw w2 i 3 hi3 (by omega) hmx2 fun g3 => ?_
          have hmi := len_sub hmx2 hi3
          refine row_i _ _ o k k hmi hok2 (by omega) (by omega) fun g4 => ?_
          have hsub : i * (k * k) + o * k + k ≤ m.mix.length := by
            have h1 : o * k + k ≤ k * k := by rw [← Nat.succ_mul]; exact Nat.mul_le_mul_right k hok2
            have h2 : i * (k * k) + k * k ≤ 3 * (k * k) := by rw [← Nat.succ_mul]; exact Nat.mul_le_mul_right _ hi3
            omega
          refine dot_r (Rd.lst _ _ _) (hkp.rd hrx) (by rw [hXl]; simp; omega) (by simp; omega) ?_
          rw [mv_eq hsub hok2]
          have hdr := dotK_rng (m.mix.drop ((i * k + o) * k)) (xM m k t (a % r)) k
          refine shift_v _ _ hc1 (by unfold mvM; omega) ?_
          simp
          refine app_one ho hkp (own_up ho (by omega) _ _) (by simp; have := Nat.mul_le_mul (show i ≤ 3 by omega) w2; omega) fun v' s' ho' hk' => ?_
          have hw1 : IntKind.i64.wrap ((o : Int) + 1) = ((o + 1 : Nat) : Int) := by rw [w64 (n := (o : Int) + 1) (by omega) (by omega)]; push_cast; rfl
          simp only [hw1]
          refine ⟨⟨o + 1, by omega, hk', ?_, zdf, z53, z56, rfl⟩, by simp; omega⟩
          have : mapR (i * k + (o + 1)) G = mapR (i * k + o) G ++ [shM (mvM m.mix k (xM m k t (a % r)) (i * k + o)) c0] := by rw [← Nat.add_assoc, mapR_succ, ← hg0]
          rw [this]
          exact ho'
        · obtain rfl : o = k := by omega
          simp [z56, z57]
          have hw1 : IntKind.i64.wrap ((i : Int) + 1) = ((i + 1 : Nat) : Int) := by rw [w64 (n := (i : Int) + 1) (by omega) (by omega)]; push_cast; rfl
          simp [z53, hw1]
          exact ⟨⟨i + 1, by omega, hkp, by rw [Nat.succ_mul]; exact ho, zdf, z3, z7, z8, by push_cast; rfl⟩, by omega⟩
      · obtain rfl : i = 3 := by omega
        simp [z53, zdf]
        obtain ⟨gg, hfr⟩ := (ho.down (show st.length ≤ s0.length by omega)).frz (ints_cells _)
        have hent : entM m k t (a % r) = mapR (3 * k) G := if_pos hk1
        have := hK gg
        rw [hent] at this
        rw [← hS0] at hkp
        exact ⟨_, hfr, hkp.low, by rw [hkp.take]; exact this⟩
    · have hb1 : (m.kind != 1) = true := by simpa using hk1
      have hfr := Frz.row (n := st.length) (st.length + 1) k 0 k 3 1 (ints (xM m k t (a % r))) (by omega) (st := st ++ [mdl m.kind m.vocab k m.top (fun i => .lst (fl i) (ints (mls m i))), .row 3 1 (ints (xM m k t (a % r)))]) (by simp) (by simp [hXl]) (ints_cells _)
      have hent : entM m k t (a % r) = xM m k t (a % r) := if_neg hk1
      simp [mdl] at hfr
      simp [h3, mdl, hb1, hdf]
      refine ⟨_, by rw [h8]; exact hfr, Keep0.low (Keep0.refl _), ?_⟩
      have := hK false
      rw [hent] at this
      rw [List.take_of_length_le (by simp [hXl])]
      exact this
end
end Go.Proofs.YtadkhechobeccaaGreatDoor.Vm
namespace Go.Proofs.YtadkhechobeccaaGreatDoor.Vm
open Go.RowKit
theorem ints_one (l : List Int) : ∀ x ∈ ints l, x.cells.length = 1 := fun x hx => by obtain ⟨z, -, rfl⟩ := List.mem_map.1 hx; rfl
theorem mv_eq2 {mix X : List Int} {w i o A B : Nat} (hA : A = i * (w * w)) (hB : B = A + w * w) (ho : o < w) (hX : X.length = w) : mvM ((mix.drop A).take (B - A)) X.length X o = mvM mix w X (i * w + o) := by
  have h1 : o * w + w ≤ w * w := by rw [← Nat.succ_mul]; exact Nat.mul_le_mul_right w ho
  unfold mvM
  have e : (i * w + o) * w = i * (w * w) + o * w := by rw [Nat.add_mul, Nat.mul_assoc]
  rw [hX]
  refine dotK_congr fun j hj => ?_
  rw [List.getElem?_drop, List.getElem?_take_of_lt (by omega), List.getElem?_drop, List.getElem?_drop, e, hA]
  congr 1
  omega
theorem win_sub {mix : List Int} {a b : Nat} : (List.drop a (ints mix)).take b = ints ((mix.drop a).take b) := by simp [ints, List.map_drop, List.map_take]
section
variable {T : Tbl} {M : Nat → Bool} {st : St} {K : V → St → Prop} {Kp : List PanicEntry → St → Prop}
set_option maxRecDepth 10000 in
theorem refEntry_v {m : LModel} {w r vo : Nat} (fl : Nat → Bool) (e : EntS m w r vo) (t a : Nat) (ht : t < vo) (ha : a ≤ 1000) (hK : ∀ g, K (.lst g (ints (entM m w t (a % r)))) st) : CallV Tryz.prog T M 60 [encM fl m, I t, I a] st K Kp := by
  obtain ⟨hw, ⟨w1, w2⟩, hv, ⟨v1, v2⟩, emb, out, pla, ⟨r1, r2⟩, ⟨k1, k2⟩, mix, ⟨cl, hc⟩, re, rp⟩ := e
  have hr0 : (r : Int) ≠ 0 := by omega
  have hr1 : (a : Int).tmod r = ((a % r : Nat) : Int) := by rw [Int.tmod_eq_emod_of_nonneg (by omega)]; rfl
  have hr2 : a % r < r := Nat.mod_lt _ (by omega)
  have hd : (m.place.length : Int).tdiv w = r := by
    rw [pla, Int.tdiv_eq_ediv_of_nonneg (by omega)]
    push_cast
    exact Int.mul_ediv_cancel _ (by omega)
  generalize a % r = p at *
  refine CallV.give (fun_ok hmix c_refEntry (le_of rfl) ?_)
  simp [F_refEntry, encM, hw, hd, hr1, w64 (n := (r : Int)) (by omega) (by omega), show w ≠ 0 by omega, show r ≠ 0 by omega]
  have hMB : Blk.row 27 11 [V.agg [I m.kind, I m.vocab, I (w : Int), I m.top, .lst (fl 0) (ints m.cuts), .lst (fl 1) (ints m.embed), .lst (fl 2) (ints m.place), .lst (fl 3) (ints m.mix), .lst (fl 4) (ints m.out), .lst (fl 5) (ints m.soft), .lst (fl 6) (ints m.odds)]] = mdl m.kind m.vocab w m.top (fun i => .lst (fl i) (ints (mls m i))) := rfl
  rw [hMB]
  have tw : t * w + w ≤ vo * w := by rw [← Nat.succ_mul]; exact Nat.mul_le_mul_right w ht
  have pw_ : p * w + w ≤ r * w := by rw [← Nat.succ_mul]; exact Nat.mul_le_mul_right w hr2
  have bw1 : vo * w ≤ 16 * 5 := Nat.mul_le_mul v2 w2
  have bw2 : r * w ≤ 16 * 5 := Nat.mul_le_mul r2 w2
  have nE : ∀ k, k < w → -128 ≤ gI m.embed (t * w + k) ∧ gI m.embed (t * w + k) ≤ 127 := fun k hk => gI_mem re (by omega)
  have nP : ∀ k, k < w → -128 ≤ gI m.place (p * w + k) ∧ gI m.place (p * w + k) ≤ 127 := fun k hk => gI_mem rp (by omega)
  have ct : (t : Int) * (w : Int) = ((t * w : Nat) : Int) := by push_cast; rfl
  have cp : (p : Int) * (w : Int) = ((p * w : Nat) : Int) := by push_cast; rfl
  generalize hS0 : st ++ [mdl m.kind m.vocab w m.top (fun i => .lst (fl i) (ints (mls m i)))] = s0
  have hMb : s0[st.length]? = some (mdl m.kind m.vocab w m.top (fun i => .lst (fl i) (ints (mls m i)))) := by rw [← hS0]; simp
  have hs0l : s0.length = st.length + 1 := by rw [← hS0]; simp
  let F := fun k => gI m.embed (t * w + k) + gI m.place (p * w + k)
  refine wp_mloop (fun fr s => ∃ k : Nat, k ≤ w ∧ Keep0 s0 s ∧ OutS s0.length 3 1 s (fr.g 9) (ints (mapR k F)) ∧ fr.df = [] ∧ fr.g 1 = I t ∧ fr.g 3 = .ptr st.length 1 0 0 ∧ fr.g 7 = I w ∧ fr.g 8 = I p ∧ fr.g 23 = I w ∧ fr.g 24 = I k ∧ fr.g 10 = .lst true []) (fun fr _ => w - nat (fr.g 24))
    ⟨0, by omega, Keep0.refl _, by simpa [mapR, ints] using OutS.nil _ _ _ _, by simp, by simp, by simp, by simp, by simp, by simp, by simp, by simp⟩ ?_
  rintro fr s ⟨k, hk, hkp, ho, hdf, h1, h3, h7, h8, h23, h24, h10⟩
  by_cases hlt : k < w
  · have hMb' := hkp.at_ hMb
    simp only [mdl] at hMb'
    have hrd := fun j => rd_own ho (b := st.length) (by omega) j
    have hx := ints_get (l := mls m 1) (k := t * w + k) (x := gI m.embed (t * w + k)) (by show m.embed[_]? = _; rw [gI, List.getElem?_eq_getElem (by omega)]; rfl)
    have hy := ints_get (l := mls m 2) (k := p * w + k) (x := gI m.place (p * w + k)) (by show m.place[_]? = _; rw [gI, List.getElem?_eq_getElem (by omega)]; rfl)
    have n1 := nE k hlt
    have n2 := nP k hlt
    have e1 : ((t : Int) * (w : Int) + (k : Int)).toNat = t * w + k := by omega
    have e2 : ((p : Int) * (w : Int) + (k : Int)).toNat = p * w + k := by omega
    simp [h23, h24, hlt]
    refine wp_mflat (ownL (fr.g 9)) [] ?_
    simp [h1, h3, h7, h8, h24, hMb', hrd, w64 (n := (t : Int) * (w : Int)) (by omega) (by omega), w64 (n := (p : Int) * (w : Int)) (by omega) (by omega), w64 (n := (t : Int) * (w : Int) + (k : Int)) (by omega) (by omega), w64 (n := (p : Int) * (w : Int) + (k : Int)) (by omega) (by omega), show 0 ≤ (t : Int) * (w : Int) + (k : Int) by omega, show 0 ≤ (p : Int) * (w : Int) + (k : Int) by omega, e1, e2, hx, hy, w64 (n := gI m.embed (t * w + k) + gI m.place (p * w + k)) (by omega) (by omega)]
    refine app_one ho hkp (own_up ho (by omega) _ _) (by simp; omega) fun v' s' ho' hk' => ?_
    have hw1 : IntKind.i64.wrap ((k : Int) + 1) = ((k + 1 : Nat) : Int) := by rw [w64 (n := (k : Int) + 1) (by omega) (by omega)]; push_cast; rfl
    simp only [hw1]
    refine ⟨⟨k + 1, by omega, hk', by rw [mapR_succ]; exact ho', hdf, h23, rfl, h10⟩, by simp; omega⟩
  · obtain rfl : k = w := by omega
    have hMb' := hkp.at_ hMb
    simp only [mdl] at hMb'
    have hX : mapR k F = xM m k t p := rfl
    have hXl : (xM m k t p).length = k := mapR_len _ _
    rw [hX] at ho
    rw [← hS0] at hkp
    simp [h23, h24, h3, hMb']
    by_cases hk1 : m.kind = 1
    · have hmx := mix hk1
      have hmx2 : m.mix.length = 3 * (k * k) := by rw [hmx, Nat.mul_assoc]
      have hb1 : (m.kind != 1) = false := by simpa using hk1
      simp [hb1]
      let G := fun j => shM (mvM m.mix k (xM m k t p) j) (gI m.cuts 0)
      have hc0 : ∃ c0 l2, m.cuts = c0 :: l2 := by
        match hcc : m.cuts, cl with
        | c0 :: l2, _ => exact ⟨c0, l2, rfl⟩
      obtain ⟨c0, l2, hc0⟩ := hc0
      have hg0 : gI m.cuts 0 = c0 := by rw [hc0]; rfl
      have hc1 := hc c0 (by rw [hc0]; simp)
      have hk0 := hkp
      have hrx := Rd.of_out ho
      clear hkp ho
      generalize hv9 : fr.g 9 = v9 at *
      have hsl : st.length + 1 ≤ s.length := by have := hk0.len; simp at this; omega
      have hMs := hMb'
      clear hMb'
      refine wp_mloop (fun fr s2 => ∃ i : Nat, i ≤ 3 ∧ Keep0 s s2 ∧ OutS s.length 3 1 s2 (fr.g 10) (ints (mapR (i * k) G)) ∧ fr.df = [] ∧ fr.g 3 = .ptr st.length 1 0 0 ∧ fr.g 7 = I k ∧ fr.g 9 = v9 ∧ fr.g 54 = I i) (fun fr _ => 3 - nat (fr.g 54))
        ⟨0, by omega, Keep0.refl _, by simpa [mapR, ints, h10] using OutS.nil _ _ _ _, by simp [hdf], by simp [h3], by simp [h7], by simp [hv9], by simp⟩ ?_
      rintro fr s2 ⟨i, hi, hkp, ho, zdf, z3, z7, z9, z54⟩
      by_cases hi3 : i < 3
      · simp [z54, show (i : Int) < 3 by omega, z7]
        refine wp_mloop (fun fr s2 => ∃ o : Nat, o ≤ k ∧ Keep0 s s2 ∧ OutS s.length 3 1 s2 (fr.g 10) (ints (mapR (i * k + o) G)) ∧ fr.df = [] ∧ fr.g 3 = .ptr st.length 1 0 0 ∧ fr.g 7 = I k ∧ fr.g 9 = v9 ∧ fr.g 54 = I i ∧ fr.g 12 = I i ∧ fr.g 57 = I k ∧ fr.g 58 = I o) (fun fr _ => k - nat (fr.g 58))
          ⟨0, by omega, hkp, by simpa using ho, by simp [zdf], by simp [z3], by simp [z7], by simp [z9], by simp [z54], by simp, by simp, by simp⟩ ?_
        rintro fr s2 ⟨o, hok, hkp, ho, zdf, z3, z7, z9, z54, z12, z57, z58⟩
        by_cases hok2 : o < k
        · have hMb' := hkp.at_ hMs
          have hrd := fun j => rd_own ho (b := st.length) (by omega) j
          have hcu : (ints (mls m 0))[0]? = some (I c0) := by show (ints m.cuts)[0]? = _; rw [hc0]; rfl
          have q25 : k * k ≤ 5 * 5 := Nat.mul_le_mul w2 w2
          have q1 : i * (k * k) + k * k ≤ 3 * (k * k) := by rw [← Nat.succ_mul]; exact Nat.mul_le_mul_right _ hi3
          have q5 : i * k ≤ 3 * 5 := Nat.mul_le_mul hi w2
          have q6 : (i + 1) * k ≤ 3 * 5 := Nat.mul_le_mul hi3 w2
          have q2 : (i : Int) * (k : Int) * (k : Int) = ((i * (k * k) : Nat) : Int) := by push_cast; rw [Int.mul_assoc]
          have q3 : ((i : Int) + 1) * (k : Int) * (k : Int) = (((i + 1) * (k * k) : Nat) : Int) := by push_cast; rw [Int.mul_assoc]
          have q7 : (i : Int) * (k : Int) = ((i * k : Nat) : Int) := by push_cast; rfl
          have q8 : ((i : Int) + 1) * (k : Int) = (((i + 1) * k : Nat) : Int) := by push_cast; rfl
          have q4 : (i + 1) * (k * k) = i * (k * k) + k * k := Nat.succ_mul _ _
          obtain ⟨A, hA⟩ : ∃ A, A = i * (k * k) := ⟨_, rfl⟩
          obtain ⟨B, hB⟩ : ∃ B, B = (i + 1) * (k * k) := ⟨_, rfl⟩
          have hBA : B = A + k * k := by rw [hB, hA]; exact Nat.succ_mul _ _
          have u1 : IntKind.i64.wrap (IntKind.i64.wrap ((i : Int) * k) * k) = (A : Int) := by rw [w64 (n := (i : Int) * k) (by omega) (by omega), w64 (by omega) (by omega), q2, hA]
          have u2 : IntKind.i64.wrap (IntKind.i64.wrap (IntKind.i64.wrap ((i : Int) + 1) * k) * k) = (B : Int) := by rw [w64 (n := (i : Int) + 1) (by omega) (by omega), w64 (n := ((i : Int) + 1) * k) (by omega) (by omega), w64 (by omega) (by omega), q3, hB]
          have hml : (mls m 3).length = 3 * (k * k) := hmx2
          have hso : o * k + k ≤ k * k := by rw [← Nat.succ_mul]; exact Nat.mul_le_mul_right k hok2
          simp [z57, z58, hok2]
          refine wp_mflat (ownL (fr.g 10)) [] ?_
          simp [z3, z7, z9, z12, z58, hMb', hcu, hrd, u1, u2, win_sub, show A ≤ B by omega]
          refine ⟨⟨by omega, ints_one _⟩, ?_⟩
          refine refRow_r _ _ o (Rd.lst _ _ _) (hkp.rd hrx) (by omega) (by omega) (by rw [hXl]; simp; omega) ?_
          have hdr := dotK_rng (m.mix.drop ((i * k + o) * k)) (xM m k t p) k
          have hme : mvM (List.take (B - A) (List.drop A (mls m 3))) (xM m k t p).length (xM m k t p) (o : Int).toNat = mvM m.mix k (xM m k t p) (i * k + o) := mv_eq2 hA hBA hok2 hXl
          rw [hme]
          refine refShift_v _ _ hc1 (by unfold mvM; omega) ?_
          simp
          refine app_one ho hkp (own_up ho (by omega) _ _) (by simp; omega) fun v' s' ho' hk' => ?_
          have hw1 : IntKind.i64.wrap ((o : Int) + 1) = ((o + 1 : Nat) : Int) := by rw [w64 (n := (o : Int) + 1) (by omega) (by omega)]; push_cast; rfl
          simp only [hw1]
          refine ⟨⟨o + 1, by omega, hk', ?_, zdf, z54, z57, rfl⟩, by simp; omega⟩
          have : mapR (i * k + (o + 1)) G = mapR (i * k + o) G ++ [shM (mvM m.mix k (xM m k t p) (i * k + o)) c0] := by rw [← Nat.add_assoc, mapR_succ, ← hg0]
          rw [this]
          exact ho'
        · obtain rfl : o = k := by omega
          simp [z57, z58]
          have hw1 : IntKind.i64.wrap ((i : Int) + 1) = ((i + 1 : Nat) : Int) := by rw [w64 (n := (i : Int) + 1) (by omega) (by omega)]; push_cast; rfl
          simp [z54, hw1]
          exact ⟨⟨i + 1, by omega, hkp, by rw [Nat.succ_mul]; exact ho, zdf, z3, z7, z9, by push_cast; rfl⟩, by omega⟩
      · obtain rfl : i = 3 := by omega
        simp [z54, zdf]
        obtain ⟨gg, hfr⟩ := (ho.down (show st.length ≤ s.length by omega)).frz (ints_cells _)
        have hent : entM m k t p = mapR (3 * k) G := if_pos hk1
        have := hK gg
        rw [hent] at this
        have hkk : Keep0 (st ++ [mdl m.kind m.vocab k m.top (fun i => .lst (fl i) (ints (mls m i)))]) s2 := hk0.trans hkp.len fun b hb => hkp.get b (Nat.lt_of_lt_of_le hb hk0.len)
        exact ⟨_, hfr, hkk.low, by rw [hkk.take]; exact this⟩
    · have hb1 : (m.kind != 1) = true := by simpa using hk1
      have hent : entM m k t p = xM m k t p := if_neg hk1
      obtain ⟨gg, hfr⟩ := (ho.down (show st.length ≤ s0.length by omega)).frz (ints_cells _)
      have := hK gg
      rw [hent] at this
      simp [hb1, hdf]
      exact ⟨_, hfr, hkp.low, by rw [hkp.take]; exact this⟩
end
end Go.Proofs.YtadkhechobeccaaGreatDoor.Vm
namespace Go.Proofs.YtadkhechobeccaaGreatDoor.Vm
open Go.RowKit
def F_sWord : FnM := FnM.mk 26 (.seq (.lst [.mk 0 false (some 2) none (.mv (.c (.val (.int .i64 0))))]) (.seq (.seq (.lst [.mk 0 false (some 3) none (.mv (.t 0)), .mk 1 false (some 4) none (.call 10 [.t 3, .c (.val (.int .i64 6))])]) (.block 0 (.seq (.lst [.mk 0 false (some 6) none (.bin .eql (.t 4) (.c (.val (.int .i64 0)))), .mk 1 false (some 5) none (.mv (.t 6))]) (.cond (.t 5) (.seq (.lst [.mk 0 false (some 7) none (.mv (.t 0)), .mk 1 false (some 8) none (.call 10 [.t 7, .c (.val (.int .i64 3))]), .mk 2 false (some 9) none (.bin .add (.c (.val (.int .i64 (-2147483648)))) (.t 8)), .mk 3 false (some 2) none (.mv (.t 9))]) .ret) (.seq (.lst [.mk 0 false (some 11) none (.bin .eql (.t 4) (.c (.val (.int .i64 1)))), .mk 1 false (some 10) none (.mv (.t 11))]) (.cond (.t 10) (.seq (.lst [.mk 0 false (some 12) none (.mv (.t 0)), .mk 1 false (some 13) none (.call 10 [.t 12, .c (.val (.int .i64 3))]), .mk 2 false (some 14) none (.bin .sub (.c (.val (.int .i64 2147483647))) (.t 13)), .mk 3 false (some 2) none (.mv (.t 14))]) .ret) (.seq (.lst [.mk 0 false (some 16) none (.bin .eql (.t 4) (.c (.val (.int .i64 2)))), .mk 1 false (some 15) none (.mv (.t 16))]) (.cond (.t 15) (.seq (.lst [.mk 0 false (some 17) none (.mv (.t 0)), .mk 1 false (some 18) none (.call 10 [.t 17, .c (.val (.int .i64 1073741824))]), .mk 2 false (some 19) none (.bin .mul (.t 18) (.c (.val (.int .i64 4)))), .mk 3 false (some 20) none (.mv (.t 0)), .mk 4 false (some 21) none (.call 10 [.t 20, .c (.val (.int .i64 4))]), .mk 5 false (some 22) none (.bin .add (.t 19) (.t 21)), .mk 6 false (some 23) none (.bin .add (.t 22) (.c (.val (.int .i64 (-2147483648))))), .mk 7 false (some 2) none (.mv (.t 23))]) .ret) .skip)))))))) (.seq (.lst [.mk 0 false (some 24) none (.mv (.t 0)), .mk 1 false (some 25) none (.call 9 [.t 24, .c (.val (.int .i64 (-9))), .c (.val (.int .i64 9))]), .mk 2 false (some 2) none (.mv (.t 25))]) .ret))) [.t 2]
theorem c_sWord : compF Tryz.prog 8 = some F_sWord := by kernel_rfl
def F_isWord : FnM := FnM.mk 5 (.seq (.lst [.mk 0 false (some 2) none (.mv (.c (.val (.bool false))))]) (.seq (.lst [.mk 0 false (some 3) none (.mv (.t 0)), .mk 1 false (some 4) none (.call 56 [.t 3, .c (.val (.int .i64 (-2147483648))), .c (.val (.int .i64 2147483647))]), .mk 2 false (some 2) none (.mv (.t 4))]) .ret)) [.t 2]
theorem c_isWord : compF Tryz.prog 57 = some F_isWord := by kernel_rfl
def F_scores : FnM := FnM.mk 41 (.seq (.lst [.mk 0 false (some 2) none (.box 27 (.t 0)), .mk 1 false (some 4) none (.mv (.c (.lst true [])))]) (.seq (.lst [.mk 0 false (some 5) none (.mv (.c (.lst true [])))]) (.seq (.seq (.lst [.mk 0 false (some 8) none (.fadr 0 (.t 2)), .mk 1 false (some 9) none (.load false 1 (.t 8))]) (.block 0 (.seq (.lst [.mk 0 false (some 14) none (.bin .eql (.t 9) (.c (.val (.int .i64 1)))), .mk 1 false (some 13) none (.mv (.t 14))]) (.cond (.t 13) (.lst [.mk 0 false (some 15) none (.load true 11 (.t 2)), .mk 1 false (some 16) none (.mv (.t 1)), .mk 2 false (some 17) none (.call 108 [.t 15, .t 16]), .mk 3 false (some 5) none (.mv (.t 17))]) (.seq (.lst [.mk 0 false (some 19) none (.bin .eql (.t 9) (.c (.val (.int .i64 2)))), .mk 1 false (some 18) none (.mv (.t 19))]) (.cond (.t 18) (.lst [.mk 0 false (some 20) none (.load true 11 (.t 2)), .mk 1 false (some 21) none (.mv (.t 1)), .mk 2 false (some 22) none (.call 109 [.t 20, .t 21]), .mk 3 false (some 5) none (.mv (.t 22))]) (.lst [.mk 0 false (some 10) none (.load true 11 (.t 2)), .mk 1 false (some 11) none (.mv (.t 1)), .mk 2 false (some 12) none (.call 110 [.t 10, .t 11]), .mk 3 false (some 5) none (.mv (.t 12))]))))))) (.seq (.lst [.mk 0 false (some 6) none (.mv (.c (.lst true [])))]) (.seq (.seq (.lst [.mk 0 false (some 23) none (.fadr 1 (.t 2)), .mk 1 false (some 24) none (.load false 1 (.t 23)), .mk 2 false (some 25) none (.mv (.c (.val (.int .i64 0))))]) (.block 1 (.loop (.seq (.lst [.mk 0 false (some 26) none (.bin .lss (.t 25) (.t 24))]) (.seq (.cond (.t 26) .skip (.exit 1)) (.seq (.block 2 (.seq (.lst [.mk 0 false (some 27) none (.mv (.t 25)), .mk 1 false (some 7) none (.mv (.t 27))]) (.lst [.mk 0 false (some 28) none (.mv (.t 6)), .mk 1 false (some 29) none (.fadr 8 (.t 2)), .mk 2 false (some 30) none (.load false 1 (.t 29)), .mk 3 false (some 31) none (.mv (.t 7)), .mk 4 false (some 32) none (.fadr 2 (.t 2)), .mk 5 false (some 33) none (.load false 1 (.t 32)), .mk 6 false (some 34) none (.call 86 [.t 30, .t 31, .t 33]), .mk 7 false (some 35) none (.mv (.t 5)), .mk 8 false (some 36) none (.call 90 [.t 34, .t 35]), .mk 9 false (some 37) none (.bsl 3 1 1 (.val (.int .i64 0)) [(0, .t 36)]), .mk 10 false (some 38) none (.app 3 1 8 (.t 28) (.t 37)), .mk 11 false (some 6) none (.mv (.t 38))]))) (.lst [.mk 0 false (some 39) none (.bin .add (.t 25) (.c (.val (.int .i64 1)))), .mk 1 false (some 25) none (.mv (.t 39))]))))))) (.seq (.lst [.mk 0 false (some 40) none (.mv (.t 6)), .mk 1 false (some 4) none (.mv (.t 40))]) .ret)))))) [.t 4]
theorem c_scores : compF Tryz.prog 79 = some F_scores := by kernel_rfl
def F_attend : FnM := FnM.mk 122 (.seq (.lst [.mk 0 false (some 2) none (.box 27 (.t 0)), .mk 1 false (some 4) none (.mv (.c (.lst true [])))]) (.seq (.lst [.mk 0 false (some 18) none (.fadr 2 (.t 2)), .mk 1 false (some 19) none (.load false 1 (.t 18)), .mk 2 false (some 5) none (.mv (.t 19))]) (.seq (.lst [.mk 0 false (some 20) none (.mv (.t 1)), .mk 1 false (some 21) none (.mv (.t 1)), .mk 2 false (some 22) none (.len (.t 21)), .mk 3 false (some 23) none (.bin .sub (.t 22) (.c (.val (.int .i64 1)))), .mk 4 false (some 24) none (.iadr 1 (.t 20) (.t 23)), .mk 5 false (some 25) none (.load false 1 (.t 24)), .mk 6 false (some 26) none (.mv (.t 5)), .mk 7 false (some 27) none (.bin .mul (.c (.val (.int .i64 2))) (.t 26)), .mk 8 false (some 28) none (.sl 1 (.t 25) (some (.t 27)) none), .mk 9 false (some 6) none (.mv (.t 28))]) (.seq (.lst [.mk 0 false (some 7) none (.mv (.c (.lst true [])))]) (.seq (.seq (.lst [.mk 0 false (some 29) none (.mv (.t 1)), .mk 1 false (some 30) none (.len (.t 29)), .mk 2 false (some 31) none (.mv (.c (.val (.int .i64 0))))]) (.block 0 (.loop (.seq (.lst [.mk 0 false (some 32) none (.bin .lss (.t 31) (.t 30))]) (.seq (.cond (.t 32) .skip (.exit 0)) (.seq (.block 1 (.seq (.lst [.mk 0 false (some 33) none (.iadr 1 (.t 29) (.t 31)), .mk 1 false (some 34) none (.load false 1 (.t 33)), .mk 2 false (some 9) none (.mv (.t 34))]) (.flat [.mk 0 true (some 35) none (.mv (.t 7)), .mk 1 true (some 36) none (.mv (.t 9)), .mk 2 true (some 37) none (.mv (.t 5)), .mk 3 true (some 38) none (.sl 1 (.t 36) none (some (.t 37))), .mk 4 true (some 39) none (.mv (.t 6)), .mk 6 true (some 41) none (.fadr 4 (.t 2)), .mk 7 true (some 42) none (.load false 1 (.t 41)), .mk 8 true (some 43) none (.iadr 1 (.t 42) (.c (.val (.int .i64 1)))), .mk 9 true (some 44) none (.load false 1 (.t 43)), .mk 5 false (some 40) none (.call 90 [.t 38, .t 39]), .mk 10 false (some 45) none (.call 89 [.t 40, .t 44]), .mk 11 false (some 46) none (.bsl 3 1 1 (.val (.int .i64 0)) [(0, .t 45)]), .mk 12 false (some 47) none (.app 3 1 8 (.t 35) (.t 46)), .mk 13 false (some 7) none (.mv (.t 47))]))) (.lst [.mk 0 false (some 48) none (.bin .add (.t 31) (.c (.val (.int .i64 1)))), .mk 1 false (some 31) none (.mv (.t 48))]))))))) (.seq (.lst [.mk 0 false (some 49) none (.mv (.t 7)), .mk 1 false (some 50) none (.call 37 [.t 49]), .mk 2 false (some 10) none (.mv (.t 50))]) (.seq (.lst [.mk 0 false (some 51) none (.mv (.t 5)), .mk 1 false (some 52) none (.mksl 3 1 8 (.val (.int .i64 0)) (.t 51) (.t 51)), .mk 2 false (some 11) none (.mv (.t 52))]) (.seq (.seq (.lst [.mk 0 false (some 53) none (.mv (.t 1)), .mk 1 false (some 54) none (.len (.t 53)), .mk 2 false (some 55) none (.mv (.c (.val (.int .i64 0))))]) (.block 2 (.loop (.seq (.lst [.mk 0 false (some 56) none (.bin .lss (.t 55) (.t 54))]) (.seq (.cond (.t 56) .skip (.exit 2)) (.seq (.block 3 (.seq (.lst [.mk 0 false (some 57) none (.mv (.t 55)), .mk 1 false (some 58) none (.iadr 1 (.t 53) (.t 55)), .mk 2 false (some 59) none (.load false 1 (.t 58)), .mk 3 false (some 12) none (.mv (.t 57)), .mk 4 false (some 13) none (.mv (.t 59))]) (.seq (.flat [.mk 0 true (some 60) none (.fadr 9 (.t 2)), .mk 1 true (some 61) none (.load false 1 (.t 60)), .mk 2 true (some 62) none (.mv (.t 10)), .mk 3 true (some 63) none (.mv (.t 7)), .mk 4 true (some 64) none (.mv (.t 12)), .mk 5 true (some 65) none (.iadr 1 (.t 63) (.t 64)), .mk 6 true (some 66) none (.load false 1 (.t 65)), .mk 7 true (some 67) none (.bin .sub (.t 62) (.t 66)), .mk 10 true (some 70) none (.fadr 9 (.t 2)), .mk 11 true (some 71) none (.load false 1 (.t 70)), .mk 12 true (some 72) none (.len (.t 71)), .mk 13 true (some 73) none (.bin .sub (.t 72) (.c (.val (.int .i64 1)))), .mk 8 false (some 68) none (.call 88 [.t 67]), .mk 9 false (some 69) none (.mm true [.t 68, .c (.val (.int .i64 0))]), .mk 14 false (some 74) none (.mm false [.t 69, .t 73]), .mk 15 false (some 75) none (.iadr 1 (.t 61) (.t 74)), .mk 16 false (some 76) none (.load false 1 (.t 75)), .mk 17 false (some 14) none (.mv (.t 76))]) (.seq (.lst [.mk 0 false (some 77) none (.mv (.t 13)), .mk 1 false (some 78) none (.mv (.t 5)), .mk 2 false (some 79) none (.mv (.t 5)), .mk 3 false (some 80) none (.bin .mul (.c (.val (.int .i64 2))) (.t 79)), .mk 4 false (some 81) none (.sl 1 (.t 77) (some (.t 78)) (some (.t 80))), .mk 5 false (some 82) none (.len (.t 81)), .mk 6 false (some 83) none (.mv (.c (.val (.int .i64 0))))]) (.block 4 (.loop (.seq (.lst [.mk 0 false (some 84) none (.bin .lss (.t 83) (.t 82))]) (.seq (.cond (.t 84) .skip (.exit 4)) (.seq (.block 5 (.seq (.lst [.mk 0 false (some 85) none (.mv (.t 83)), .mk 1 false (some 86) none (.iadr 1 (.t 81) (.t 83)), .mk 2 false (some 87) none (.load false 1 (.t 86)), .mk 3 false (some 15) none (.mv (.t 85)), .mk 4 false (some 16) none (.mv (.t 87))]) (.tail [.mk 0 true (some 88) none (.mv (.t 11)), .mk 1 true (some 89) none (.mv (.t 15)), .mk 2 true (some 90) none (.mv (.t 11)), .mk 3 true (some 91) none (.mv (.t 15)), .mk 4 true (some 92) none (.iadr 1 (.t 90) (.t 91)), .mk 5 true (some 93) none (.load false 1 (.t 92)), .mk 6 true (some 94) none (.mv (.t 14)), .mk 7 true (some 95) none (.mv (.t 16)), .mk 8 true (some 96) none (.bin .mul (.t 94) (.t 95)), .mk 9 false (some 97) none (.call 88 [.t 96]), .mk 10 false (some 98) none (.bin .add (.t 93) (.t 97)), .mk 11 false (some 99) none (.call 88 [.t 98]), .mk 12 true (some 100) none (.iadr 1 (.t 88) (.t 89))] [.mk 13 false none none (.store 1 (.t 100) (.t 99))]))) (.lst [.mk 0 false (some 101) none (.bin .add (.t 83) (.c (.val (.int .i64 1)))), .mk 1 false (some 83) none (.mv (.t 101))])))))))))) (.lst [.mk 0 false (some 102) none (.bin .add (.t 55) (.c (.val (.int .i64 1)))), .mk 1 false (some 55) none (.mv (.t 102))]))))))) (.seq (.seq (.lst [.mk 0 false (some 103) none (.mv (.t 11)), .mk 1 false (some 104) none (.len (.t 103)), .mk 2 false (some 105) none (.mv (.c (.val (.int .i64 0))))]) (.block 6 (.loop (.seq (.lst [.mk 0 false (some 106) none (.bin .lss (.t 105) (.t 104))]) (.seq (.cond (.t 106) .skip (.exit 6)) (.seq (.block 7 (.seq (.lst [.mk 0 false (some 107) none (.mv (.t 105)), .mk 1 false (some 17) none (.mv (.t 107))]) (.tail [.mk 0 true (some 108) none (.mv (.t 11)), .mk 1 true (some 109) none (.mv (.t 17)), .mk 2 true (some 110) none (.mv (.t 11)), .mk 3 true (some 111) none (.mv (.t 17)), .mk 4 true (some 112) none (.iadr 1 (.t 110) (.t 111)), .mk 5 true (some 113) none (.load false 1 (.t 112)), .mk 6 true (some 114) none (.fadr 4 (.t 2)), .mk 7 true (some 115) none (.load false 1 (.t 114)), .mk 8 true (some 116) none (.iadr 1 (.t 115) (.c (.val (.int .i64 2)))), .mk 9 true (some 117) none (.load false 1 (.t 116)), .mk 10 false (some 118) none (.call 89 [.t 113, .t 117]), .mk 11 true (some 119) none (.iadr 1 (.t 108) (.t 109))] [.mk 12 false none none (.store 1 (.t 119) (.t 118))]))) (.lst [.mk 0 false (some 120) none (.bin .add (.t 105) (.c (.val (.int .i64 1)))), .mk 1 false (some 105) none (.mv (.t 120))]))))))) (.seq (.lst [.mk 0 false (some 121) none (.mv (.t 11)), .mk 1 false (some 4) none (.mv (.t 121))]) .ret)))))))))) [.t 4]
theorem c_attend : compF Tryz.prog 108 = some F_attend := by kernel_rfl
def F_cell : FnM := FnM.mk 60 (.seq (.lst [.mk 0 false (some 2) none (.box 27 (.t 0)), .mk 1 false (some 4) none (.mv (.c (.lst true [])))]) (.seq (.lst [.mk 0 false (some 12) none (.fadr 2 (.t 2)), .mk 1 false (some 13) none (.load false 1 (.t 12)), .mk 2 false (some 5) none (.mv (.t 13))]) (.seq (.lst [.mk 0 false (some 14) none (.mv (.t 5)), .mk 1 false (some 15) none (.mksl 3 1 8 (.val (.int .i64 0)) (.t 14) (.t 14)), .mk 2 false (some 6) none (.mv (.t 15))]) (.seq (.seq (.lst [.mk 0 false (some 16) none (.mv (.t 1)), .mk 1 false (some 17) none (.len (.t 16)), .mk 2 false (some 18) none (.mv (.c (.val (.int .i64 0))))]) (.block 0 (.loop (.seq (.lst [.mk 0 false (some 19) none (.bin .lss (.t 18) (.t 17))]) (.seq (.cond (.t 19) .skip (.exit 0)) (.seq (.block 1 (.seq (.lst [.mk 0 false (some 20) none (.iadr 1 (.t 16) (.t 18)), .mk 1 false (some 21) none (.load false 1 (.t 20)), .mk 2 false (some 8) none (.mv (.t 21))]) (.seq (.lst [.mk 0 false (some 22) none (.mv (.t 5)), .mk 1 false (some 23) none (.mksl 3 1 8 (.val (.int .i64 0)) (.t 22) (.t 22)), .mk 2 false (some 9) none (.mv (.t 23))]) (.seq (.seq (.lst [.mk 0 false (some 24) none (.mv (.t 9)), .mk 1 false (some 25) none (.len (.t 24)), .mk 2 false (some 26) none (.mv (.c (.val (.int .i64 0))))]) (.block 2 (.loop (.seq (.lst [.mk 0 false (some 27) none (.bin .lss (.t 26) (.t 25))]) (.seq (.cond (.t 27) .skip (.exit 2)) (.seq (.block 3 (.seq (.lst [.mk 0 false (some 28) none (.mv (.t 26)), .mk 1 false (some 10) none (.mv (.t 28))]) (.seq (.flat [.mk 0 true (some 29) none (.load true 11 (.t 2)), .mk 2 true (some 31) none (.mv (.t 10)), .mk 3 true (some 32) none (.mv (.t 5)), .mk 5 true (some 34) none (.mv (.t 6)), .mk 7 true (some 36) none (.load true 11 (.t 2)), .mk 9 true (some 38) none (.mv (.t 10)), .mk 10 true (some 39) none (.mv (.t 5)), .mk 12 true (some 41) none (.mv (.t 8)), .mk 1 false (some 30) none (.call 91 [.t 29, .c (.val (.int .i64 0))]), .mk 4 false (some 33) none (.call 86 [.t 30, .t 31, .t 32]), .mk 6 false (some 35) none (.call 90 [.t 33, .t 34]), .mk 8 false (some 37) none (.call 91 [.t 36, .c (.val (.int .i64 1))]), .mk 11 false (some 40) none (.call 86 [.t 37, .t 38, .t 39]), .mk 13 false (some 42) none (.call 90 [.t 40, .t 41]), .mk 14 false (some 43) none (.bin .add (.t 35) (.t 42)), .mk 15 false (some 44) none (.call 88 [.t 43]), .mk 16 false (some 11) none (.mv (.t 44))]) (.lst [.mk 0 false (some 45) none (.mv (.t 9)), .mk 1 false (some 46) none (.mv (.t 10)), .mk 2 false (some 47) none (.mv (.t 11)), .mk 3 false (some 48) none (.fadr 4 (.t 2)), .mk 4 false (some 49) none (.load false 1 (.t 48)), .mk 5 false (some 50) none (.iadr 1 (.t 49) (.c (.val (.int .i64 1)))), .mk 6 false (some 51) none (.load false 1 (.t 50)), .mk 7 false (some 52) none (.call 89 [.t 47, .t 51]), .mk 8 false (some 53) none (.mm true [.t 52, .c (.val (.int .i64 (-1000)))]), .mk 9 false (some 54) none (.mm false [.t 53, .c (.val (.int .i64 1000))]), .mk 10 false (some 55) none (.iadr 1 (.t 45) (.t 46)), .mk 11 false none none (.store 1 (.t 55) (.t 54))])))) (.lst [.mk 0 false (some 56) none (.bin .add (.t 26) (.c (.val (.int .i64 1)))), .mk 1 false (some 26) none (.mv (.t 56))]))))))) (.lst [.mk 0 false (some 57) none (.mv (.t 9)), .mk 1 false (some 6) none (.mv (.t 57))]))))) (.lst [.mk 0 false (some 58) none (.bin .add (.t 18) (.c (.val (.int .i64 1)))), .mk 1 false (some 18) none (.mv (.t 58))]))))))) (.seq (.lst [.mk 0 false (some 59) none (.mv (.t 6)), .mk 1 false (some 4) none (.mv (.t 59))]) .ret))))) [.t 4]
theorem c_cell : compF Tryz.prog 109 = some F_cell := by kernel_rfl
def F_conv : FnM := FnM.mk 66 (.seq (.lst [.mk 0 false (some 2) none (.box 27 (.t 0)), .mk 1 false (some 4) none (.mv (.c (.lst true [])))]) (.seq (.lst [.mk 0 false (some 12) none (.fadr 2 (.t 2)), .mk 1 false (some 13) none (.load false 1 (.t 12)), .mk 2 false (some 5) none (.mv (.t 13))]) (.seq (.lst [.mk 0 false (some 14) none (.fadr 7 (.t 2)), .mk 1 false (some 15) none (.load false 1 (.t 14)), .mk 2 false (some 16) none (.mv (.t 5)), .mk 3 false (some 17) none (.mv (.t 5)), .mk 4 false (some 18) none (.bin .mul (.t 16) (.t 17)), .mk 5 false (some 19) none (.call 87 [.t 15, .t 18]), .mk 6 false (some 6) none (.mv (.t 19))]) (.seq (.lst [.mk 0 false (some 20) none (.mv (.t 5)), .mk 1 false (some 21) none (.mksl 3 1 8 (.val (.int .i64 0)) (.t 20) (.t 20)), .mk 2 false (some 7) none (.mv (.t 21))]) (.seq (.seq (.lst [.mk 0 false (some 22) none (.mv (.t 7)), .mk 1 false (some 23) none (.len (.t 22)), .mk 2 false (some 24) none (.mv (.c (.val (.int .i64 0))))]) (.block 0 (.loop (.seq (.lst [.mk 0 false (some 25) none (.bin .lss (.t 24) (.t 23))]) (.seq (.cond (.t 25) .skip (.exit 0)) (.seq (.block 1 (.seq (.lst [.mk 0 false (some 26) none (.mv (.t 24)), .mk 1 false (some 8) none (.mv (.t 26))]) (.seq (.lst [.mk 0 false (some 9) none (.mv (.c (.val (.int .i64 0))))]) (.seq (.seq (.lst [.mk 0 false (some 27) none (.mv (.t 6)), .mk 1 false (some 28) none (.mv (.c (.val (.int .i64 0))))]) (.block 2 (.loop (.seq (.lst [.mk 0 false (some 29) none (.bin .lss (.t 28) (.t 27))]) (.seq (.cond (.t 29) .skip (.exit 2)) (.seq (.block 3 (.seq (.lst [.mk 0 false (some 30) none (.mv (.t 28)), .mk 1 false (some 10) none (.mv (.t 30))]) (.seq (.lst [.mk 0 false (some 31) none (.mv (.t 1)), .mk 1 false (some 32) none (.len (.t 31)), .mk 2 false (some 33) none (.mv (.t 6)), .mk 3 false (some 34) none (.bin .sub (.t 32) (.t 33)), .mk 4 false (some 35) none (.mv (.t 10)), .mk 5 false (some 36) none (.bin .add (.t 34) (.t 35)), .mk 6 false (some 11) none (.mv (.t 36))]) (.seq (.lst [.mk 0 false (some 37) none (.mv (.t 11)), .mk 1 false (some 38) none (.bin .geq (.t 37) (.c (.val (.int .i64 0))))]) (.cond (.t 38) (.flat [.mk 0 true (some 39) none (.mv (.t 9)), .mk 1 true (some 40) none (.load true 11 (.t 2)), .mk 2 true (some 41) none (.mv (.t 10)), .mk 4 true (some 43) none (.mv (.t 8)), .mk 5 true (some 44) none (.mv (.t 5)), .mk 7 true (some 46) none (.mv (.t 1)), .mk 8 true (some 47) none (.mv (.t 11)), .mk 9 true (some 48) none (.iadr 1 (.t 46) (.t 47)), .mk 10 true (some 49) none (.load false 1 (.t 48)), .mk 3 false (some 42) none (.call 91 [.t 40, .t 41]), .mk 6 false (some 45) none (.call 86 [.t 42, .t 43, .t 44]), .mk 11 false (some 50) none (.call 90 [.t 45, .t 49]), .mk 12 false (some 51) none (.bin .add (.t 39) (.t 50)), .mk 13 false (some 52) none (.call 88 [.t 51]), .mk 14 false (some 9) none (.mv (.t 52))]) .skip))))) (.lst [.mk 0 false (some 53) none (.bin .add (.t 28) (.c (.val (.int .i64 1)))), .mk 1 false (some 28) none (.mv (.t 53))]))))))) (.lst [.mk 0 false (some 54) none (.mv (.t 7)), .mk 1 false (some 55) none (.mv (.t 8)), .mk 2 false (some 56) none (.mv (.t 9)), .mk 3 false (some 57) none (.fadr 4 (.t 2)), .mk 4 false (some 58) none (.load false 1 (.t 57)), .mk 5 false (some 59) none (.iadr 1 (.t 58) (.c (.val (.int .i64 1)))), .mk 6 false (some 60) none (.load false 1 (.t 59)), .mk 7 false (some 61) none (.call 89 [.t 56, .t 60]), .mk 8 false (some 62) none (.mm true [.t 61, .c (.val (.int .i64 0))]), .mk 9 false (some 63) none (.iadr 1 (.t 54) (.t 55)), .mk 10 false none none (.store 1 (.t 63) (.t 62))]))))) (.lst [.mk 0 false (some 64) none (.bin .add (.t 24) (.c (.val (.int .i64 1)))), .mk 1 false (some 24) none (.mv (.t 64))]))))))) (.seq (.lst [.mk 0 false (some 65) none (.mv (.t 7)), .mk 1 false (some 4) none (.mv (.t 65))]) .ret)))))) [.t 4]
theorem c_conv : compF Tryz.prog 110 = some F_conv := by kernel_rfl
def F_refScores : FnM := FnM.mk 26 (.seq (.lst [.mk 0 false (some 2) none (.box 27 (.t 0)), .mk 1 false (some 4) none (.mv (.c (.lst true [])))]) (.seq (.lst [.mk 0 false (some 8) none (.load true 11 (.t 2)), .mk 1 false (some 9) none (.mv (.t 1)), .mk 2 false (some 10) none (.call 46 [.t 8, .t 9]), .mk 3 false (some 5) none (.mv (.t 10))]) (.seq (.lst [.mk 0 false (some 6) none (.mv (.c (.lst true [])))]) (.seq (.seq (.lst [.mk 0 false (some 11) none (.fadr 1 (.t 2)), .mk 1 false (some 12) none (.load false 1 (.t 11)), .mk 2 false (some 13) none (.mv (.c (.val (.int .i64 0))))]) (.block 0 (.loop (.seq (.lst [.mk 0 false (some 14) none (.bin .lss (.t 13) (.t 12))]) (.seq (.cond (.t 14) .skip (.exit 0)) (.seq (.block 1 (.seq (.lst [.mk 0 false (some 15) none (.mv (.t 13)), .mk 1 false (some 7) none (.mv (.t 15))]) (.lst [.mk 0 false (some 16) none (.mv (.t 6)), .mk 1 false (some 17) none (.fadr 8 (.t 2)), .mk 2 false (some 18) none (.load false 1 (.t 17)), .mk 3 false (some 19) none (.mv (.t 7)), .mk 4 false (some 20) none (.mv (.t 5)), .mk 5 false (some 21) none (.call 47 [.t 18, .t 19, .t 20]), .mk 6 false (some 22) none (.bsl 3 1 1 (.val (.int .i64 0)) [(0, .t 21)]), .mk 7 false (some 23) none (.app 3 1 8 (.t 16) (.t 22)), .mk 8 false (some 6) none (.mv (.t 23))]))) (.lst [.mk 0 false (some 24) none (.bin .add (.t 13) (.c (.val (.int .i64 1)))), .mk 1 false (some 13) none (.mv (.t 24))]))))))) (.seq (.lst [.mk 0 false (some 25) none (.mv (.t 6)), .mk 1 false (some 4) none (.mv (.t 25))]) .ret))))) [.t 4]
theorem c_refScores : compF Tryz.prog 20 = some F_refScores := by kernel_rfl
def F_hidden : FnM := FnM.mk 111 (.seq (.lst [.mk 0 false (some 2) none (.box 27 (.t 0)), .mk 1 false (some 4) none (.mv (.c (.lst true [])))]) (.seq (.lst [.mk 0 false (some 17) none (.fadr 2 (.t 2)), .mk 1 false (some 18) none (.load false 1 (.t 17)), .mk 2 false (some 5) none (.alloc 3 (.val (.int .i64 0))), .mk 3 false none none (.store 1 (.t 5) (.t 18))]) (.seq (.lst [.mk 0 false (some 19) none (.mkfn 80 [.t 2, .t 5]), .mk 1 false (some 6) none (.mv (.t 19))]) (.seq (.lst [.mk 0 false (some 20) none (.load false 1 (.t 5)), .mk 1 false (some 21) none (.mksl 3 1 8 (.val (.int .i64 0)) (.t 20) (.t 20)), .mk 2 false (some 7) none (.mv (.t 21))]) (.seq (.seq (.lst [.mk 0 false (some 22) none (.fadr 0 (.t 2)), .mk 1 false (some 23) none (.load false 1 (.t 22))]) (.block 0 (.seq (.lst [.mk 0 false (some 25) none (.bin .eql (.t 23) (.c (.val (.int .i64 1)))), .mk 1 false (some 24) none (.mv (.t 25))]) (.cond (.t 24) (.seq (.lst [.mk 0 false (some 26) none (.load true 11 (.t 2)), .mk 1 false (some 27) none (.mv (.t 1)), .mk 2 false (some 28) none (.call 81 [.t 26, .t 27]), .mk 3 false (some 4) none (.mv (.t 28))]) .ret) (.seq (.lst [.mk 0 false (some 30) none (.bin .eql (.t 23) (.c (.val (.int .i64 2)))), .mk 1 false (some 29) none (.mv (.t 30))]) (.cond (.t 29) (.seq (.seq (.lst [.mk 0 false (some 31) none (.mv (.t 1)), .mk 1 false (some 32) none (.len (.t 31)), .mk 2 false (some 33) none (.mv (.c (.val (.int .i64 0))))]) (.block 1 (.loop (.seq (.lst [.mk 0 false (some 34) none (.bin .lss (.t 33) (.t 32))]) (.seq (.cond (.t 34) .skip (.exit 1)) (.seq (.block 2 (.seq (.lst [.mk 0 false (some 35) none (.iadr 1 (.t 31) (.t 33)), .mk 1 false (some 36) none (.load false 1 (.t 35)), .mk 2 false (some 9) none (.mv (.t 36))]) (.seq (.lst [.mk 0 false (some 37) none (.load false 1 (.t 5)), .mk 1 false (some 38) none (.mksl 3 1 8 (.val (.int .i64 0)) (.t 37) (.t 37)), .mk 2 false (some 10) none (.mv (.t 38))]) (.seq (.seq (.lst [.mk 0 false (some 39) none (.load false 1 (.t 5)), .mk 1 false (some 40) none (.mv (.c (.val (.int .i64 0))))]) (.block 3 (.loop (.seq (.lst [.mk 0 false (some 41) none (.bin .lss (.t 40) (.t 39))]) (.seq (.cond (.t 41) .skip (.exit 3)) (.seq (.block 4 (.seq (.lst [.mk 0 false (some 42) none (.mv (.t 40)), .mk 1 false (some 11) none (.mv (.t 42))]) (.tail [.mk 0 true (some 43) none (.mv (.t 10)), .mk 1 true (some 44) none (.mv (.t 11)), .mk 2 true (some 45) none (.mv (.t 6)), .mk 4 true (some 47) none (.mv (.t 11)), .mk 5 true (some 48) none (.mv (.t 7)), .mk 7 true (some 50) none (.mv (.t 6)), .mk 9 true (some 52) none (.mv (.t 11)), .mk 10 true (some 53) none (.mv (.t 9)), .mk 14 true (some 57) none (.fadr 4 (.t 2)), .mk 15 true (some 58) none (.load false 1 (.t 57)), .mk 16 true (some 59) none (.iadr 1 (.t 58) (.c (.val (.int .i64 1)))), .mk 17 true (some 60) none (.load false 1 (.t 59)), .mk 3 false (some 46) none (.callv (.t 45) [.c (.val (.int .i64 0))]), .mk 6 false (some 49) none (.call 47 [.t 46, .t 47, .t 48]), .mk 8 false (some 51) none (.callv (.t 50) [.c (.val (.int .i64 1))]), .mk 11 false (some 54) none (.call 47 [.t 51, .t 52, .t 53]), .mk 12 false (some 55) none (.bin .add (.t 49) (.t 54)), .mk 13 false (some 56) none (.call 84 [.t 55]), .mk 18 false (some 61) none (.call 83 [.t 56, .t 60]), .mk 19 false (some 62) none (.call 82 [.t 61, .c (.val (.int .i64 (-1000))), .c (.val (.int .i64 1000))]), .mk 20 true (some 63) none (.iadr 1 (.t 43) (.t 44))] [.mk 21 false none none (.store 1 (.t 63) (.t 62))]))) (.lst [.mk 0 false (some 64) none (.bin .add (.t 40) (.c (.val (.int .i64 1)))), .mk 1 false (some 40) none (.mv (.t 64))]))))))) (.lst [.mk 0 false (some 65) none (.mv (.t 10)), .mk 1 false (some 7) none (.mv (.t 65))]))))) (.lst [.mk 0 false (some 66) none (.bin .add (.t 33) (.c (.val (.int .i64 1)))), .mk 1 false (some 33) none (.mv (.t 66))]))))))) (.seq (.lst [.mk 0 false (some 67) none (.mv (.t 7)), .mk 1 false (some 4) none (.mv (.t 67))]) .ret)) .skip)))))) (.seq (.lst [.mk 0 false (some 68) none (.load true 11 (.t 2)), .mk 1 false (some 69) none (.call 52 [.t 68]), .mk 2 false (some 12) none (.mv (.t 69))]) (.seq (.seq (.lst [.mk 0 false (some 70) none (.load false 1 (.t 5)), .mk 1 false (some 71) none (.mv (.c (.val (.int .i64 0))))]) (.block 5 (.loop (.seq (.lst [.mk 0 false (some 72) none (.bin .lss (.t 71) (.t 70))]) (.seq (.cond (.t 72) .skip (.exit 5)) (.seq (.block 6 (.seq (.lst [.mk 0 false (some 73) none (.mv (.t 71)), .mk 1 false (some 13) none (.mv (.t 73))]) (.seq (.lst [.mk 0 false (some 14) none (.mv (.c (.val (.int .i64 0))))]) (.seq (.seq (.lst [.mk 0 false (some 74) none (.mv (.t 12)), .mk 1 false (some 75) none (.mv (.c (.val (.int .i64 0))))]) (.block 7 (.loop (.seq (.lst [.mk 0 false (some 76) none (.bin .lss (.t 75) (.t 74))]) (.seq (.cond (.t 76) .skip (.exit 7)) (.seq (.block 8 (.seq (.lst [.mk 0 false (some 77) none (.mv (.t 75)), .mk 1 false (some 15) none (.mv (.t 77))]) (.seq (.lst [.mk 0 false (some 78) none (.mv (.t 1)), .mk 1 false (some 79) none (.len (.t 78)), .mk 2 false (some 80) none (.mv (.t 12)), .mk 3 false (some 81) none (.bin .sub (.t 79) (.t 80)), .mk 4 false (some 82) none (.mv (.t 15)), .mk 5 false (some 83) none (.bin .add (.t 81) (.t 82)), .mk 6 false (some 16) none (.mv (.t 83))]) (.seq (.lst [.mk 0 false (some 84) none (.mv (.t 16)), .mk 1 false (some 85) none (.bin .geq (.t 84) (.c (.val (.int .i64 0))))]) (.cond (.t 85) (.flat [.mk 0 true (some 86) none (.mv (.t 14)), .mk 1 true (some 87) none (.mv (.t 6)), .mk 2 true (some 88) none (.mv (.t 15)), .mk 4 true (some 90) none (.mv (.t 13)), .mk 5 true (some 91) none (.mv (.t 1)), .mk 6 true (some 92) none (.mv (.t 16)), .mk 7 true (some 93) none (.iadr 1 (.t 91) (.t 92)), .mk 8 true (some 94) none (.load false 1 (.t 93)), .mk 3 false (some 89) none (.callv (.t 87) [.t 88]), .mk 9 false (some 95) none (.call 47 [.t 89, .t 90, .t 94]), .mk 10 false (some 96) none (.bin .add (.t 86) (.t 95)), .mk 11 false (some 97) none (.call 84 [.t 96]), .mk 12 false (some 14) none (.mv (.t 97))]) .skip))))) (.lst [.mk 0 false (some 98) none (.bin .add (.t 75) (.c (.val (.int .i64 1)))), .mk 1 false (some 75) none (.mv (.t 98))]))))))) (.lst [.mk 0 false (some 99) none (.mv (.t 7)), .mk 1 false (some 100) none (.mv (.t 13)), .mk 2 false (some 101) none (.mv (.t 14)), .mk 3 false (some 102) none (.fadr 4 (.t 2)), .mk 4 false (some 103) none (.load false 1 (.t 102)), .mk 5 false (some 104) none (.iadr 1 (.t 103) (.c (.val (.int .i64 1)))), .mk 6 false (some 105) none (.load false 1 (.t 104)), .mk 7 false (some 106) none (.call 83 [.t 101, .t 105]), .mk 8 false (some 107) none (.mm true [.t 106, .c (.val (.int .i64 0))]), .mk 9 false (some 108) none (.iadr 1 (.t 99) (.t 100)), .mk 10 false none none (.store 1 (.t 108) (.t 107))]))))) (.lst [.mk 0 false (some 109) none (.bin .add (.t 71) (.c (.val (.int .i64 1)))), .mk 1 false (some 71) none (.mv (.t 109))]))))))) (.seq (.lst [.mk 0 false (some 110) none (.mv (.t 7)), .mk 1 false (some 4) none (.mv (.t 110))]) .ret)))))))) [.t 4]
theorem c_hidden : compF Tryz.prog 46 = some F_hidden := by kernel_rfl
def F_hidden1 : FnM := FnM.mk 19 (.seq (.lst [.mk 0 false (some 4) none (.mv (.c (.lst true [])))]) (.seq (.lst [.mk 0 false (some 5) none (.fadr 7 (.t 1)), .mk 1 false (some 6) none (.load false 1 (.t 5)), .mk 2 false (some 7) none (.mv (.t 0)), .mk 3 false (some 8) none (.load false 1 (.t 2)), .mk 4 false (some 9) none (.bin .mul (.t 7) (.t 8)), .mk 5 false (some 10) none (.load false 1 (.t 2)), .mk 6 false (some 11) none (.bin .mul (.t 9) (.t 10)), .mk 7 false (some 12) none (.mv (.t 0)), .mk 8 false (some 13) none (.bin .add (.t 12) (.c (.val (.int .i64 1)))), .mk 9 false (some 14) none (.load false 1 (.t 2)), .mk 10 false (some 15) none (.bin .mul (.t 13) (.t 14)), .mk 11 false (some 16) none (.load false 1 (.t 2)), .mk 12 false (some 17) none (.bin .mul (.t 15) (.t 16)), .mk 13 false (some 18) none (.sl 1 (.t 6) (some (.t 11)) (some (.t 17))), .mk 14 false (some 4) none (.mv (.t 18))]) .ret)) [.t 4]
theorem c_hidden1 : compF Tryz.prog 80 = some F_hidden1 := by kernel_rfl
def F_attended : FnM := FnM.mk 118 (.seq (.lst [.mk 0 false (some 2) none (.box 27 (.t 0)), .mk 1 false (some 4) none (.mv (.c (.lst true [])))]) (.seq (.lst [.mk 0 false (some 17) none (.fadr 2 (.t 2)), .mk 1 false (some 18) none (.load false 1 (.t 17)), .mk 2 false (some 5) none (.mv (.t 18))]) (.seq (.lst [.mk 0 false (some 19) none (.mv (.t 1)), .mk 1 false (some 20) none (.mv (.t 1)), .mk 2 false (some 21) none (.len (.t 20)), .mk 3 false (some 22) none (.bin .sub (.t 21) (.c (.val (.int .i64 1)))), .mk 4 false (some 23) none (.iadr 1 (.t 19) (.t 22)), .mk 5 false (some 24) none (.load false 1 (.t 23)), .mk 6 false (some 25) none (.mv (.t 5)), .mk 7 false (some 26) none (.bin .mul (.c (.val (.int .i64 2))) (.t 25)), .mk 8 false (some 27) none (.sl 1 (.t 24) (some (.t 26)) none), .mk 9 false (some 6) none (.mv (.t 27))]) (.seq (.lst [.mk 0 false (some 7) none (.mv (.c (.lst true [])))]) (.seq (.seq (.lst [.mk 0 false (some 28) none (.mv (.t 1)), .mk 1 false (some 29) none (.len (.t 28)), .mk 2 false (some 30) none (.mv (.c (.val (.int .i64 0))))]) (.block 0 (.loop (.seq (.lst [.mk 0 false (some 31) none (.bin .lss (.t 30) (.t 29))]) (.seq (.cond (.t 31) .skip (.exit 0)) (.seq (.block 1 (.seq (.lst [.mk 0 false (some 32) none (.iadr 1 (.t 28) (.t 30)), .mk 1 false (some 33) none (.load false 1 (.t 32)), .mk 2 false (some 9) none (.mv (.t 33))]) (.flat [.mk 0 true (some 34) none (.mv (.t 7)), .mk 1 true (some 35) none (.mv (.t 9)), .mk 2 true (some 36) none (.mv (.t 5)), .mk 3 true (some 37) none (.sl 1 (.t 35) none (some (.t 36))), .mk 4 true (some 38) none (.mv (.t 6)), .mk 6 true (some 40) none (.fadr 4 (.t 2)), .mk 7 true (some 41) none (.load false 1 (.t 40)), .mk 8 true (some 42) none (.iadr 1 (.t 41) (.c (.val (.int .i64 1)))), .mk 9 true (some 43) none (.load false 1 (.t 42)), .mk 5 false (some 39) none (.call 47 [.t 37, .c (.val (.int .i64 0)), .t 38]), .mk 10 false (some 44) none (.call 83 [.t 39, .t 43]), .mk 11 false (some 45) none (.bsl 3 1 1 (.val (.int .i64 0)) [(0, .t 44)]), .mk 12 false (some 46) none (.app 3 1 8 (.t 34) (.t 45)), .mk 13 false (some 7) none (.mv (.t 46))]))) (.lst [.mk 0 false (some 47) none (.bin .add (.t 30) (.c (.val (.int .i64 1)))), .mk 1 false (some 30) none (.mv (.t 47))]))))))) (.seq (.lst [.mk 0 false (some 48) none (.mv (.t 7)), .mk 1 false (some 49) none (.call 37 [.t 48]), .mk 2 false (some 10) none (.mv (.t 49))]) (.seq (.lst [.mk 0 false (some 50) none (.mv (.t 5)), .mk 1 false (some 51) none (.mksl 3 1 8 (.val (.int .i64 0)) (.t 50) (.t 50)), .mk 2 false (some 11) none (.mv (.t 51))]) (.seq (.seq (.lst [.mk 0 false (some 52) none (.mv (.t 1)), .mk 1 false (some 53) none (.len (.t 52)), .mk 2 false (some 54) none (.mv (.c (.val (.int .i64 0))))]) (.block 2 (.loop (.seq (.lst [.mk 0 false (some 55) none (.bin .lss (.t 54) (.t 53))]) (.seq (.cond (.t 55) .skip (.exit 2)) (.seq (.block 3 (.seq (.lst [.mk 0 false (some 56) none (.mv (.t 54)), .mk 1 false (some 57) none (.iadr 1 (.t 52) (.t 54)), .mk 2 false (some 58) none (.load false 1 (.t 57)), .mk 3 false (some 12) none (.mv (.t 56)), .mk 4 false (some 13) none (.mv (.t 58))]) (.seq (.flat [.mk 0 true (some 59) none (.fadr 9 (.t 2)), .mk 1 true (some 60) none (.load false 1 (.t 59)), .mk 2 true (some 61) none (.mv (.t 10)), .mk 3 true (some 62) none (.mv (.t 7)), .mk 4 true (some 63) none (.mv (.t 12)), .mk 5 true (some 64) none (.iadr 1 (.t 62) (.t 63)), .mk 6 true (some 65) none (.load false 1 (.t 64)), .mk 7 true (some 66) none (.bin .sub (.t 61) (.t 65)), .mk 9 true (some 68) none (.fadr 9 (.t 2)), .mk 10 true (some 69) none (.load false 1 (.t 68)), .mk 11 true (some 70) none (.len (.t 69)), .mk 12 true (some 71) none (.bin .sub (.t 70) (.c (.val (.int .i64 1)))), .mk 8 false (some 67) none (.call 84 [.t 66]), .mk 13 false (some 72) none (.call 82 [.t 67, .c (.val (.int .i64 0)), .t 71]), .mk 14 false (some 73) none (.iadr 1 (.t 60) (.t 72)), .mk 15 false (some 74) none (.load false 1 (.t 73)), .mk 16 false (some 14) none (.mv (.t 74))]) (.seq (.lst [.mk 0 false (some 75) none (.mv (.t 5)), .mk 1 false (some 76) none (.mv (.c (.val (.int .i64 0))))]) (.block 4 (.loop (.seq (.lst [.mk 0 false (some 77) none (.bin .lss (.t 76) (.t 75))]) (.seq (.cond (.t 77) .skip (.exit 4)) (.seq (.block 5 (.seq (.lst [.mk 0 false (some 78) none (.mv (.t 76)), .mk 1 false (some 15) none (.mv (.t 78))]) (.tail [.mk 0 true (some 79) none (.mv (.t 11)), .mk 1 true (some 80) none (.mv (.t 15)), .mk 2 true (some 81) none (.mv (.t 11)), .mk 3 true (some 82) none (.mv (.t 15)), .mk 4 true (some 83) none (.iadr 1 (.t 81) (.t 82)), .mk 5 true (some 84) none (.load false 1 (.t 83)), .mk 6 true (some 85) none (.mv (.t 14)), .mk 7 true (some 86) none (.mv (.t 13)), .mk 8 true (some 87) none (.mv (.t 5)), .mk 9 true (some 88) none (.mv (.t 15)), .mk 10 true (some 89) none (.bin .add (.t 87) (.t 88)), .mk 11 true (some 90) none (.iadr 1 (.t 86) (.t 89)), .mk 12 true (some 91) none (.load false 1 (.t 90)), .mk 13 true (some 92) none (.bin .mul (.t 85) (.t 91)), .mk 14 false (some 93) none (.call 84 [.t 92]), .mk 15 false (some 94) none (.bin .add (.t 84) (.t 93)), .mk 16 false (some 95) none (.call 84 [.t 94]), .mk 17 true (some 96) none (.iadr 1 (.t 79) (.t 80))] [.mk 18 false none none (.store 1 (.t 96) (.t 95))]))) (.lst [.mk 0 false (some 97) none (.bin .add (.t 76) (.c (.val (.int .i64 1)))), .mk 1 false (some 76) none (.mv (.t 97))])))))))))) (.lst [.mk 0 false (some 98) none (.bin .add (.t 54) (.c (.val (.int .i64 1)))), .mk 1 false (some 54) none (.mv (.t 98))]))))))) (.seq (.seq (.lst [.mk 0 false (some 99) none (.mv (.t 11)), .mk 1 false (some 100) none (.len (.t 99)), .mk 2 false (some 101) none (.mv (.c (.val (.int .i64 0))))]) (.block 6 (.loop (.seq (.lst [.mk 0 false (some 102) none (.bin .lss (.t 101) (.t 100))]) (.seq (.cond (.t 102) .skip (.exit 6)) (.seq (.block 7 (.seq (.lst [.mk 0 false (some 103) none (.mv (.t 101)), .mk 1 false (some 16) none (.mv (.t 103))]) (.tail [.mk 0 true (some 104) none (.mv (.t 11)), .mk 1 true (some 105) none (.mv (.t 16)), .mk 2 true (some 106) none (.mv (.t 11)), .mk 3 true (some 107) none (.mv (.t 16)), .mk 4 true (some 108) none (.iadr 1 (.t 106) (.t 107)), .mk 5 true (some 109) none (.load false 1 (.t 108)), .mk 6 true (some 110) none (.fadr 4 (.t 2)), .mk 7 true (some 111) none (.load false 1 (.t 110)), .mk 8 true (some 112) none (.iadr 1 (.t 111) (.c (.val (.int .i64 2)))), .mk 9 true (some 113) none (.load false 1 (.t 112)), .mk 10 false (some 114) none (.call 83 [.t 109, .t 113]), .mk 11 true (some 115) none (.iadr 1 (.t 104) (.t 105))] [.mk 12 false none none (.store 1 (.t 115) (.t 114))]))) (.lst [.mk 0 false (some 116) none (.bin .add (.t 101) (.c (.val (.int .i64 1)))), .mk 1 false (some 101) none (.mv (.t 116))]))))))) (.seq (.lst [.mk 0 false (some 117) none (.mv (.t 11)), .mk 1 false (some 4) none (.mv (.t 117))]) .ret)))))))))) [.t 4]
theorem c_attended : compF Tryz.prog 81 = some F_attended := by kernel_rfl
def F_rWithin : FnM := FnM.mk 12 (.seq (.lst [.mk 0 false (some 6) none (.mv (.c (.val (.int .i64 0))))]) (.seq (.lst [.mk 0 false (some 7) none (.mv (.t 1)), .mk 1 false (some 8) none (.mv (.t 0)), .mk 2 false (some 9) none (.mv (.t 2)), .mk 3 false (some 10) none (.mm false [.t 8, .t 9]), .mk 4 false (some 11) none (.mm true [.t 7, .t 10]), .mk 5 false (some 6) none (.mv (.t 11))]) .ret)) [.t 6]
theorem c_rWithin : compF Tryz.prog 82 = some F_rWithin := by kernel_rfl
def F_matrices : FnM := FnM.mk 52 (.seq (.lst [.mk 0 false (some 1) none (.box 27 (.t 0)), .mk 1 false (some 2) none (.mv (.c (.val (.int .i64 0))))]) (.seq (.lst [.mk 0 false (some 5) none (.fadr 7 (.t 1)), .mk 1 false (some 6) none (.load false 1 (.t 5)), .mk 2 false (some 7) none (.len (.t 6)), .mk 3 false (some 8) none (.fadr 2 (.t 1)), .mk 4 false (some 9) none (.load false 1 (.t 8)), .mk 5 false (some 10) none (.fadr 2 (.t 1)), .mk 6 false (some 11) none (.load false 1 (.t 10)), .mk 7 false (some 12) none (.bin .mul (.t 9) (.t 11)), .mk 8 false (some 13) none (.bin .quo (.t 7) (.t 12)), .mk 9 false (some 3) none (.mv (.t 13))]) (.seq (.lst [.mk 0 false (some 14) none (.fadr 7 (.t 1)), .mk 1 false (some 15) none (.load false 1 (.t 14)), .mk 2 false (some 16) none (.len (.t 15)), .mk 3 false (some 17) none (.fadr 2 (.t 1)), .mk 4 false (some 18) none (.load false 1 (.t 17)), .mk 5 false (some 19) none (.fadr 2 (.t 1)), .mk 6 false (some 20) none (.load false 1 (.t 19)), .mk 7 false (some 21) none (.bin .mul (.t 18) (.t 20)), .mk 8 false (some 22) none (.bin .rem (.t 16) (.t 21)), .mk 9 false (some 23) none (.bin .eql (.t 22) (.c (.val (.int .i64 0)))), .mk 10 false (some 4) none (.mv (.t 23))]) (.seq (.seq (.lst [.mk 0 false (some 24) none (.fadr 0 (.t 1)), .mk 1 false (some 25) none (.load false 1 (.t 24))]) (.block 0 (.seq (.lst [.mk 0 false (some 36) none (.bin .eql (.t 25) (.c (.val (.int .i64 1)))), .mk 1 false (some 35) none (.mv (.t 36))]) (.cond (.t 35) (.lst [.mk 0 false (some 37) none (.mv (.t 4)), .mk 1 false (some 38) none (.mv (.t 37)), .mk 2 false (some 39) (some (38, true)) (.mv (.t 3)), .mk 3 false (some 40) (some (38, true)) (.bin .eql (.t 39) (.c (.val (.int .i64 3)))), .mk 4 false (some 41) none (.pick (.t 38) (.t 40) (.c (.val (.bool false)))), .mk 5 false (some 4) none (.mv (.t 41))]) (.seq (.lst [.mk 0 false (some 43) none (.bin .eql (.t 25) (.c (.val (.int .i64 2)))), .mk 1 false (some 42) none (.mv (.t 43))]) (.cond (.t 42) (.lst [.mk 0 false (some 44) none (.mv (.t 4)), .mk 1 false (some 45) none (.mv (.t 44)), .mk 2 false (some 46) (some (45, true)) (.mv (.t 3)), .mk 3 false (some 47) (some (45, true)) (.bin .eql (.t 46) (.c (.val (.int .i64 2)))), .mk 4 false (some 48) none (.pick (.t 45) (.t 47) (.c (.val (.bool false)))), .mk 5 false (some 4) none (.mv (.t 48))]) (.lst [.mk 0 false (some 26) none (.mv (.t 4)), .mk 1 false (some 27) none (.mv (.t 26)), .mk 2 false (some 28) (some (27, true)) (.mv (.t 3)), .mk 3 false (some 29) (some (27, true)) (.bin .geq (.t 28) (.c (.val (.int .i64 1)))), .mk 4 false (some 30) none (.pick (.t 27) (.t 29) (.c (.val (.bool false)))), .mk 5 false (some 31) none (.mv (.t 30)), .mk 6 false (some 32) (some (31, true)) (.mv (.t 3)), .mk 7 false (some 33) (some (31, true)) (.bin .leq (.t 32) (.c (.val (.int .i64 4)))), .mk 8 false (some 34) none (.pick (.t 31) (.t 33) (.c (.val (.bool false)))), .mk 9 false (some 4) none (.mv (.t 34))]))))))) (.seq (.seq (.lst [.mk 0 false (some 49) none (.mv (.t 4)), .mk 1 false (some 50) none (.un .not (.t 49))]) (.cond (.t 50) (.seq (.lst [.mk 0 false (some 2) none (.mv (.c (.val (.int .i64 (-1)))))]) .ret) .skip)) (.seq (.lst [.mk 0 false (some 51) none (.mv (.t 3)), .mk 1 false (some 2) none (.mv (.t 51))]) .ret)))))) [.t 2]
theorem c_matrices : compF Tryz.prog 52 = some F_matrices := by kernel_rfl
def F_containsI : FnM := FnM.mk 9 (.seq (.lst [.mk 0 false (some 4) none (.mv (.c (.val (.bool false))))]) (.seq (.lst [.mk 0 false (some 5) none (.mv (.t 0)), .mk 1 false (some 6) none (.mv (.t 1)), .mk 2 false (some 7) none (.call 55 [.t 5, .t 6]), .mk 3 false (some 8) none (.bin .geq (.t 7) (.c (.val (.int .i64 0)))), .mk 4 false (some 4) none (.mv (.t 8))]) .ret)) [.t 4]
theorem c_containsI : compF Tryz.prog 24 = some F_containsI := by kernel_rfl
def F_indexI : FnM := FnM.mk 19 (.seq (.lst [.mk 0 false (some 4) none (.mv (.c (.val (.int .i64 0))))]) (.seq (.seq (.lst [.mk 0 false (some 6) none (.mv (.t 0)), .mk 1 false (some 7) none (.len (.t 6)), .mk 2 false (some 8) none (.mv (.c (.val (.int .i64 0))))]) (.block 0 (.loop (.seq (.lst [.mk 0 false (some 9) none (.bin .lss (.t 8) (.t 7))]) (.seq (.cond (.t 9) .skip (.exit 0)) (.seq (.block 1 (.seq (.lst [.mk 0 false (some 10) none (.mv (.t 8)), .mk 1 false (some 5) none (.mv (.t 10))]) (.seq (.lst [.mk 0 false (some 11) none (.mv (.t 1)), .mk 1 false (some 12) none (.mv (.t 0)), .mk 2 false (some 13) none (.mv (.t 5)), .mk 3 false (some 14) none (.iadr 1 (.t 12) (.t 13)), .mk 4 false (some 15) none (.load false 1 (.t 14)), .mk 5 false (some 16) none (.callv (.t 11) [.t 15])]) (.cond (.t 16) (.seq (.lst [.mk 0 false (some 17) none (.mv (.t 5)), .mk 1 false (some 4) none (.mv (.t 17))]) .ret) .skip)))) (.lst [.mk 0 false (some 18) none (.bin .add (.t 8) (.c (.val (.int .i64 1)))), .mk 1 false (some 8) none (.mv (.t 18))]))))))) (.seq (.lst [.mk 0 false (some 4) none (.mv (.c (.val (.int .i64 (-1)))))]) .ret))) [.t 4]
theorem c_indexI : compF Tryz.prog 55 = some F_indexI := by kernel_rfl
def F_maxI : FnM := FnM.mk 25 (.seq (.lst [.mk 0 false (some 2) none (.mv (.c (.val (.int .i64 0))))]) (.seq (.seq (.lst [.mk 0 false (some 5) none (.mv (.t 0)), .mk 1 false (some 6) none (.len (.t 5)), .mk 2 false (some 7) none (.bin .lss (.t 6) (.c (.val (.int .i64 1))))]) (.cond (.t 7) (.lst [.mk 0 false (some 8) none .bad, .mk 1 false none none .bad]) .skip)) (.seq (.lst [.mk 0 false (some 9) none (.mv (.t 0)), .mk 1 false (some 10) none (.iadr 1 (.t 9) (.c (.val (.int .i64 0)))), .mk 2 false (some 11) none (.load false 1 (.t 10)), .mk 3 false (some 3) none (.mv (.t 11))]) (.seq (.seq (.lst [.mk 0 false (some 4) none (.mv (.c (.val (.int .i64 1))))]) (.block 0 (.loop (.seq (.seq (.lst [.mk 0 false (some 12) none (.mv (.t 4)), .mk 1 false (some 13) none (.mv (.t 0)), .mk 2 false (some 14) none (.len (.t 13)), .mk 3 false (some 15) none (.bin .lss (.t 12) (.t 14))]) (.cond (.t 15) .skip (.exit 0))) (.seq (.block 1 (.lst [.mk 0 false (some 18) none (.mv (.t 3)), .mk 1 false (some 19) none (.mv (.t 0)), .mk 2 false (some 20) none (.mv (.t 4)), .mk 3 false (some 21) none (.iadr 1 (.t 19) (.t 20)), .mk 4 false (some 22) none (.load false 1 (.t 21)), .mk 5 false (some 23) none (.mm true [.t 18, .t 22]), .mk 6 false (some 3) none (.mv (.t 23))])) (.lst [.mk 0 false (some 16) none (.mv (.t 4)), .mk 1 false (some 17) none (.bin .add (.t 16) (.c (.val (.int .i64 1)))), .mk 2 false (some 4) none (.mv (.t 17))])))))) (.seq (.lst [.mk 0 false (some 24) none (.mv (.t 3)), .mk 1 false (some 2) none (.mv (.t 24))]) .ret))))) [.t 2]
theorem c_maxI : compF Tryz.prog 37 = some F_maxI := by kernel_rfl
end Go.Proofs.YtadkhechobeccaaGreatDoor.Vm
