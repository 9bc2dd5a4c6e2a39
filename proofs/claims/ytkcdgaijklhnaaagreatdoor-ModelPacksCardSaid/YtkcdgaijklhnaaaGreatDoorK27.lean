/-
  The reference's unpacker, run by the value machine.
  The reference's unpacker, run by the value machine: many, list.
  slices.Clone of bytes, run by the value machine.
  The reference reads a model from bytes, run by the value machine.
  A model read from bytes and checked, run by the value machine: the program's way and the reference's.
  Entries are checked and drawn, run by the value machine.
  A slice of ints that came in, read as a list.
-/
import Derived.Test.YtkcdgaijklhnaaaGreatDoorK26
import Derived.Test.YtkcdgaijklhnaaaGreatDoorK07
import Derived.Test.YtkcdgaijklhnaaaGreatDoorK09
import Derived.Test.YtkcdgaijklhnaaaGreatDoorK02
import Derived.OpenShut
import Derived.Carry
import Derived.ProofKit
namespace Go.Proofs.YtkcdgaijklhnaaaGreatDoor.Vm
open Go.RowKit
def urB (f : Bool) (l : List Int) (e : Int) : Blk := .row 134 2 [.agg [.lst f (bys l), I e]]
theorem wu64 {n : Int} (h1 : 0 ≤ n) (h2 : n < 18446744073709551616) : IntKind.u64.wrap n = n := by
  simp [IntKind.wrap, IntKind.signed, IntKind.bits]; omega
theorem oru64 {a d : Int} {j : Nat} (hj : j ≤ 4) (ha : 0 ≤ a ∧ a < 2 ^ (7 * j)) (hd : 0 ≤ d ∧ d < 128) : IntKind.u64.wrap (BitVec.ofInt IntKind.u64.bits a ||| BitVec.ofInt IntKind.u64.bits (d * 2 ^ (7 * j))).toNat = a + d * 2 ^ (7 * j) := by
  obtain ⟨h1, h2, h3⟩ := or64 hj ha hd
  have h := or_place hj ha hd
  have e : (BitVec.ofInt IntKind.u64.bits a ||| BitVec.ofInt IntKind.u64.bits (d * 2 ^ (7 * j))).toNat = (BitVec.ofInt IntKind.i64.bits a ||| BitVec.ofInt IntKind.i64.bits (d * 2 ^ (7 * j))).toNat := rfl
  have e2 : (BitVec.ofInt IntKind.i64.bits a ||| BitVec.ofInt IntKind.i64.bits (d * 2 ^ (7 * j))).toNat = a.toNat + d.toNat * 2 ^ (7 * j) := h
  have hp : (0 : Int) ≤ 2 ^ (7 * j) := Int.pow_nonneg (by omega)
  have hdp := Int.mul_nonneg hd.1 hp
  have e3 : (((a.toNat + d.toNat * 2 ^ (7 * j) : Nat)) : Int) = a + d * 2 ^ (7 * j) := by
    push_cast
    rw [Int.toNat_of_nonneg ha.1, Int.toNat_of_nonneg hd.1]
  rw [e, e2, e3]
  have : (2 : Int) ^ (7 * (j + 1)) ≤ 2 ^ 35 := by
    have q : (2 : Nat) ^ (7 * (j + 1)) ≤ 2 ^ 35 := Nat.pow_le_pow_right (by omega) (by omega)
    exact_mod_cast q
  have q35 : (2 : Int) ^ 35 = 34359738368 := by decide
  exact wu64 (by omega) (by omega)
section
variable {T : Tbl} {M : Nat → Bool} {st : St} {K : V → St → Prop} {Kp : List PanicEntry → St → Prop}
theorem unum_t {c X : Int} {k ub : Nat} {f : Bool} {r : List Int} (hc : 0 ≤ c ∧ c ≤ 255) (hx : 0 ≤ X ∧ X < 34359738368) (hk : k ≤ 4) (fr : Fr) (s : St) (Q : Post) (hb : s[ub]? = some (urB f r 0)) (z0 : fr.g 0 = .ptr ub 1 0 0) (z3 : fr.g 3 = .val (.int .u64 X)) (z4 : fr.g 4 = I k) (z5 : fr.g 5 = .val (.int .u8 c)) (hdf : fr.df = []) {M2 : Nat → Nat → Bool} (hM2 : ∀ j, M2 ub j = true)
    (hexit : ((k = 4 ∧ (¬ c < 128 ∨ ¬ X < 4294967296)) ∨ (c = 0 ∧ 0 < k)) → ∀ fr' : Fr, fr'.df = [] → Q (.exit 0) fr' (s.set ub (urB f r 3))) (hret : c < 128 → ¬ ((k = 4 ∧ (¬ c < 128 ∨ ¬ X < 4294967296)) ∨ (c = 0 ∧ 0 < k)) → ∀ fr' : Fr, fr'.g 2 = I (decU X) → fr'.df = [] → Q .ret fr' s) (hnorm : ¬ c < 128 → k ≠ 4 → ∀ fr' : Fr, fr'.g 3 = .val (.int .u64 X) → fr'.g 4 = I k → fr'.g 0 = .ptr ub 1 0 0 → fr'.df = [] → Q .normal fr' s) :
    wpM Tryz.prog T M2 F_unum.code.r.r.l.r.bb.bb.r.l.bb.r.r.r.r Q fr s := by
  have hb' := hb
  simp only [urB] at hb'
  have retc : c < 128 → ¬ ((k = 4 ∧ (¬ c < 128 ∨ ¬ X < 4294967296)) ∨ (c = 0 ∧ 0 < k)) → ∀ fr : Fr, fr.g 3 = .val (.int .u64 X) → fr.g 5 = .val (.int .u8 c) → fr.df = [] → wpM Tryz.prog T M2 F_unum.code.r.r.l.r.bb.bb.r.l.bb.r.r.r.r.r Q fr s := fun c1 c2 fr z3 z5 hdf => by
    have hm : (X.tmod 2 == 1) = decide (X % 2 = 1) := by rw [Int.tmod_eq_emod_of_nonneg hx.1]; rfl
    have hq : X.tdiv 2 = X / 2 := Int.tdiv_eq_ediv_of_nonneg hx.1
    have wq : IntKind.u64.wrap (X / 2) = X / 2 := wu64 (by omega) (by omega)
    have wq2 : IntKind.i64.wrap (X / 2) = X / 2 := w64 (by omega) (by omega)
    have wq3 : IntKind.i64.wrap (-(X / 2)) = -(X / 2) := w64 (by omega) (by omega)
    have wq4 : IntKind.i64.wrap (-(X / 2) - 1) = -(X / 2) - 1 := w64 (by omega) (by omega)
    by_cases ho : X % 2 = 1
    · simp [F_unum, MC.l, MC.r, MC.bb, z3, z5, c1, hm, hq, wq, wq2, wq3, wq4, ho]
      exact hret c1 c2 _ (by simp [decU, ho]) (by simp [hdf])
    · simp [F_unum, MC.l, MC.r, MC.bb, z3, z5, c1, hm, hq, wq, wq2, ho]
      exact hret c1 c2 _ (by simp [decU, ho]) (by simp [hdf])
  have norc : ¬ c < 128 → k ≠ 4 → ∀ fr : Fr, fr.g 3 = .val (.int .u64 X) → fr.g 4 = I k → fr.g 0 = .ptr ub 1 0 0 → fr.g 5 = .val (.int .u8 c) → fr.df = [] → wpM Tryz.prog T M2 F_unum.code.r.r.l.r.bb.bb.r.l.bb.r.r.r.r.r Q fr s := fun c1 c2 fr z3 z4 z0 z5 hdf => by
    simp [F_unum, MC.l, MC.r, MC.bb, z5, c1]
    exact hnorm c1 c2 _ (by simp [z3]) (by simp [z4]) (by simp [z0]) (by simp [hdf])
  have e1 : F_unum.code.r.r.l.r.bb.bb.r.l.bb.r.r.r.r = .seq F_unum.code.r.r.l.r.bb.bb.r.l.bb.r.r.r.r.l F_unum.code.r.r.l.r.bb.bb.r.l.bb.r.r.r.r.r := rfl
  rw [e1]
  generalize F_unum.code.r.r.l.r.bb.bb.r.l.bb.r.r.r.r.r = cR at retc norc ⊢
  by_cases k4 : k = 4
  · by_cases c1 : c < 128
    · by_cases x1 : X < 4294967296
      · by_cases c0 : c = 0
        · simp [F_unum, MC.l, MC.r, MC.bb, z0, z3, z4, z5, hb', k4, show ¬ (4294967296 : Int) ≤ X by omega, c0, hM2]
          exact hexit (Or.inr ⟨c0, by omega⟩) _ (by simp [hdf])
        · have cb : (c == 0) = false := by simpa using c0
          simp [F_unum, MC.l, MC.r, MC.bb, z0, z3, z4, z5, hb', k4, show ¬ 128 ≤ c by omega, show ¬ (4294967296 : Int) ≤ X by omega, cb]
          exact retc c1 (by omega) _ (by simp [z3]) (by simp [z5]) (by simp [hdf])
      · simp [F_unum, MC.l, MC.r, MC.bb, z0, z3, z4, z5, hb', k4, show ¬ 128 ≤ c by omega, show (4294967296 : Int) ≤ X by omega, hM2]
        exact hexit (Or.inl ⟨k4, Or.inr x1⟩) _ (by simp [hdf])
    · simp [F_unum, MC.l, MC.r, MC.bb, z0, z4, z5, hb', k4, show 128 ≤ c by omega, hM2]
      exact hexit (Or.inl ⟨k4, Or.inl c1⟩) _ (by simp [hdf])
  · have kb : ((k : Int) == 4) = false := by simp; omega
    by_cases c0 : c = 0
    · by_cases k0 : 0 < k
      · simp [F_unum, MC.l, MC.r, MC.bb, z0, z4, z5, hb', kb, c0, k0, hM2]
        exact hexit (Or.inr ⟨c0, k0⟩) _ (by simp [hdf])
      · simp [F_unum, MC.l, MC.r, MC.bb, z0, z4, z5, hb', kb, c0, k0]
        exact retc (by omega) (by omega) _ (by simp [z3]) (by simp [z5, c0]) (by simp [hdf])
    · have cb : (c == 0) = false := by simpa using c0
      simp [F_unum, MC.l, MC.r, MC.bb, z0, z4, z5, hb', kb, cb]
      by_cases c1 : c < 128
      · exact retc c1 (by omega) _ (by simp [z3]) (by simp [z5]) (by simp [hdf])
      · exact norc c1 k4 _ (by simp [z3]) (by simp [z4]) (by simp [z0]) (by simp [z5]) (by simp [hdf])
theorem unum_v {f : Bool} {l : List Int} {ub : Nat} {e : Int} (hs : st[ub]? = some (urB f l e)) (hM : M ub = true) (hl : e = 0 → isB l) (hE : e ≠ 0 → K (I 0) st) (h0 : e = 0 → ∀ e' r, pNum l = .inl e' → K (I 0) (st.set ub (urB f r e'))) (h1 : e = 0 → ∀ n r, pNum l = .inr (n, r) → K (I n) (st.set ub (urB f r 0))) : CallV Tryz.prog T M 98 [.ptr ub 1 0 0] st K Kp := by
  refine fun_ok hmix c_unum (le_of rfl) ?_
  have hup : upM st.length M ub = true := upM_of hM
  have hlt : ub < st.length := (List.getElem?_eq_some_iff.1 hs).1
  by_cases he : e = 0
  · subst he
    simp [F_unum]
    refine wp_mloop (fun fr s => ∃ (k : Nat) (acc : Int) (l' : List Int), k ≤ 4 ∧ s = st.set ub (urB f l' 0) ∧ isB l' ∧ 0 ≤ acc ∧ acc < 2 ^ (7 * k) ∧ pU 4 0 0 l = pU (4 - k) k acc l' ∧ fr.df = [] ∧ fr.g 0 = .ptr ub 1 0 0 ∧ fr.g 3 = .val (.int .u64 acc) ∧ fr.g 4 = I k) (fun fr _ => 5 - nat (fr.g 4))
      ⟨0, 0, l, by omega, (set_same hs).symm, hl rfl, by omega, by simp, rfl, by simp, by simp, by simp, by simp⟩ ?_
    rintro fr s ⟨k, acc, l', hk, rfl, hl', a0, a1, hp, hdf, z0, z3, z4⟩
    have tb := fun (c X : Int) (r : List Int) (hc : 0 ≤ c ∧ c ≤ 255) (hx : 0 ≤ X ∧ X < 34359738368) (fr : Fr) (s : St) (Q : Post) => unum_t (T := T) (M2 := liftM (upM st.length M)) (f := f) (r := r) (ub := ub) hc hx hk fr s Q
    have e3 : F_unum.code.r.r.l.r.bb.bb.r.l.bb = .seq F_unum.code.r.r.l.r.bb.bb.r.l.bb.l (.seq F_unum.code.r.r.l.r.bb.bb.r.l.bb.r.l (.seq F_unum.code.r.r.l.r.bb.bb.r.l.bb.r.r.l (.seq F_unum.code.r.r.l.r.bb.bb.r.l.bb.r.r.r.l F_unum.code.r.r.l.r.bb.bb.r.l.bb.r.r.r.r))) := rfl
    have e4 : F_unum.code.r.r.l.r.bb.bb = .seq F_unum.code.r.r.l.r.bb.bb.l (.seq (.block 1 F_unum.code.r.r.l.r.bb.bb.r.l.bb) F_unum.code.r.r.l.r.bb.bb.r.r) := rfl
    show wpM Tryz.prog T _ F_unum.code.r.r.l.r.bb.bb _ fr _
    rw [e4, e3]
    generalize F_unum.code.r.r.l.r.bb.bb.r.l.bb.r.r.r.r = cT at tb ⊢
    have hb : (st.set ub (urB f l' 0))[ub]? = some (urB f l' 0) := get_set hs _
    have hss : ∀ x, (st.set ub (urB f l' 0)).set ub x = st.set ub x := fun x => List.set_set ..
    have hgg : ∀ x, (st.set ub x)[ub]? = some x := fun x => get_set hs x
    generalize st.set ub (urB f l' 0) = s at hb hss
    cases l' with
    | nil =>
      have : pNum l = .inl 11 := by unfold pNum; rw [hp]; cases (4 - k) <;> rfl
      have hb' := hb
      simp only [urB] at hb'
      simp [F_unum, MC.l, MC.r, MC.bb, z0, hb', bys, hup, hdf, hss]
      exact h0 rfl 11 [] this
    | cons c r =>
      have hc := hl' c List.mem_cons_self
      have h127 := and127 hc
      have hor := oru64 hk ⟨a0, a1⟩ (d := c % 128) (by omega)
      obtain ⟨-, hor2, hor3⟩ := or64 hk ⟨a0, a1⟩ (d := c % 128) (by omega)
      obtain ⟨X, hX⟩ : ∃ X, X = acc + c % 128 * 2 ^ (7 * k) := ⟨_, rfl⟩
      have hp0 : (0 : Int) ≤ 2 ^ (7 * k) := Int.pow_nonneg (by omega)
      have hd0 := Int.mul_nonneg (show 0 ≤ c % 128 by omega) hp0
      have hsh : IntKind.u64.wrap (c % 128 * 2 ^ (7 * k)) = c % 128 * 2 ^ (7 * k) := wu64 hd0 (by omega)
      rw [← hX] at hor hor2
      have hx0 : 0 ≤ X := by omega
      have hx1 : X < 34359738368 := Int.lt_of_lt_of_le hor2 (by
        have : (2 : Nat) ^ (7 * (k + 1)) ≤ 2 ^ 35 := Nat.pow_le_pow_right (by omega) (by omega)
        have e : (2 : Int) ^ (7 * (k + 1)) = ((2 ^ (7 * (k + 1)) : Nat) : Int) := by push_cast; rfl
        rw [e]
        have : (2 : Nat) ^ 35 = 34359738368 := by decide
        omega)
      have w7 : IntKind.i64.wrap (7 * (k : Int)) = 7 * (k : Int) := w64 (by omega) (by omega)
      have wc : IntKind.u64.wrap (c % 128) = c % 128 := wu64 (by omega) (by omega)
      have mn : min (7 * (k : Int)).toNat IntKind.u64.bits = 7 * k := by simp [IntKind.bits]; omega
      have b0 : (0 : Int) ≤ 7 * k := by omega
      simp at h127 hor
      have hpX : pU (4 - k) k acc (c :: r) = if c < 128 then (if c = 0 ∧ 0 < k then .inl 3 else .inr (X, r)) else (if k = 4 then .inl 3 else pU (4 - (k + 1)) (k + 1) X r) := by
        by_cases h4 : k = 4
        · subst h4; rw [hX]; rfl
        · obtain ⟨j, hj⟩ : ∃ j, 4 - k = j + 1 := ⟨3 - k, by omega⟩
          have hj2 : 4 - (k + 1) = j := by omega
          rw [hj, hj2, if_neg h4, hX]
          rfl
      rw [hpX] at hp
      have hb' := hb
      simp only [urB, bys_cons] at hb'
      have hbr : ((r.length : Int) + 1 == 0) = false := by simp; omega
      have ht : List.take r.length (bys r) = bys r := List.take_of_length_le (by simp)
      simp [F_unum, MC.l, MC.r, MC.bb, z0, z3, z4, hb', hss, hbr, ht, hup, h127, hor, hsh, w7, wc, mn, b0]
      refine ⟨bys_one r, ?_⟩
      refine tb c X r hc ⟨hx0, hx1⟩ _ _ _ (hgg _) (by simp [z0]) (by simp) (by simp [z4]) (by simp) (by simp [hdf]) (by intro j; simp [liftM, hup]) (fun h fr' y => ?_) (fun c1 c2 fr' y2 ydf => ?_) (fun c1 c2 fr' y3 y4 y0 ydf => ?_)
      · have : pNum l = .inl 3 := by
          unfold pNum
          rw [hp]
          rcases h with ⟨rfl, c1 | c1⟩ | ⟨c1, c2⟩
          · rw [if_neg c1, if_pos rfl]; rfl
          · by_cases c2 : c < 128
            · rw [if_pos c2]
              by_cases c3 : c = 0
              · rw [if_pos ⟨c3, by omega⟩]; rfl
              · rw [if_neg (fun h => c3 h.1)]; exact if_neg c1
            · rw [if_neg c2, if_pos rfl]; rfl
          · rw [if_pos (by omega), if_pos ⟨c1, c2⟩]; rfl
        simp [y, List.set_set]
        exact h0 rfl 3 r this
      · have c3 : ¬ (c = 0 ∧ 0 < k) := fun h => c2 (Or.inr h)
        rw [if_pos c1, if_neg c3] at hp
        have hX32 : X < 4294967296 := by
          by_cases h4 : k = 4
          · exact Decidable.byContradiction fun h => c2 (Or.inl ⟨h4, Or.inr h⟩)
          · refine Int.lt_of_lt_of_le hor2 ?_
            have : (2 : Nat) ^ (7 * (k + 1)) ≤ 2 ^ 28 := Nat.pow_le_pow_right (by omega) (by omega)
            have e : (2 : Int) ^ (7 * (k + 1)) = ((2 ^ (7 * (k + 1)) : Nat) : Int) := by push_cast; rfl
            rw [e]
            have : (2 : Nat) ^ 28 = 268435456 := by decide
            omega
        have : pNum l = .inr (decU X, r) := by unfold pNum; rw [hp]; exact if_pos hX32
        simp [y2, ydf]
        exact h1 rfl _ r this
      · rw [if_neg c1, if_neg c2] at hp
        have hw1 : IntKind.i64.wrap ((k : Int) + 1) = ((k + 1 : Nat) : Int) := by rw [w64 (n := (k : Int) + 1) (by omega) (by omega)]; push_cast; rfl
        simp [y3, y4, hw1, -Int.natCast_add]
        exact ⟨⟨k + 1, by omega, X, r, rfl, hl'.tail, hx0, hor2, hp, ydf, y0, rfl, rfl⟩, by omega⟩
  · have hs' := hs
    simp only [urB] at hs'
    have hb : (e == 0) = false := by simpa using he
    simp [F_unum]
    refine wp_mloop (fun fr s => s = st ∧ fr.df = [] ∧ fr.g 0 = .ptr ub 1 0 0) (fun _ _ => 0) ⟨rfl, by simp, by simp⟩ ?_
    rintro fr s ⟨rfl, hdf, z0⟩
    have e4 : F_unum.code.r.r.l.r.bb.bb = .seq F_unum.code.r.r.l.r.bb.bb.l (.seq F_unum.code.r.r.l.r.bb.bb.r.l F_unum.code.r.r.l.r.bb.bb.r.r) := rfl
    have e5 : F_unum.code.r.r.l.r.bb.bb.r.l = .block 1 F_unum.code.r.r.l.r.bb.bb.r.l.bb := rfl
    show wpM Tryz.prog T _ F_unum.code.r.r.l.r.bb.bb _ fr _
    rw [e4, e5]
    have e3 : F_unum.code.r.r.l.r.bb.bb.r.l.bb = .seq F_unum.code.r.r.l.r.bb.bb.r.l.bb.l F_unum.code.r.r.l.r.bb.bb.r.l.bb.r := rfl
    rw [e3]
    generalize F_unum.code.r.r.l.r.bb.bb.r.l.bb.r = cT
    simp [F_unum, MC.l, MC.r, MC.bb, z0, hs', hb, hdf]
    exact hE he
end
end Go.Proofs.YtkcdgaijklhnaaaGreatDoor.Vm
namespace Go.Proofs.YtkcdgaijklhnaaaGreatDoor.Vm
open Go.RowKit
theorem pU_err : ∀ {f k : Nat} {acc : Int} {l : List Int} {e : Int}, pU f k acc l = .inl e → e ≠ 0
  | f, k, acc, [], e, h => by cases f <;> (cases h; decide)
  | 0, k, acc, c :: r, e, h => by
    unfold pU at h
    split at h
    · split at h
      · cases h; decide
      · cases h
    · cases h; decide
  | f + 1, k, acc, c :: r, e, h => by
    unfold pU at h
    split at h
    · split at h
      · cases h; decide
      · cases h
    · exact pU_err h
theorem pNum_err {l : List Int} {e : Int} (h : pNum l = .inl e) : e ≠ 0 := by
  unfold pNum at h
  cases hu : pU 4 0 0 l with
  | inl e' => rw [hu] at h; cases h; exact pU_err hu
  | inr q =>
    obtain ⟨u, r'⟩ := q
    rw [hu] at h
    simp only [pFin] at h
    split at h
    · cases h
    · cases h; decide
theorem pCnt_err {l : List Int} {e : Int} (h : pCnt l = .inl e) : e ≠ 0 := by
  unfold pCnt at h
  split at h
  · rename_i hn; cases h; exact pNum_err hn
  · split at h
    · cases h; decide
    · cases h
theorem pMany_err : ∀ {n : Nat} {acc l : List Int} {e : Int}, pMany n acc l = .inl e → e ≠ 0
  | 0, acc, l, e, h => by cases h
  | n + 1, acc, l, e, h => by
    unfold pMany at h
    split at h
    · rename_i hn; cases h; exact pNum_err hn
    · exact pMany_err h
theorem pLst_err {l : List Int} {e : Int} (h : pLst l = .inl e) : e ≠ 0 := by
  unfold pLst at h
  split at h
  · rename_i hn; cases h; exact pCnt_err hn
  · exact pMany_err h
theorem pU_pos : ∀ {f k : Nat} {acc : Int} {l : List Int} {u : Int} {r : List Int}, pU f k acc l = .inr (u, r) → 0 ≤ acc → 0 ≤ u
  | f, k, acc, [], u, r, h, _ => by cases f <;> cases h
  | 0, k, acc, c :: l, u, r, h, ha => by
    have := Int.mul_nonneg (show 0 ≤ c % 128 by omega) (show (0 : Int) ≤ 2 ^ (7 * k) from Int.pow_nonneg (by omega))
    unfold pU at h
    split at h
    · split at h
      · cases h
      · cases h; omega
    · cases h
  | f + 1, k, acc, c :: l, u, r, h, ha => by
    have := Int.mul_nonneg (show 0 ≤ c % 128 by omega) (show (0 : Int) ≤ 2 ^ (7 * k) from Int.pow_nonneg (by omega))
    unfold pU at h
    split at h
    · split at h
      · cases h
      · cases h; omega
    · exact pU_pos h (by omega)
theorem pNum_bnd {l : List Int} {n : Int} {r : List Int} (h : pNum l = .inr (n, r)) : n < 2147483648 := by
  unfold pNum at h
  cases hu : pU 4 0 0 l with
  | inl e' => rw [hu] at h; cases h
  | inr q =>
    obtain ⟨u, r'⟩ := q
    have := pU_pos hu (by omega)
    rw [hu] at h
    simp only [pFin] at h
    split at h
    · cases h
      unfold decU
      split <;> omega
    · cases h
theorem pCnt_bnd {l : List Int} {n : Int} {r : List Int} (h : pCnt l = .inr (n, r)) : n < 2147483648 := by
  unfold pCnt at h
  split at h
  · cases h
  · rename_i hn
    split at h
    · cases h
    · cases h; exact pNum_bnd hn
section
variable {T : Tbl} {M : Nat → Bool} {st : St} {K : V → St → Prop} {Kp : List PanicEntry → St → Prop}
theorem umany_v {f : Bool} {l : List Int} {ub : Nat} {e : Int} (hs : st[ub]? = some (urB f l e)) (hM : M ub = true) (hl : e = 0 → isB l) (hE : e ≠ 0 → K (I 0) st) (h0 : e = 0 → ∀ e' r, pCnt l = .inl e' → K (I 0) (st.set ub (urB f r e'))) (h1 : e = 0 → ∀ n r, pCnt l = .inr (n, r) → K (I n) (st.set ub (urB f r 0))) : CallV Tryz.prog T M 140 [.ptr ub 1 0 0] st K Kp := by
  refine fun_ok hmix c_umany (le_of rfl) ?_
  have hup : upM st.length M ub = true := upM_of hM
  have hlt : ub < st.length := (List.getElem?_eq_some_iff.1 hs).1
  simp [F_umany]
  refine unum_v hs hup hl (fun he => ?_) (fun he e' r h => ?_) (fun he n r h => ?_)
  · have hs' := hs
    simp only [urB] at hs'
    have hb : (e != 0) = true := by simpa using he
    simp [hs', hb]
    exact hE he
  · have hb : (e' != 0) = true := by simpa using pNum_err h
    have : pCnt l = .inl e' := by unfold pCnt; rw [h]
    have h0' := h0 he e' r this
    simp only [urB] at h0'
    simp [urB, hlt, hb]
    exact h0'
  · by_cases hn : n < 0
    · have : pCnt l = .inl 3 := by unfold pCnt; rw [h]; exact if_pos hn
      have h0' := h0 he 3 r this
      simp only [urB] at h0'
      simp [urB, hlt, hn, hup]
      exact h0'
    · have : pCnt l = .inr (n, r) := by unfold pCnt; rw [h]; exact if_neg hn
      have h1' := h1 he n r this
      simp only [urB] at h1'
      simp [urB, hlt, hn]
      exact h1'
theorem ulist_v {f : Bool} {l : List Int} {ub : Nat} {e : Int} (hs : st[ub]? = some (urB f l e)) (hM : M ub = true) (hl : e = 0 → isB l) (hlen : e = 0 → l.length ≤ 1000000) (hE : e ≠ 0 → K (.lst true []) st) (h0 : e = 0 → ∀ g out e' r, pLst l = .inl e' → K (.lst g (ints out)) (st.set ub (urB f r e'))) (h1 : e = 0 → ∀ g out r, pLst l = .inr (out, r) → K (.lst g (ints out)) (st.set ub (urB f r 0))) : CallV Tryz.prog T M 99 [.ptr ub 1 0 0] st K Kp := by
  have hlt : ub < st.length := (List.getElem?_eq_some_iff.1 hs).1
  have hup : upM st.length M ub = true := upM_of hM
  refine CallV.give (fun_ok hmix c_ulist (le_of rfl) ?_)
  have hsame : ∀ x, Same st.length ub st (st.set ub x) := fun x => (Same.refl (Nat.le_refl _)).set (Or.inl rfl) x
  have low : ∀ (s : St) (r : List Int) (e : Int), Same st.length ub st s → s[ub]? = some (urB f r e) → LowSt st s ∧ s.take st.length = st.set ub (urB f r e) := fun s r e h1 h2 => ⟨h1.low h2 (by simp [V.low]), h1.take h2⟩
  have loop : ∀ (fr : Fr) (s : St) (e2 j : Int) (out l' : List Int), e = 0 → Same st.length ub st s → s[ub]? = some (urB f l' e2) → OutS st.length 3 1 s (fr.g 3) (ints out) → fr.g 0 = .ptr ub 1 0 0 → fr.g 4 = I j → j < 2147483648 → fr.df = [] → ((e2 = 0 ∧ 0 ≤ j ∧ isB l' ∧ out.length + l'.length ≤ l.length ∧ pLst l = pMany j.toNat out l') ∨ (e2 ≠ 0 ∧ pLst l = .inl e2)) →
      wpM Tryz.prog T (liftM (upM st.length M)) F_ulist.code.r.r.l.r.bb (Post.block 0 (Post.seq (wpM Tryz.prog T (liftM (upM st.length M)) F_ulist.code.r.r.r (Fin F_ulist.res (fun v st' => ∃ v', Frz st.length st' v v' ∧ LowSt st st' ∧ K v' (st'.take st.length)) (fun c st' => LowSt st st' ∧ Kp c (st'.take st.length)))) (Fin F_ulist.res (fun v st' => ∃ v', Frz st.length st' v v' ∧ LowSt st st' ∧ K v' (st'.take st.length)) (fun c st' => LowSt st st' ∧ Kp c (st'.take st.length))))) fr s := fun fr s e2 j out l' he hS hb o z0 z4 hj hdf hh => by
    have e1 : F_ulist.code.r.r.l.r.bb = .loop F_ulist.code.r.r.l.r.bb.bb := rfl
    rw [e1]
    refine wp_mloop (fun fr s => ∃ (e2 j : Int) (out l' : List Int), Same st.length ub st s ∧ s[ub]? = some (urB f l' e2) ∧ OutS st.length 3 1 s (fr.g 3) (ints out) ∧ fr.g 0 = .ptr ub 1 0 0 ∧ fr.g 4 = I j ∧ j < 2147483648 ∧ fr.df = [] ∧ ((e2 = 0 ∧ 0 ≤ j ∧ isB l' ∧ out.length + l'.length ≤ l.length ∧ pLst l = pMany j.toNat out l') ∨ (e2 ≠ 0 ∧ pLst l = .inl e2))) (fun fr _ => nat (fr.g 4)) ⟨e2, j, out, l', hS, hb, o, z0, z4, hj, hdf, hh⟩ ?_
    clear hS hb o z0 z4 hj hdf hh
    rintro fr s ⟨e2, j, out, l', hS, hb, o, z0, z4, hj, hdf, hh⟩
    have hlS := hS.len
    have hlen := hlen he
    have hb' := hb
    simp only [urB] at hb'
    rcases hh with ⟨rfl, j0, hl', hle, hp⟩ | ⟨he2, hp⟩
    · by_cases hj0 : 0 < j
      · simp [F_ulist, MC.l, MC.r, MC.bb, z0, z4, hb', hj0]
        refine unum_v hb hup (fun _ => hl') (fun h => absurd rfl h) (fun _ e' r h => ?_) (fun _ x r h => ?_)
        · have o1 := o.set (b := ub) (by omega) (urB f r e')
          have hS1 := hS.set (b := ub) (Or.inl rfl) (urB f r e')
          have hb1 := get_set hb (urB f r e')
          have hw1 : IntKind.i64.wrap (j - 1) = j - 1 := w64 (by omega) (by omega)
          obtain ⟨i, hi⟩ : ∃ i, j.toNat = i + 1 := ⟨j.toNat - 1, by omega⟩
          have hp2 : pLst l = .inl e' := by rw [hp, hi]; unfold pMany; rw [h]
          simp
          refine app_out (o1.more _) (by simp; omega) (news := [I 0]) (by simp) (by simp) (Or.inl (by simp)) (fun b L hb _ j => by simp [upM, hb]) (by simp; omega) (by simp; omega) fun v s3 o3 hl3 hb3 hk3 hn3 => ?_
          have hS3 : Same st.length ub st s3 := ⟨by have := hl3; simp at this; omega, fun b q1 q2 => by rw [hb3 b q1]; exact (hS1.more _).get b q1 q2⟩
          have hb3' : s3[ub]? = some (urB f r e') := by rw [hb3 ub (by omega)]; exact get_more hb1 _
          have o3' : OutS st.length 3 1 s3 v (ints (out ++ [0])) := by rw [ints_append]; exact o3
          exact ⟨⟨hS3, e', _, out ++ [0], r, hb3', o3', hw1, by omega, hdf, Or.inr ⟨pNum_err h, hp2⟩⟩, by rw [hw1]; omega⟩
        · have o1 := o.set (b := ub) (by omega) (urB f r 0)
          have hS1 := hS.set (b := ub) (Or.inl rfl) (urB f r 0)
          have hb1 := get_set hb (urB f r 0)
          have hw1 : IntKind.i64.wrap (j - 1) = j - 1 := w64 (by omega) (by omega)
          obtain ⟨i, hi⟩ : ∃ i, j.toNat = i + 1 := ⟨j.toNat - 1, by omega⟩
          have hp2 : pLst l = pMany (j - 1).toNat (out ++ [x]) r := by
            have e : (j - 1).toNat = i := by omega
            rw [hp, hi, e]
            conv => lhs; unfold pMany
            rw [h]
          obtain ⟨q1, q2⟩ := pNum_rest h hl'
          simp
          refine app_out (o1.more _) (by simp; omega) (news := [I x]) (by simp) (by simp) (Or.inl (by simp)) (fun b L hb _ j => by simp [upM, hb]) (by simp; omega) (by simp; omega) fun v s3 o3 hl3 hb3 hk3 hn3 => ?_
          have hS3 : Same st.length ub st s3 := ⟨by have := hl3; simp at this; omega, fun b q1 q2 => by rw [hb3 b q1]; exact (hS1.more _).get b q1 q2⟩
          have hb3' : s3[ub]? = some (urB f r 0) := by rw [hb3 ub (by omega)]; exact get_more hb1 _
          have o3' : OutS st.length 3 1 s3 v (ints (out ++ [x])) := by rw [ints_append]; exact o3
          exact ⟨⟨hS3, 0, _, out ++ [x], r, hb3', o3', hw1, by omega, hdf, Or.inl ⟨rfl, by omega, q1, by simp; omega, hp2⟩⟩, by rw [hw1]; omega⟩
      · obtain rfl : j = 0 := by omega
        obtain ⟨q1, q2⟩ := low s l' 0 hS hb
        obtain ⟨gg, hfr⟩ := o.frz (ints_cells out)
        simp [F_ulist, MC.l, MC.r, MC.bb, z4, hdf]
        exact ⟨_, hfr, q1, by rw [q2]; exact h1 he gg out l' hp⟩
    · have hb2 : (e2 == 0) = false := by simpa using he2
      obtain ⟨q1, q2⟩ := low s l' e2 hS hb
      obtain ⟨gg, hfr⟩ := o.frz (ints_cells out)
      by_cases hj0 : 0 < j
      · simp [F_ulist, MC.l, MC.r, MC.bb, z0, z4, hdf, hj0, hb', hb2]
        exact ⟨_, hfr, q1, by rw [q2]; exact h0 he gg out e2 l' hp⟩
      · simp [F_ulist, MC.l, MC.r, MC.bb, z4, hdf, hj0]
        exact ⟨_, hfr, q1, by rw [q2]; exact h0 he gg out e2 l' hp⟩
  simp [F_ulist]
  refine umany_v hs hup hl (fun he => ?_) (fun he e' r h => ?_) (fun he n r h => ?_)
  · refine wp_mloop (fun fr s => s = st ∧ fr.df = [] ∧ fr.g 4 = I 0 ∧ fr.g 3 = .lst true []) (fun _ _ => 0) ⟨rfl, by simp, by simp, by simp⟩ ?_
    rintro fr s ⟨rfl, hdf, z4, z3⟩
    simp [z4, z3, hdf]
    exact ⟨_, .same _ rfl, LowSt.same (by simp), hE he⟩
  · have : pLst l = .inl e' := by unfold pLst; rw [h]
    exact loop _ _ e' 0 [] r he (hsame _) (get_set hs _) (by simpa [ints] using OutS.nil _ _ _ _) (by simp) (by simp) (by omega) (by simp) (Or.inr ⟨pCnt_err h, this⟩)
  · have : pLst l = pMany n.toNat [] r := by unfold pLst; rw [h]
    obtain ⟨q1, q2, q3⟩ := pCnt_rest h (hl he)
    exact loop _ _ 0 n [] r he (hsame _) (get_set hs _) (by simpa [ints] using OutS.nil _ _ _ _) (by simp) (by simp) (pCnt_bnd h) (by simp) (Or.inl ⟨rfl, q3, q1, by simp; omega, this⟩)
end
end Go.Proofs.YtkcdgaijklhnaaaGreatDoor.Vm
namespace Go.Proofs.YtkcdgaijklhnaaaGreatDoor.Vm
open Go.RowKit
theorem bys_cells (l : List Int) : ∀ x ∈ bys l, ∀ y ∈ x.cells, y.leaf = true ∧ y.pl = true := fun x hx => by
  obtain ⟨z, -, rfl⟩ := List.mem_map.1 hx
  intro y hy
  rw [show y = .val (.int .u8 z) by simpa [V.cells] using hy]
  exact ⟨rfl, rfl⟩
section
variable {T : Tbl} {M : Nat → Bool} {st : St} {K : V → St → Prop} {Kp : List PanicEntry → St → Prop}
theorem clb_v {f : Bool} {l : List Int} (hlen : l.length ≤ 1000000) (hK : ∀ g, K (.lst g (bys l)) st) : CallV Tryz.prog T M 97 [.lst f (bys l)] st K Kp := by
  refine CallV.give (fun_ok hmix c_clb (le_of rfl) ?_)
  have app : obind2 (mApp (liftM (upM st.length M)) 5 1 1 st (.lst true []) (.lst f (bys l))) fun v st' => ∃ v', Frz st.length st' v v' ∧ LowSt st st' ∧ K v' (st'.take st.length) := by
    refine app_out (OutS.nil st.length 5 1 st) (Nat.le_refl _) (news := bys l) (by simp) (bys_one l) (Or.inr rfl) (fun b L hb _ j => by simp [upM, hb]) (by simp; omega) (by simp; omega) fun v s3 o3 hl3 hb3 hk3 hn3 => ?_
    have k : KeepL st s3 := ⟨hl3, fun b hb => hb3 b hb⟩
    obtain ⟨gg, hfr⟩ := o3.frz (by simpa using bys_cells l)
    exact ⟨_, hfr, k.low, by rw [k.take]; exact hK gg⟩
  cases l with
  | nil =>
    simp [F_clb, bys]
    exact ⟨app, _, .same _ rfl, LowSt.same (by simp), hK true⟩
  | cons c r =>
    have app' := app
    rw [bys_cons] at app' ⊢
    simp [F_clb]
    exact app'
end
end Go.Proofs.YtkcdgaijklhnaaaGreatDoor.Vm
namespace Go.Proofs.YtkcdgaijklhnaaaGreatDoor.Vm
open Go.RowKit
def bindR {α β : Type} : Rs α → (α → List Int → Rs β) → Rs β
  | .inl e, _ => .inl e
  | .inr (a, r), k => k a r
def Ph {β : Type} (R : Rs β) (cont : List Int → Rs β) (l : List Int) (e : Int) : Prop := (e = 0 ∧ isB l ∧ l.length ≤ 1000000 ∧ R = cont l) ∨ (e ≠ 0 ∧ R = .inl e)
theorem Ph.b {β : Type} {R : Rs β} {cont : List Int → Rs β} {l : List Int} {e : Int} (h : Ph R cont l e) (he : e = 0) : isB l := by
  rcases h with ⟨-, h, -⟩ | ⟨h, -⟩
  · exact h
  · exact absurd he h
theorem Ph.n {β : Type} {R : Rs β} {cont : List Int → Rs β} {l : List Int} {e : Int} (h : Ph R cont l e) (he : e = 0) : l.length ≤ 1000000 := by
  rcases h with ⟨-, -, h, -⟩ | ⟨h, -⟩
  · exact h
  · exact absurd he h
theorem Ph.c {β : Type} {R : Rs β} {cont : List Int → Rs β} {l : List Int} {e : Int} (h : Ph R cont l e) (he : e = 0) : R = cont l := by
  rcases h with ⟨-, -, -, h⟩ | ⟨h, -⟩
  · exact h
  · exact absurd he h
theorem Ph.e {β : Type} {R : Rs β} {cont : List Int → Rs β} {l : List Int} {e : Int} (h : Ph R cont l e) (he : e ≠ 0) : R = .inl e := by
  rcases h with ⟨h, -⟩ | ⟨-, h⟩
  · exact absurd h he
  · exact h
theorem pMod_bind (l : List Int) : pMod l = bindR (pNum l) fun a l1 => bindR (pNum l1) fun b l2 => bindR (pNum l2) fun c l3 => bindR (pNum l3) fun d l4 => bindR (pGo 7 [] l4) fun acc r => .inr (toM a b c d acc, r) := by
  unfold pMod
  cases pNum l with
  | inl e => rfl
  | inr q =>
    obtain ⟨a, l1⟩ := q
    simp only [bindR]
    cases pNum l1 with
    | inl e => rfl
    | inr q =>
      obtain ⟨b, l2⟩ := q
      simp only []
      cases pNum l2 with
      | inl e => rfl
      | inr q =>
        obtain ⟨c, l3⟩ := q
        simp only []
        cases pNum l3 with
        | inl e => rfl
        | inr q =>
          obtain ⟨d, l4⟩ := q
          simp only []
          cases pGo 7 [] l4 with
          | inl e => rfl
          | inr q => rfl
theorem pGo_bind (n : Nat) (acc : List (List Int)) (l : List Int) : pGo (n + 1) acc l = bindR (pLst l) fun x r => pGo n (acc ++ [x]) r := by
  conv => lhs; unfold pGo
  cases pLst l with
  | inl e => rfl
  | inr q => rfl
theorem bindR_assoc {α β γ : Type} (x : Rs α) (f : α → List Int → Rs β) (g : β → List Int → Rs γ) : bindR (bindR x f) g = bindR x fun a r => bindR (f a r) g := by
  cases x with
  | inl e => rfl
  | inr q => rfl
section
variable {T : Tbl} {M : Nat → Bool} {st : St} {K : V → St → Prop} {Kp : List PanicEntry → St → Prop}
theorem unum_p {β : Type} {f : Bool} {l : List Int} {ub : Nat} {e : Int} {R : Rs β} {cont : Int → List Int → Rs β} (hs : st[ub]? = some (urB f l e)) (hM : M ub = true) (hP : Ph R (fun l => bindR (pNum l) cont) l e) (hK : ∀ n r e', Ph R (cont n) r e' → K (I n) (st.set ub (urB f r e'))) : CallV Tryz.prog T M 98 [.ptr ub 1 0 0] st K Kp := by
  refine unum_v hs hM hP.b (fun he => ?_) (fun he e' r h => ?_) (fun he n r h => ?_)
  · have := hK 0 l e (Or.inr ⟨he, hP.e he⟩)
    rwa [set_same hs] at this
  · exact hK 0 r e' (Or.inr ⟨pNum_err h, by rw [hP.c he, h]; rfl⟩)
  · obtain ⟨h1, h2⟩ := pNum_rest h (hP.b he)
    have := hP.n he
    exact hK n r 0 (Or.inl ⟨rfl, h1, by omega, by rw [hP.c he, h]; rfl⟩)
theorem ulist_p {β : Type} {f : Bool} {l : List Int} {ub : Nat} {e : Int} {R : Rs β} {cont : List Int → List Int → Rs β} (hs : st[ub]? = some (urB f l e)) (hM : M ub = true) (hP : Ph R (fun l => bindR (pLst l) cont) l e) (hK : ∀ g out r e', Ph R (cont out) r e' → K (.lst g (ints out)) (st.set ub (urB f r e'))) : CallV Tryz.prog T M 99 [.ptr ub 1 0 0] st K Kp := by
  refine ulist_v hs hM hP.b hP.n (fun he => ?_) (fun he g out e' r h => ?_) (fun he g out r h => ?_)
  · have := hK true [] l e (Or.inr ⟨he, hP.e he⟩)
    rwa [set_same hs] at this
  · exact hK g out r e' (Or.inr ⟨pLst_err h, by rw [hP.c he, h]; rfl⟩)
  · obtain ⟨h1, h2, h3⟩ := pLst_rest h (hP.b he)
    have := hP.n he
    exact hK g out r 0 (Or.inl ⟨rfl, h1, by omega, by rw [hP.c he, h]; rfl⟩)
set_option maxHeartbeats 1000000 in
theorem rmFrom_v {f : Bool} {l : List Int} (hl : isB l) (hlen : l.length ≤ 1000000) (hK : ∀ fl m, ((pAll l).2 = 0 → m = (pAll l).1) → K (.tup [encM fl m, I (pAll l).2]) st) : CallV Tryz.prog T M 52 [.lst f (bys l)] st K Kp := by
  refine CallV.give (fun_ok hmix c_rmFrom (le_of rfl) ?_)
  have hZ : Blk.row 27 11 [V.agg [I 0, I 0, I 0, I 0, .lst true [], .lst true [], .lst true [], .lst true [], .lst true [], .lst true [], .lst true []]] = mdl 0 0 0 0 nils := rfl
  have two : ∀ (fr : Fr) (s : St) (g : Bool) (a b c d : Int) (l4 : List Int) (e : Int), KeepL st s → s.length = st.length + 3 → s[st.length]? = some (mdl 0 0 0 0 nils) → s[st.length + 1]? = some (urB g l4 e) → s[st.length + 2]? = some (mdl a b c d nils) → Ph (pMod l) (fun l4 => bindR (pGo 7 [] l4) fun acc r => .inr (toM a b c d acc, r)) l4 e → fr.g 2 = .ptr st.length 1 0 0 → fr.g 4 = .ptr (st.length + 1) 1 0 0 → fr.g 5 = .ptr (st.length + 2) 1 0 0 → fr.df = [] →
      wpM Tryz.prog T (liftM (upM st.length M)) F_rmFrom.code.r.r.r (Fin F_rmFrom.res (fun v st' => ∃ v', Frz st.length st' v v' ∧ LowSt st st' ∧ K v' (st'.take st.length)) (fun c st' => LowSt st st' ∧ Kp c (st'.take st.length))) fr s := fun fr s g a b c d l4 e hS hsl hr hu hm hP z2 z4 z5 hdf => by
    have fin : ∀ (fr : Fr) (s : St) (fl : Nat → Bool) (acc : List (List Int)) (r : List Int) (e : Int), KeepL st s → s[st.length]? = some (mdl 0 0 0 0 nils) → s[st.length + 1]? = some (urB g r e) → s[st.length + 2]? = some (mdl a b c d (cOf fl acc)) → acc.length = 7 → Ph (pMod l) (fun r => .inr (toM a b c d acc, r)) r e → fr.g 2 = .ptr st.length 1 0 0 → fr.g 4 = .ptr (st.length + 1) 1 0 0 → fr.g 5 = .ptr (st.length + 2) 1 0 0 → fr.df = [] →
        wpM Tryz.prog T (liftM (upM st.length M)) F_rmFrom.code.r.r.r.r (Fin F_rmFrom.res (fun v st' => ∃ v', Frz st.length st' v v' ∧ LowSt st st' ∧ K v' (st'.take st.length)) (fun c st' => LowSt st st' ∧ Kp c (st'.take st.length))) fr s := fun fr s fl acc r e hS hr hu hm h7 hP z2 z4 z5 hdf => by
      rw [mdl_congr fun j hj => cOf_full h7 a b c d j hj] at hm
      generalize hcd : F_rmFrom.code.r.r.r.r = cd
      have hm' := hm
      have hr' := hr
      have hu' := hu
      have hus : ∀ x, (s.set (st.length + 1) x)[st.length + 1]? = some x := fun x => get_set hu x
      simp only [mdl, nils, urB] at hm' hr' hu'
      subst hcd
      have out : ∀ e2, e2 = (pAll l).2 → (e2 = 0 → toM a b c d acc = (pAll l).1) → ∀ s2, KeepL st s2 → ∃ v', Frz st.length s2 (.tup [encM fl (toM a b c d acc), I e2]) v' ∧ LowSt st s2 ∧ K v' (s2.take st.length) := fun e2 h1 h2 s2 h3 => by
        subst h1
        exact ⟨_, frz_me _ _ fl (toM a b c d acc) _, h3.low, by rw [h3.take]; exact hK fl _ h2⟩
      have rb : ∀ x, (s.set st.length x)[st.length]? = some x := fun x => get_set hr x
      by_cases he : e = 0
      · subst he
        have hp := hP.c rfl
        by_cases hr0 : r = []
        · subst hr0
          have hall : pAll l = (toM a b c d acc, 0) := by unfold pAll; rw [hp]; exact if_pos rfl
          simp [F_rmFrom, MC.r, z4, hu', bys]
          refine wp_mflat [st.length] [] ?_
          simp [z2, z4, z5, hdf, hm', hr', hu', bys, rb, inW, rdW, upM]
          exact out 0 (by rw [hall]) (fun _ => by rw [hall]) _ (hS.set (Nat.le_refl _) _)
        · have hall : pAll l = (zM, 3) := by unfold pAll; rw [hp]; exact if_neg hr0
          have hr1 : 0 < r.length := List.length_pos_iff.2 hr0
          have rb2 : ∀ x y, ((s.set (st.length + 1) x).set st.length y)[st.length]? = some y := fun x y => get_set (get_ne hr (by omega) x) y
          simp [F_rmFrom, MC.r, z4, hu', hr1, upM]
          refine wp_mflat [st.length] [] ?_
          simp [z2, z4, z5, hdf, hm', hr', hus, rb2, inW, rdW, upM]
          exact out 3 (by rw [hall]) (fun h => by cases h) _ ((hS.set (b := st.length + 1) (by omega) _).set (Nat.le_refl _) _)
      · have hall : pAll l = (zM, e) := by unfold pAll; rw [hP.e he]
        have heb : (e == 0) = false := by simpa using he
        simp [F_rmFrom, MC.r, z4, hu', heb]
        refine wp_mflat [st.length] [] ?_
        simp [z2, z4, z5, hdf, hm', hr', hu', rb, inW, rdW, upM]
        exact out e (by rw [hall]) (fun h => absurd h he) _ (hS.set (Nat.le_refl _) _)
    have e1 : F_rmFrom.code.r.r.r = .seq F_rmFrom.code.r.r.r.l F_rmFrom.code.r.r.r.r := rfl
    generalize F_rmFrom.code.r.r.r.r = c4 at fin e1
    rw [e1]
    have hm' := hm
    simp only [mdl, nils] at hm'
    simp [F_rmFrom, MC.l, MC.r, z5, hm']
    have hB : Blk.row 116 1 [V.ptr (st.length + 2) 1 0 4, V.ptr (st.length + 2) 1 0 5, V.ptr (st.length + 2) 1 0 6, V.ptr (st.length + 2) 1 0 7, V.ptr (st.length + 2) 1 0 8, V.ptr (st.length + 2) 1 0 9, V.ptr (st.length + 2) 1 0 10] = .row 116 1 (ptrs (st.length + 2)) := rfl
    rw [hB, hsl]
    have hPt : (s ++ [Blk.row 116 1 (ptrs (st.length + 2))])[st.length + 3]? = some (.row 116 1 (ptrs (st.length + 2))) := by rw [← hsl]; simp
    have hm2 := get_more hm [Blk.row 116 1 (ptrs (st.length + 2))]
    have hr2 := get_more hr [Blk.row 116 1 (ptrs (st.length + 2))]
    have hu2 := get_more hu [Blk.row 116 1 (ptrs (st.length + 2))]
    have hS2 := hS.more [Blk.row 116 1 (ptrs (st.length + 2))]
    generalize s ++ [Blk.row 116 1 (ptrs (st.length + 2))] = s2 at *
    clear hm' hm hr hu hS hsl
    refine wp_mloop (fun fr s => ∃ (fl : Nat → Bool) (acc : List (List Int)) (l' : List Int) (e : Int), acc.length ≤ 7 ∧ KeepL st s ∧ s[st.length + 1]? = some (urB g l' e) ∧ s[st.length]? = some (mdl 0 0 0 0 nils) ∧ s[st.length + 2]? = some (mdl a b c d (cOf fl acc)) ∧ s[st.length + 3]? = some (.row 116 1 (ptrs (st.length + 2))) ∧ Ph (pMod l) (fun l4 => bindR (pGo (7 - acc.length) acc l4) fun acc r => .inr (toM a b c d acc, r)) l' e ∧ fr.df = [] ∧ fr.g 2 = .ptr st.length 1 0 0 ∧ fr.g 4 = .ptr (st.length + 1) 1 0 0 ∧ fr.g 5 = .ptr (st.length + 2) 1 0 0 ∧ fr.g 28 = .own (st.length + 3) 7 0 7 ∧ fr.g 29 = I 7 ∧ fr.g 30 = I acc.length) (fun fr _ => 7 - nat (fr.g 30))
      ⟨fun _ => true, [], l4, e, by simp, hS2, hu2, hr2, hm2, hPt, hP, by simp [hdf], by simp [z2], by simp [z4], by simp [z5], by simp, by simp, by simp⟩ ?_
    clear hm2 hr2 hu2 hS2 hPt hP z2 z4 z5 hdf
    rintro fr s ⟨fl, acc, l', e, hk, hS, hu, hr, hm, hPt, hP, hdf, z2, z4, z5, z28, z29, z30⟩
    by_cases hlt2 : acc.length < 7
    · obtain ⟨i, hi⟩ : ∃ i, acc.length = i := ⟨_, rfl⟩
      have hPe : (ptrs (st.length + 2))[i]? = some (.ptr (st.length + 2) 1 0 (4 + i)) := by
        have : i = 0 ∨ i = 1 ∨ i = 2 ∨ i = 3 ∨ i = 4 ∨ i = 5 ∨ i = 6 := by omega
        rcases this with rfl | rfl | rfl | rfl | rfl | rfl | rfl <;> rfl
      have hP7 : (ptrs (st.length + 2)).length = 7 := rfl
      have hi7 : i < 7 := by omega
      rw [hi] at hP z30
      obtain ⟨j, hj⟩ : ∃ j, 7 - i = j + 1 := ⟨6 - i, by omega⟩
      have hj2 : 7 - (i + 1) = j := by omega
      rw [hj] at hP
      simp only [pGo_bind, bindR_assoc] at hP
      have hmm := hm
      simp only [mdl] at hmm
      generalize ptrs (st.length + 2) = P at *
      have hPe2 := (List.getElem?_eq_some_iff.1 hPe).2
      simp [z28, z29, z30, hi7, hPt, hP7, hPe2, z4, show (i : Int) < 7 by omega]
      refine ulist_p hu (by simp [upM]) hP fun g2 x r e3 hP3 => ?_
      have hm2 := get_ne hm (show st.length + 1 ≠ st.length + 2 by omega) (urB g r e3)
      simp only [mdl] at hm2
      have hw1 : IntKind.i64.wrap ((i : Int) + 1) = ((i + 1 : Nat) : Int) := by rw [w64 (n := (i : Int) + 1) (by omega) (by omega)]; push_cast; rfl
      have hU := upd_list (a := a) (b := b) (c := c) (d := d) (fl := fl) g2 x hi hi7
      simp [hm2, hw1, -Int.natCast_add]
      rw [hU]
      exact ⟨by omega, ⟨_, acc ++ [x], by simp; omega, (hS.set (by omega) _).set (by omega) _, r, e3, get_set hu _, hr, get_set (get_ne hm (by omega) _) _, hPt, by simpa [hi, hj2] using hP3, hdf, z2, z5, by simp [hi]⟩, by omega⟩
    · have h7 : acc.length = 7 := by omega
      rw [h7] at hP z30
      simp [z29, z30]
      exact fin _ s fl acc l' e hS hr hu hm h7 hP (by simp [z2]) (by simp [z4]) (by simp [z5]) (by simp [hdf])
  have e1 : F_rmFrom.code = .seq F_rmFrom.code.l (.seq F_rmFrom.code.r.l (.seq F_rmFrom.code.r.r.l F_rmFrom.code.r.r.r)) := rfl
  generalize F_rmFrom.code.r.r.r = c3 at two e1
  rw [e1]
  simp [F_rmFrom, MC.l, MC.r]
  rw [hZ]
  refine clb_v hlen fun g => ?_
  have hU : Blk.row 134 2 [V.agg [.lst g (bys l), I 0]] = urB g l 0 := rfl
  simp
  rw [hU]
  have hk0 : KeepL st (st ++ [mdl 0 0 0 0 nils, urB g l 0]) := (KeepL.refl st).more _
  have hr0 : (st ++ [mdl 0 0 0 0 nils, urB g l 0])[st.length]? = some (mdl 0 0 0 0 nils) := by simp
  have hu0 : (st ++ [mdl 0 0 0 0 nils, urB g l 0])[st.length + 1]? = some (urB g l 0) := by simp
  have hn0 : (st ++ [mdl 0 0 0 0 nils, urB g l 0]).length = st.length + 2 := by simp
  have hP0 : Ph (pMod l) (fun l => bindR (pNum l) fun a l1 => bindR (pNum l1) fun b l2 => bindR (pNum l2) fun c l3 => bindR (pNum l3) fun d l4 => bindR (pGo 7 [] l4) fun acc r => .inr (toM a b c d acc, r)) l 0 := Or.inl ⟨rfl, hl, hlen, pMod_bind l⟩
  generalize st ++ [mdl 0 0 0 0 nils, urB g l 0] = s0 at *
  have hup : upM st.length M (st.length + 1) = true := by simp [upM]
  refine unum_p hu0 hup hP0 fun a l1 e1 hP1 => ?_
  refine unum_p (get_set hu0 _) hup hP1 fun b l2 e2 hP2 => ?_
  rw [List.set_set]
  refine unum_p (get_set hu0 _) hup hP2 fun c l3 e3 hP3 => ?_
  rw [List.set_set]
  refine unum_p (get_set hu0 _) hup hP3 fun d l4 e4 hP4 => ?_
  rw [List.set_set]
  have hu4 := get_set hu0 (urB g l4 e4)
  have hk4 := hk0.set (b := st.length + 1) (by omega) (urB g l4 e4)
  have hr4 := get_ne hr0 (show st.length + 1 ≠ st.length by omega) (urB g l4 e4)
  have hn4 : (s0.set (st.length + 1) (urB g l4 e4)).length = st.length + 2 := by simp [hn0]
  generalize s0.set (st.length + 1) (urB g l4 e4) = s4 at *
  simp
  rw [hn4]
  refine ⟨by simp [upM], ?_⟩
  exact two _ (s4 ++ [mdl a b c d nils]) g a b c d l4 e4 (hk4.more _) (by simp [hn4]) (get_more hr4 _) (get_more hu4 _) (by rw [← hn4]; simp) hP4 (by simp) (by simp) (by simp) (by simp)
end
end Go.Proofs.YtkcdgaijklhnaaaGreatDoor.Vm
namespace Go.Proofs.YtkcdgaijklhnaaaGreatDoor.Vm
open Go.RowKit
def fAll (l : List Int) : LModel × Int := if (pAll l).2 ≠ 0 then (zM, (pAll l).2) else if chkM (pAll l).1 ≠ 0 then (zM, chkM (pAll l).1) else ((pAll l).1, 0)
theorem pMany_sum : ∀ {n : Nat} {acc l out r : List Int}, pMany n acc l = .inr (out, r) → isB l → out.length + r.length ≤ acc.length + l.length := fun h hl => (pMany_rest h hl).2.2.2
theorem pLst_sum {l out r : List Int} (h : pLst l = .inr (out, r)) (hl : isB l) : out.length + r.length ≤ l.length := by
  unfold pLst at h
  split at h
  · cases h
  · rename_i n r' hn
    obtain ⟨h1, h2, h3⟩ := pCnt_rest hn hl
    have := pMany_sum h h1
    simp at this
    omega
theorem pGo_sum : ∀ {n : Nat} {acc : List (List Int)} {l : List Int} {out : List (List Int)} {r : List Int}, pGo n acc l = .inr (out, r) → isB l → sumLen out + r.length ≤ sumLen acc + l.length ∧ out.length = acc.length + n
  | 0, acc, l, out, r, h, hl => by cases h; exact ⟨Nat.le_refl _, rfl⟩
  | n + 1, acc, l, out, r, h, hl => by
    unfold pGo at h
    split at h
    · cases h
    · rename_i x r' hx
      have h1 := pLst_sum hx hl
      obtain ⟨h2, h3⟩ := pGo_sum h (pLst_rest hx hl).1
      simp [sumLen] at h2 h3 ⊢
      omega
theorem sum_toM {acc : List (List Int)} (h : acc.length = 7) (a b c d : Int) : sumLen (listsM (toM a b c d acc)) = sumLen acc := by
  match acc, h with
  | [x0, x1, x2, x3, x4, x5, x6], _ => rfl
theorem pMod_sum {l : List Int} {m : LModel} {r : List Int} (h : pMod l = .inr (m, r)) (hl : isB l) : sumLen (listsM m) ≤ l.length := by
  unfold pMod at h
  split at h
  · cases h
  rename_i h1
  split at h
  · cases h
  rename_i h2
  split at h
  · cases h
  rename_i h3
  split at h
  · cases h
  rename_i h4
  split at h
  · cases h
  rename_i h5
  cases h
  obtain ⟨i1, k1⟩ := pNum_rest h1 hl
  obtain ⟨i2, k2⟩ := pNum_rest h2 i1
  obtain ⟨i3, k3⟩ := pNum_rest h3 i2
  obtain ⟨i4, k4⟩ := pNum_rest h4 i3
  obtain ⟨s1, s2⟩ := pGo_sum h5 i4
  rw [sum_toM (by simpa using s2)]
  simp [sumLen] at s1 ⊢
  omega
theorem pAll_sum {l : List Int} (hl : isB l) : sumLen (listsM (pAll l).1) ≤ l.length := by
  unfold pAll
  split
  · simp [listsM, zM, sumLen]
  · rename_i h
    split
    · exact pMod_sum h hl
    · simp [listsM, zM, sumLen]
theorem sum_mem {xs : List (List Int)} {n : Nat} (h : sumLen xs ≤ n) : ∀ x ∈ xs, x.length ≤ n := by
  induction xs with
  | nil => simp
  | cons y r ih =>
    simp [sumLen] at h ih ⊢
    exact ⟨by omega, fun x hx => ih (by omega) x hx⟩
section
variable {T : Tbl} {M : Nat → Bool} {st : St} {K : V → St → Prop} {Kp : List PanicEntry → St → Prop} {E : Env} {w : World} (fl : Nat → Bool) {m : LModel}
theorem gvs (hs : sumLen (listsM m) ≤ 1000000) {us : List Value} (hu : Pw E st w [encM fl m] us) : ∃ v, us = [v] ∧ VModel w.cell? v m := by
  obtain ⟨v, rfl, h1⟩ := pw1 hu
  exact ⟨v, rfl, vmodel_of h1 fun l hl => by have := sum_mem hs l hl; omega⟩
theorem fault_s (hs : sumLen (listsM m) ≤ 1000000) (hK : K (I (chkM m)) st) : CallV Tryz.prog T M 7 [encM fl m] st K Kp :=
  CallV.of_read (uV := I (chkM m)) (u := .int .i64 (chkM m)) (G := fun w us => ∃ v, us = [v] ∧ VModel w.cell? v m) (by kernel_rfl) (fun _ _ _ _ _ _ _ hu => gvs fl hs hu) (fun w us ⟨v, h1, h2⟩ => by
    subst h1; exact fault_any m v w h2 (by simp [sumLen, listsM] at hs ⊢; omega) (by simp [sumLen, listsM] at hs ⊢; omega)) (fun E w => .pure (.val _)) hK
theorem check_s (hs : sumLen (listsM m) ≤ 1000000) (hK : K (I (chkM m)) st) : CallV Tryz.prog T M 46 [encM fl m] st K Kp :=
  CallV.of_read (uV := I (chkM m)) (u := .int .i64 (chkM m)) (G := fun w us => ∃ v, us = [v] ∧ VModel w.cell? v m) (by kernel_rfl) (fun _ _ _ _ _ _ _ hu => gvs fl hs hu) (fun w us ⟨v, h1, h2⟩ => by
    subst h1; exact mcheck_any m v w h2 (by simp [sumLen, listsM] at hs ⊢; omega)) (fun E w => .pure (.val _)) hK
end
section
variable {T : Tbl} {M : Nat → Bool} {st : St} {K : V → St → Prop} {Kp : List PanicEntry → St → Prop}
theorem rFrom_v {f : Bool} {l : List Int} (hl : isB l) (hlen : l.length ≤ 1000000) (hK : ∀ fl, K (.tup [encM fl (fAll l).1, I (fAll l).2]) st) : CallV Tryz.prog T M 14 [.lst f (bys l)] st K Kp := by
  refine CallV.give (fun_ok hmix c_rFrom (le_of rfl) ?_)
  have hZ : Blk.row 27 11 [V.agg [I 0, I 0, I 0, I 0, .lst true [], .lst true [], .lst true [], .lst true [], .lst true [], .lst true [], .lst true []]] = mdl 0 0 0 0 nils := rfl
  have hs := pAll_sum hl
  simp [F_rFrom]
  refine rmFrom_v hl hlen fun fl m hm => ?_
  by_cases he : (pAll l).2 = 0
  · have hm' := hm he
    subst hm'
    simp [encM, he]
    rw [← encM]
    refine fault_s fl (by omega) ?_
    by_cases hc : chkM (pAll l).1 = 0
    · have hf : fAll l = ((pAll l).1, 0) := by unfold fAll; rw [if_neg (fun h => h he), if_neg (fun h => h hc)]
      have := hK fl
      rw [hf] at this
      simp [hc, encM]
      exact ⟨_, frz_me _ _ fl _ 0, ((KeepL.refl st).more _).low, this⟩
    · have hf : fAll l = (zM, chkM (pAll l).1) := by unfold fAll; rw [if_neg (fun h => h he), if_pos hc]
      have := hK (fun _ => true)
      rw [hf] at this
      have hcb : (chkM (pAll l).1 != 0) = true := by simpa using hc
      simp [hcb]
      exact ⟨_, frz_me _ _ (fun _ => true) zM _, ((KeepL.refl st).more _).low, this⟩
  · have hf : fAll l = (zM, (pAll l).2) := by unfold fAll; rw [if_pos he]
    have := hK (fun _ => true)
    rw [hf] at this
    have heb : ((pAll l).2 == 0) = false := by simpa using he
    have heb2 : ((pAll l).2 != 0) = true := by simpa using he
    simp [encM, heb, heb2]
    exact ⟨_, frz_me _ _ (fun _ => true) zM _, ((KeepL.refl st).more _).low, this⟩
theorem mparse_v {f : Bool} {l : List Int} (hl : isB l) (hlen : l.length ≤ 1000000) (hK : ∀ fl, K (.tup [encM fl (pAll l).1, I (pAll l).2]) st) : CallV Tryz.prog T M 50 [.lst f (bys l)] st K Kp := by
  refine CallV.give (fun_ok hmix c_mparse (le_of rfl) ?_)
  simp [F_mparse]
  refine cread_v hl hlen fun fl => ?_
  simp [encM]
  exact ⟨_, frz_me _ _ fl _ _, ((KeepL.refl st).more _).low, hK fl⟩
theorem mchecked_v {fl : Nat → Bool} {m : LModel} (hs : sumLen (listsM m) ≤ 1000000) (hK : ∀ fl, K (.tup [encM fl (if chkM m ≠ 0 then zM else m), I (chkM m)]) st) : CallV Tryz.prog T M 51 [encM fl m] st K Kp := by
  refine CallV.give (fun_ok hmix c_mchecked (le_of rfl) ?_)
  simp [F_mchecked, encM]
  rw [← encM]
  refine check_s fl hs ?_
  by_cases hc : chkM m = 0
  · have := hK fl
    rw [if_neg (fun h => h hc), hc] at this
    simp [hc, encM]
    exact ⟨_, frz_me _ _ fl _ 0, ((KeepL.refl st).more _).low, this⟩
  · have := hK (fun _ => true)
    rw [if_pos hc] at this
    have hcb : (chkM m != 0) = true := by simpa using hc
    simp [hcb]
    exact ⟨_, frz_me _ _ (fun _ => true) zM _, ((KeepL.refl st).more _).low, this⟩
theorem mFrom_v {f : Bool} {l : List Int} (hl : isB l) (hlen : l.length ≤ 1000000) (hK : ∀ fl, K (.tup [encM fl (fAll l).1, I (fAll l).2]) st) : CallV Tryz.prog T M 13 [.lst f (bys l)] st K Kp := by
  refine CallV.give (fun_ok hmix c_mFrom (le_of rfl) ?_)
  have hs := pAll_sum hl
  simp [F_mFrom]
  refine mparse_v hl hlen fun fl => ?_
  by_cases he : (pAll l).2 = 0
  · simp [encM, he]
    rw [← encM]
    refine mchecked_v (by omega) fun fl2 => ?_
    by_cases hc : chkM (pAll l).1 = 0
    · have hf : fAll l = ((pAll l).1, 0) := by unfold fAll; rw [if_neg (fun h => h he), if_neg (fun h => h hc)]
      have := hK fl2
      rw [hf] at this
      rw [if_neg (fun h => h hc), hc]
      simp [encM]
      exact ⟨_, frz_me _ _ fl2 _ 0, ((KeepL.refl st).more _).low, this⟩
    · have hf : fAll l = (zM, chkM (pAll l).1) := by unfold fAll; rw [if_neg (fun h => h he), if_pos hc]
      have := hK fl2
      rw [hf] at this
      rw [if_pos hc]
      simp [encM]
      exact ⟨_, frz_me _ _ fl2 zM _, ((KeepL.refl st).more _).low, this⟩
  · have hf : fAll l = (zM, (pAll l).2) := by unfold fAll; rw [if_pos he]
    have := hK (fun _ => true)
    rw [hf] at this
    have heb2 : ((pAll l).2 != 0) = true := by simpa using he
    simp [encM, heb2]
    exact ⟨_, frz_me _ _ (fun _ => true) zM _, ((KeepL.refl st).more _).low, this⟩
end
end Go.Proofs.YtkcdgaijklhnaaaGreatDoor.Vm
namespace Go.Proofs.YtkcdgaijklhnaaaGreatDoor.Vm
open Go.RowKit
structure EsL (vs : List V) (es : List (List Int)) : Prop where
  len : vs.length = es.length
  get : ∀ (i : Nat) (e : List Int), es[i]? = some e → ∃ g, vs[i]? = some (V.lst g (ints e))
  low : es.length ≤ 1000 ∧ ∀ e ∈ es, e.length ≤ 1000
end Go.Proofs.YtkcdgaijklhnaaaGreatDoor.Vm
namespace Go.Proofs.YtkcdgaijklhnaaaGreatDoor.Vm
open Go.RowKit
theorem But.trans {sb : Nat} {s s1 s2 : St} (h : But sb s s1) (k : But sb s1 s2) : But sb s s2 := ⟨k.1.trans h.1, fun b hb => (k.2 b hb).trans (h.2 b hb)⟩
end Go.Proofs.YtkcdgaijklhnaaaGreatDoor.Vm
namespace Go.Proofs.YtkcdgaijklhnaaaGreatDoor.Vm
open Go.RowKit
theorem EsL.take {vs : List V} {es : List (List Int)} (h : EsL vs es) (r : Nat) : EsL (vs.take r) (es.take r) := by
  refine ⟨by simp [h.len], fun i e he => ?_, by simp; have := h.low.1; omega, fun e he => h.low.2 e (List.mem_of_mem_take he)⟩
  have hi : i < r := by
    have := (List.getElem?_eq_some_iff.1 he).1
    simp at this
    omega
  rw [List.getElem?_take_of_lt hi] at he ⊢
  exact h.get i e he
theorem EsL.set {vs : List V} {es : List (List Int)} (h : EsL vs es) (k : Nat) (g : Bool) (e : List Int) (he : e.length ≤ 1000) : EsL (vs.set k (.lst g (ints e))) (es.set k e) := by
  refine ⟨by simp [h.len], fun i e' hi => ?_, by simp; exact h.low.1, fun x hx => ?_⟩
  · by_cases hik : k = i
    · subst hik
      have hlt : k < es.length := by have := (List.getElem?_eq_some_iff.1 hi).1; simpa using this
      rw [List.getElem?_set_self hlt] at hi
      rw [List.getElem?_set_self (by rw [h.len]; exact hlt)]
      cases hi
      exact ⟨g, rfl⟩
    · rw [List.getElem?_set_ne hik] at hi ⊢
      exact h.get i e' hi
  · rcases List.mem_or_eq_of_mem_set hx with h1 | rfl
    · exact h.low.2 x h1
    · exact he
theorem EsL.el {vs : List V} {es : List (List Int)} (h : EsL vs es) {i : Nat} {x : V} (hx : vs[i]? = some x) : x.cells = [x] ∧ x.leaf = true ∧ x.pl = true := by
  have hi : i < es.length := by rw [← h.len]; exact (List.getElem?_eq_some_iff.1 hx).1
  obtain ⟨g, hg⟩ := h.get i _ (List.getElem?_eq_getElem hi)
  rw [hx] at hg
  cases hg
  exact ⟨rfl, rfl, rfl⟩
def ownN : V → Nat
  | .own _ L _ _ => L
  | _ => 0
@[simp] theorem ownN_own (b L i n : Nat) : ownN (.own b L i n) = L := nr rfl
end Go.Proofs.YtkcdgaijklhnaaaGreatDoor.Vm
namespace Go.Proofs.YtkcdgaijklhnaaaGreatDoor
open Go.RowKit Go.ChangeShapes
theorem laid_out : laidOutB Tryz.prog = true := by kernel_rfl
theorem readable_ints : Tryz.prog.readableRec 22 = true := by kernel_rfl
theorem row_ints : 22 < Tryz.prog.types.size := of_decide_eq_true (by kernel_rfl)
theorem cells_int : Tryz.prog.cellsOf 3 = 1 := by kernel_rfl
set_option maxRecDepth 100000 in
theorem li_of {H : Type} {enc : TypeId × Value → H} {W : World} {base : Nat} {v : Value} {d : DataW H} {p : List MemPlace}
    (hv : Value.okWide Tryz.prog W .any base 22 v) (h : DataW.Trod enc Tryz.prog W 0 (fun _ => true) true 22 v d p) : ∃ xs, LI W v xs := by
  obtain ⟨A, n, c, rfl⟩ := Go.WideShapes.okWide_slice Tryz.underlying22 hv
  obtain ⟨fuel, hf⟩ := h
  rcases open_ints Tryz.underlying22 Tryz.underlying3 cells_int hf with ⟨hcs, -⟩ | ⟨a, len, cap, zs, hcs, -, hle, hmax, hall, -, hcell, hwf⟩
  · simp [Value.cells] at hcs
    obtain ⟨rfl, rfl, rfl⟩ := hcs
    exact ⟨[], Sl.nil_ W, Nat.zero_le _, fun x hx => by cases hx⟩
  · simp [Value.cells] at hcs
    obtain ⟨rfl, rfl, rfl⟩ := hcs
    simp only [if_true] at hall
    have hl : (zs.take n).length = n := by rw [List.length_take]; omega
    refine ⟨zs.take n, ⟨some a, c, by rw [i64s_length, hl], by rw [i64s_length, hl]; exact hle, hmax, fun h0 => ?_⟩, by rw [hl]; omega, fun x hx => ?_⟩
    · rw [i64s_length, hl] at h0
      obtain ⟨b, off, rfl, hc⟩ := ints_at hcell (by omega)
      refine ⟨b, off, rfl, fun j u hu => ?_⟩
      have hj : j < n := by
        have := (List.getElem?_eq_some_iff.1 hu).1
        rwa [i64s_length, hl] at this
      rw [i64s_at (by rw [hl]; exact hj)] at hu
      injection hu with hu
      subst hu
      rw [hc j (by omega)]
      simp [hj]
    · exact bounds_i64 (hwf x (List.mem_of_mem_take hx))
end Go.Proofs.YtkcdgaijklhnaaaGreatDoor
