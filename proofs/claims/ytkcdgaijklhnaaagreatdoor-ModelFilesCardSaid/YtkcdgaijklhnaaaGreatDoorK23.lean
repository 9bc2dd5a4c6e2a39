/-
  The source of bytes, run by the value machine.
  A model is read from bytes, run by the value machine: models.lists, the reader of models.parse.
  codec.Read of a model, run by the value machine.
  The reference's unpacker, run by the value machine.
  Entries of a model, in plain terms and run by the value machine.
  Scores of a model, in plain terms and run by the value machine: the program and the reference.
  slices.IndexFunc, slices.ContainsFunc at ints; models.all: run by the value machine.
-/
import Derived.Test.YtkcdgaijklhnaaaGreatDoorK22
import Derived.Test.YtkcdgaijklhnaaaGreatDoorK21
import Derived.Test.YtkcdgaijklhnaaaGreatDoorK07
import Derived.Test.YtkcdgaijklhnaaaGreatDoorK05
import Derived.Test.YtkcdgaijklhnaaaGreatDoorK08
namespace Go.Proofs.YtkcdgaijklhnaaaGreatDoor.Vm
open Go.RowKit
theorem bys_one (l : List Int) : ∀ x ∈ bys l, x.cells.length = 1 := fun x hx => by obtain ⟨z, -, rfl⟩ := List.mem_map.1 hx; rfl
def srcB (f : Bool) (l : List Int) : Blk := .row 175 1 [.agg [.lst f (bys l)]]
def pe (e : Int) : PanicEntry := { v := .iface 29 (.int .i64 e), recovered := false }
section
variable {T : Tbl} {M : Nat → Bool} {st : St} {K : V → St → Prop} {Kp : List PanicEntry → St → Prop}
theorem sbyte_v {f : Bool} {l : List Int} {sb : Nat} (hs : st[sb]? = some (srcB f l)) (hM : M sb = true) (h0 : l = [] → Kp [pe 11] st) (h1 : ∀ c r, l = c :: r → K (.val (.int .u8 c)) (st.set sb (srcB f r))) : CallV Tryz.prog T M 138 [.ptr sb 1 0 0] st K Kp := by
 refine fun_ok hmix c_sbyte (le_of rfl) ?_
 have hup : upM st.length M sb = true := upM_of hM
 simp only [srcB] at hs
 cases l with
 | nil =>
  simp [F_sbyte, hs, bys]
  exact h0 rfl
 | cons c r =>
  rw [bys_cons] at hs
  have hb : ((r.length : Int) + 1 == 0) = false := by simp; omega
  have ht : List.take r.length (bys r) = bys r := List.take_of_length_le (by simp)
  simp [F_sbyte, hs, hup, hb, ht]
  exact ⟨bys_one r, h1 c r rfl⟩
theorem or64 {a d : Int} {j : Nat} (hj : j ≤ 4) (ha : 0 ≤ a ∧ a < 2 ^ (7 * j)) (hd : 0 ≤ d ∧ d < 128) : IntKind.i64.wrap (BitVec.ofInt IntKind.i64.bits a ||| BitVec.ofInt IntKind.i64.bits (d * 2 ^ (7 * j))).toNat = a + d * 2 ^ (7 * j) ∧ a + d * 2 ^ (7 * j) < 2 ^ (7 * (j + 1)) ∧ d * 2 ^ (7 * j) ≤ 34091302912 := by
 have h := or_place hj ha hd
 obtain ⟨p, hp⟩ : ∃ p : Nat, p = 2 ^ (7 * j) := ⟨_, rfl⟩
 have hp2 : (2 : Int) ^ (7 * j) = (p : Int) := by rw [hp]; push_cast; rfl
 have hpl : p ≤ 268435456 := by
  have : (2 : Nat) ^ (7 * j) ≤ 2 ^ 28 := Nat.pow_le_pow_right (by omega) (by omega)
  rw [hp]; exact this
 have hn : (2 : Int) ^ (7 * (j + 1)) = 128 * (p : Int) := by
  rw [show 7 * (j + 1) = 7 * j + 7 by omega, Int.pow_add, hp2]
  omega
 have e : (BitVec.ofInt IntKind.i64.bits a ||| BitVec.ofInt IntKind.i64.bits (d * 2 ^ (7 * j))).toNat = a.toNat + d.toNat * 2 ^ (7 * j) := h
 rw [e, hn]
 rw [hp2] at ha ⊢
 obtain ⟨a, rfl⟩ : ∃ n : Nat, a = (n : Int) := ⟨a.toNat, by omega⟩
 obtain ⟨d, rfl⟩ : ∃ n : Nat, d = (n : Int) := ⟨d.toNat, by omega⟩
 have hdp : d * p ≤ 127 * p := Nat.mul_le_mul_right p (by omega)
 have hz : ((d : Int) * (p : Int)) = ((d * p : Nat) : Int) := by push_cast; rfl
 rw [hz]
 simp only [Int.toNat_natCast, ← hp]
 refine ⟨?_, by omega, by omega⟩
 rw [w64 (by omega) (by omega)]
 push_cast
 rfl
theorem snum_t {c X : Int} {k : Nat} (_hc : 0 ≤ c ∧ c ≤ 255) (_hk : k ≤ 4) (fr : Fr) (s : St) (Q : Post) (z3 : fr.g 3 = I X) (z4 : fr.g 4 = I k) (z5 : fr.g 5 = .val (.int .u8 c)) (hdf : fr.df = []) {M2 : Nat → Nat → Bool}
  (hpan : ((c < 128 ∧ c = 0 ∧ 0 < k) ∨ (¬ c < 128 ∧ k = 4)) → ∀ fr' : Fr, fr'.df = [] → Q (.panic [pe 3]) fr' s) (hexit : c < 128 → ¬ (c = 0 ∧ 0 < k) → ∀ fr' : Fr, fr'.g 3 = I X → fr'.df = [] → Q (.exit 0) fr' s) (hnorm : ¬ c < 128 → k ≠ 4 → ∀ fr' : Fr, fr'.g 3 = I X → fr'.g 4 = I k → fr'.g 0 = fr.g 0 → fr'.df = [] → Q .normal fr' s) :
  wpM Tryz.prog T M2 F_snum.code.r.r.l.r.bb.bb.l.bb.r.r Q fr s := by
 by_cases c1 : c < 128
 ·by_cases c2 : c = 0
  ·by_cases c3 : 0 < k
   ·simp [F_snum, MC.l, MC.r, MC.bb, z4, z5, c2, c3]
    exact hpan (Or.inl ⟨c1, c2, c3⟩) _ (by simp [hdf])
   ·simp [F_snum, MC.l, MC.r, MC.bb, z4, z5, c2, c3]
    exact hexit c1 (fun h => c3 h.2) _ (by simp [z3]) (by simp [hdf])
  ·have cb : (c == 0) = false := by simpa using c2
   simp [F_snum, MC.l, MC.r, MC.bb, z4, z5, c1, cb]
   exact hexit c1 (fun h => c2 h.1) _ (by simp [z3]) (by simp [hdf])
 ·by_cases c2 : k = 4
  ·simp [F_snum, MC.l, MC.r, MC.bb, z4, z5, c1, c2]
   exact hpan (Or.inr ⟨c1, c2⟩) _ (by simp [hdf])
  ·have hk4 : ((k : Int) == 4) = false := by simp; omega
   simp [F_snum, MC.l, MC.r, MC.bb, z4, z5, c1, hk4]
   exact hnorm c1 c2 _ (by simp [z3]) (by simp [z4]) (by simp) (by simp [hdf])
theorem snum_v {f : Bool} {l : List Int} {sb : Nat} (hs : st[sb]? = some (srcB f l)) (hM : M sb = true) (hl : isB l) (h0 : ∀ e r, pNum l = .inl e → Kp [pe e] (st.set sb (srcB f r))) (h1 : ∀ n r, pNum l = .inr (n, r) → K (I n) (st.set sb (srcB f r))) : CallV Tryz.prog T M 95 [.ptr sb 1 0 0] st K Kp := by
 refine fun_ok hmix c_snum (le_of rfl) ?_
 have hup : upM st.length M sb = true := upM_of hM
 have hlt : sb < st.length := (List.getElem?_eq_some_iff.1 hs).1
 have fin : ∀ (fr : Fr) (u : Int) (r : List Int), pU 4 0 0 l = .inr (u, r) → 0 ≤ u → u < 34359738368 → fr.g 3 = I u → fr.df = [] → wpM Tryz.prog T (liftM (upM st.length M)) F_snum.code.r.r.r (Fin F_snum.res K Kp) fr (st.set sb (srcB f r)) := fun fr u r hp u0 u1 z3 hdf => by
  have hr : (u.tmod 2 == 1) = decide (u % 2 = 1) := by rw [Int.tmod_eq_emod_of_nonneg u0]; rfl
  have hq : u.tdiv 2 = u / 2 := Int.tdiv_eq_ediv_of_nonneg u0
  have hpn : pNum l = pFin (.inr (u, r)) := by unfold pNum; rw [hp]
  have e2 : F_snum.code.r.r.r = .seq F_snum.code.r.r.r.l (.seq F_snum.code.r.r.r.r.l F_snum.code.r.r.r.r.r) := rfl
  have rest : ∀ (fr : Fr) (n : Int), n = decU u → fr.g 6 = I n → fr.df = [] → wpM Tryz.prog T (liftM (upM st.length M)) F_snum.code.r.r.r.r.r (Fin F_snum.res K Kp) fr (st.set sb (srcB f r)) := fun fr n hn z6 hdf => by
   by_cases hw : u < 4294967296
   ·have hpn' : pNum l = .inr (n, r) := by rw [hpn, hn]; exact if_pos hw
    have n1 : ¬ n < -2147483648 := by rw [hn]; unfold decU; split <;> omega
    have n2 : ¬ 2147483647 < n := by rw [hn]; unfold decU; split <;> omega
    simp [F_snum, MC.r, z6, n1, n2, hdf]
    exact h1 n r hpn'
   ·have hpn' : pNum l = .inl 3 := by rw [hpn]; exact if_neg hw
    by_cases n1 : n < -2147483648
    ·simp [F_snum, MC.r, z6, n1, hdf]
     exact h0 3 r hpn'
    ·have n2 : 2147483647 < n := by rw [hn] at n1 ⊢; unfold decU at n1 ⊢; split at n1 <;> simp_all <;> omega
     simp [F_snum, MC.r, z6, n1, n2, hdf]
     exact h0 3 r hpn'
  generalize F_snum.code.r.r.r.r.r = c5 at rest e2
  rw [e2]
  by_cases ho : u % 2 = 1
  ·simp [F_snum, MC.l, MC.r, z3, hr, hq, ho, w64 (n := u / 2) (by omega) (by omega), w64 (n := -(u / 2)) (by omega) (by omega), w64 (n := -(u / 2) - 1) (by omega) (by omega)]
   exact rest _ _ (by unfold decU; rw [if_pos ho]) (by simp) (by simp [hdf])
  ·simp [F_snum, MC.l, MC.r, z3, hr, hq, ho, w64 (n := u / 2) (by omega) (by omega)]
   exact rest _ _ (by unfold decU; rw [if_neg ho]) (by simp) (by simp [hdf])
 have e1 : F_snum.code = .seq F_snum.code.l (.seq F_snum.code.r.l (.seq F_snum.code.r.r.l F_snum.code.r.r.r)) := rfl
 generalize F_snum.code.r.r.r = c3 at fin e1
 rw [e1]
 simp [F_snum, MC.l, MC.r]
 refine wp_mloop (fun fr s => ∃ (k : Nat) (acc : Int) (l' : List Int), k ≤ 4 ∧ s = st.set sb (srcB f l') ∧ isB l' ∧ 0 ≤ acc ∧ acc < 2 ^ (7 * k) ∧ pU 4 0 0 l = pU (4 - k) k acc l' ∧ fr.df = [] ∧ fr.g 0 = .ptr sb 1 0 0 ∧ fr.g 3 = I acc ∧ fr.g 4 = I k) (fun fr _ => 5 - nat (fr.g 4))
  ⟨0, 0, l, by omega, (set_same hs).symm, hl, by omega, by simp, rfl, by simp, by simp, by simp, by simp⟩ ?_
 rintro fr s ⟨k, acc, l', hk, rfl, hl', a0, a1, hp, hdf, z0, z3, z4⟩
 have tb := fun (c X : Int) (hc : 0 ≤ c ∧ c ≤ 255) (fr : Fr) (s : St) (Q : Post) => snum_t (T := T) (M2 := liftM (upM st.length M)) (X := X) hc hk fr s Q
 have e3 : F_snum.code.r.r.l.r.bb.bb.l.bb = .seq F_snum.code.r.r.l.r.bb.bb.l.bb.l (.seq F_snum.code.r.r.l.r.bb.bb.l.bb.r.l F_snum.code.r.r.l.r.bb.bb.l.bb.r.r) := rfl
 have e4 : F_snum.code.r.r.l.r.bb.bb = .seq (.block 1 F_snum.code.r.r.l.r.bb.bb.l.bb) F_snum.code.r.r.l.r.bb.bb.r := rfl
 show wpM Tryz.prog T _ F_snum.code.r.r.l.r.bb.bb _ fr _
 rw [e4, e3]
 generalize F_snum.code.r.r.l.r.bb.bb.l.bb.r.r = cT at tb ⊢
 simp [F_snum, MC.l, MC.r, MC.bb, z0]
 refine sbyte_v (f := f) (l := l') (by simp [hlt]) hup (fun e => ?_) (fun c r e => ?_)
 ·subst e
  have : pNum l = .inl 11 := by unfold pNum; rw [hp]; cases (4 - k) <;> rfl
  simp [hdf]
  exact h0 11 [] this
 ·subst e
  have hc := hl' c List.mem_cons_self
  have h127 := and127 hc
  obtain ⟨hor, hor2, hor3⟩ := or64 hk ⟨a0, a1⟩ (d := c % 128) (by omega)
  obtain ⟨X, hX⟩ : ∃ X, X = acc + c % 128 * 2 ^ (7 * k) := ⟨_, rfl⟩
  have hsh : IntKind.i64.wrap (c % 128 * 2 ^ (7 * k)) = c % 128 * 2 ^ (7 * k) := w64 (by have : (0 : Int) ≤ 2 ^ (7 * k) := Int.pow_nonneg (by omega); have := Int.mul_nonneg (show 0 ≤ c % 128 by omega) this; omega) (by omega)
  rw [← hX] at hor hor2
  have hx0 : 0 ≤ X := by have : (0 : Int) ≤ 2 ^ (7 * k) := Int.pow_nonneg (by omega); have := Int.mul_nonneg (show 0 ≤ c % 128 by omega) this; omega
  have hx1 : X < 34359738368 := Int.lt_of_lt_of_le hor2 (by
   have : (2 : Nat) ^ (7 * (k + 1)) ≤ 2 ^ 35 := Nat.pow_le_pow_right (by omega) (by omega)
   have e : (2 : Int) ^ (7 * (k + 1)) = ((2 ^ (7 * (k + 1)) : Nat) : Int) := by push_cast; rfl
   rw [e]
   have : (2 : Nat) ^ 35 = 34359738368 := by decide
   omega)
  have w7 : IntKind.i64.wrap (7 * (k : Int)) = 7 * (k : Int) := w64 (by omega) (by omega)
  have wc : IntKind.i64.wrap (c % 128) = c % 128 := w64 (by omega) (by omega)
  have mn : min (7 * (k : Int)).toNat IntKind.i64.bits = 7 * k := by simp [IntKind.bits]; omega
  have b0 : (0 : Int) ≤ 7 * k := by omega
  simp at h127 hor
  have hpX : pU (4 - k) k acc (c :: r) = if c < 128 then (if c = 0 ∧ 0 < k then .inl 3 else .inr (X, r)) else (if k = 4 then .inl 3 else pU (4 - (k + 1)) (k + 1) X r) := by
   by_cases h4 : k = 4
   ·subst h4; rw [hX]; rfl
   ·obtain ⟨j, hj⟩ : ∃ j, 4 - k = j + 1 := ⟨3 - k, by omega⟩
    have hj2 : 4 - (k + 1) = j := by omega
    rw [hj, hj2, if_neg h4, hX]
    rfl
  rw [hpX] at hp
  simp [z3, z4, h127, hor, hsh, w7, wc, mn, b0]
  refine tb c X hc _ _ _ (by simp) (by simp [z4]) (by simp) (by simp [hdf]) (fun h fr' y => ?_) (fun c1 c2 fr' y3 ydf => ?_) (fun c1 c2 fr' y3 y4 y0 ydf => ?_)
  ·have : pNum l = .inl 3 := by
    unfold pNum
    rw [hp]
    rcases h with ⟨c1, c2, c3⟩ | ⟨c1, c2⟩
    ·rw [if_pos c1, if_pos ⟨c2, c3⟩]; rfl
    ·rw [if_neg c1, if_pos c2]; rfl
   simp [y]
   exact h0 3 r this
  ·rw [if_pos c1, if_neg c2] at hp
   simp
   exact fin _ X r hp hx0 hx1 y3 ydf
  ·rw [if_neg c1, if_neg c2] at hp
   have hw1 : IntKind.i64.wrap ((k : Int) + 1) = ((k + 1 : Nat) : Int) := by rw [w64 (n := (k : Int) + 1) (by omega) (by omega)]; push_cast; rfl
   simp [y3, y4, hw1, -Int.natCast_add]
   exact ⟨⟨k + 1, by omega, X, r, rfl, hl'.tail, hx0, hor2, hp, ydf, by rw [y0]; simp [z0], rfl, rfl⟩, by omega⟩
theorem pU_suf : ∀ {f k : Nat} {acc : Int} {l : List Int} {u : Int} {r : List Int}, pU f k acc l = .inr (u, r) → ∃ p, l = p ++ r ∧ p ≠ []
 | f, k, acc, [], u, r, h => by cases f <;> cases h
 | 0, k, acc, c :: l, u, r, h => by
  unfold pU at h
  split at h
  ·split at h
   ·cases h
   ·cases h; exact ⟨[c], rfl, by simp⟩
  ·cases h
 | f + 1, k, acc, c :: l, u, r, h => by
  unfold pU at h
  split at h
  ·split at h
   ·cases h
   ·cases h; exact ⟨[c], rfl, by simp⟩
  ·obtain ⟨p, rfl, -⟩ := pU_suf h
   exact ⟨c :: p, rfl, by simp⟩
theorem pNum_suf {l : List Int} {n : Int} {r : List Int} (h : pNum l = .inr (n, r)) : ∃ p, l = p ++ r ∧ p ≠ [] := by
 unfold pNum at h
 cases hu : pU 4 0 0 l with
 | inl e => rw [hu] at h; cases h
 | inr q =>
  obtain ⟨u, r'⟩ := q
  rw [hu] at h
  simp only [pFin] at h
  split at h
  ·cases h; exact pU_suf hu
  ·cases h
theorem pNum_rest {l : List Int} {n : Int} {r : List Int} (h : pNum l = .inr (n, r)) (hl : isB l) : isB r ∧ r.length + 1 ≤ l.length := by
 obtain ⟨p, rfl, hp⟩ := pNum_suf h
 refine ⟨fun x hx => hl x (List.mem_append_right _ hx), ?_⟩
 have : p.length ≠ 0 := fun e => hp (List.eq_nil_of_length_eq_zero e)
 simp; omega
theorem pCnt_rest {l : List Int} {n : Int} {r : List Int} (h : pCnt l = .inr (n, r)) (hl : isB l) : isB r ∧ r.length + 1 ≤ l.length ∧ 0 ≤ n := by
 unfold pCnt at h
 split at h
 ·cases h
 ·rename_i n' r' hn
  split at h
  ·cases h
  ·cases h
   obtain ⟨h1, h2⟩ := pNum_rest hn hl
   exact ⟨h1, h2, by omega⟩
theorem scount_v {f : Bool} {l : List Int} {sb : Nat} (hs : st[sb]? = some (srcB f l)) (hM : M sb = true) (hl : isB l) (h0 : ∀ e r, pCnt l = .inl e → Kp [pe e] (st.set sb (srcB f r))) (h1 : ∀ n r, pCnt l = .inr (n, r) → K (I n) (st.set sb (srcB f r))) : CallV Tryz.prog T M 139 [.ptr sb 1 0 0] st K Kp := by
 refine fun_ok hmix c_scount (le_of rfl) ?_
 simp [F_scount]
 refine snum_v hs (upM_of hM) hl (fun e r h => ?_) (fun n r h => ?_)
 ·have : pCnt l = .inl e := by unfold pCnt; rw [h]
  exact h0 e r this
 ·by_cases hn : n < 0
  ·have : pCnt l = .inl 3 := by unfold pCnt; rw [h]; exact if_pos hn
   simp [hn]
   exact h0 3 r this
  ·have : pCnt l = .inr (n, r) := by unfold pCnt; rw [h]; exact if_neg hn
   simp [hn]
   exact h1 n r this
theorem slisted_v {f : Bool} {l : List Int} {sb : Nat} (hs : st[sb]? = some (srcB f l)) (hM : M sb = true) (hl : isB l) (hlen : l.length ≤ 1000000) (h0 : ∀ e r, pLst l = .inl e → Kp [pe e] (st.set sb (srcB f r))) (h1 : ∀ g out r, pLst l = .inr (out, r) → K (.lst g (ints out)) (st.set sb (srcB f r))) : CallV Tryz.prog T M 96 [.ptr sb 1 0 0, .met 95 [.ptr sb 1 0 0]] st K Kp := by
 have hlt : sb < st.length := (List.getElem?_eq_some_iff.1 hs).1
 have hup : upM st.length M sb = true := upM_of hM
 refine CallV.give (fun_ok hmix c_slisted (le_of rfl) ?_)
 have hsame : ∀ x, Same st.length sb st (st.set sb x) := fun x => (Same.refl (Nat.le_refl _)).set (Or.inl rfl) x
 have low : ∀ (s : St) (r : List Int), Same st.length sb st s → s[sb]? = some (srcB f r) → LowSt st s ∧ s.take st.length = st.set sb (srcB f r) := fun s r h1 h2 => ⟨h1.low h2 (by simp [V.low]), h1.take h2⟩
 simp [F_slisted]
 refine scount_v hs hup hl (fun e r h => ?_) (fun n r h => ?_)
 ·have : pLst l = .inl e := by unfold pLst; rw [h]
  obtain ⟨q1, q2⟩ := low (st.set sb (srcB f r)) r (hsame _) (get_set hs _)
  rw [List.take_of_length_le (by simp)]
  exact ⟨q1, h0 e r this⟩
 ·obtain ⟨hr, hrl, hn⟩ := pCnt_rest h hl
  have hpl : pLst l = pMany n.toNat [] r := by unfold pLst; rw [h]
  obtain ⟨n, rfl⟩ : ∃ k : Nat, n = (k : Int) := ⟨n.toNat, by omega⟩
  rw [Int.toNat_natCast] at hpl
  refine wp_mloop (fun fr s => ∃ (k : Nat) (out l' : List Int), k ≤ n ∧ out.length = k ∧ Same st.length sb st s ∧ s[sb]? = some (srcB f l') ∧ isB l' ∧ OutS st.length 3 1 s (fr.g 5) (ints out) ∧ pLst l = pMany (n - k) out l' ∧ out.length + l'.length ≤ l.length ∧ fr.df = [] ∧ fr.g 0 = .ptr sb 1 0 0 ∧ fr.g 1 = .met 95 [.ptr sb 1 0 0] ∧ fr.g 7 = I n ∧ fr.g 8 = I k) (fun fr _ => n - nat (fr.g 8))
   ⟨0, [], r, by omega, rfl, hsame _, get_set hs _, hr, by simpa [ints] using OutS.nil _ _ _ _, hpl, by simp; omega, by simp, by simp, by simp, by simp, by simp⟩ ?_
  rintro fr s ⟨k, out, l', hk, hok, hS, hb, hl', o, hp, hle, hdf, z0, z1, z7, z8⟩
  by_cases hlt2 : k < n
  ·obtain ⟨j, hj⟩ : ∃ j, n - k = j + 1 := ⟨n - k - 1, by omega⟩
   simp [z7, z8, z1, hlt2]
   refine ⟨_, _, ⟨rfl, rfl⟩, ?_⟩
   refine snum_v hb hup hl' (fun e r h => ?_) (fun x r h => ?_)
   ·have : pLst l = .inl e := by rw [hp, hj]; unfold pMany; rw [h]
    obtain ⟨q1, q2⟩ := low (s.set sb (srcB f r)) r (hS.set (Or.inl rfl) _) (get_set hb _)
    simp [hdf]
    rw [q2]
    exact ⟨q1, h0 e r this⟩
   ·obtain ⟨hr2, hrl2⟩ := pNum_rest h hl'
    have o1 := o.set (b := sb) (by omega) (srcB f r)
    have hS1 := hS.set (b := sb) (Or.inl rfl) (srcB f r)
    have hb1 := get_set hb (srcB f r)
    have hlS := hS.len
    simp
    refine app_out (o1.more _) (by simp; omega) (news := [I x]) (by simp) (by simp) (Or.inl (by simp)) (fun b L hb _ j => by simp [upM, hb]) (by simp; omega) (by simp; omega) fun v s3 o3 hl3 hb3 hk3 hn3 => ?_
    have hS3 : Same st.length sb st s3 := ⟨by have := hl3; simp at this; omega, fun b q1 q2 => by rw [hb3 b q1]; exact (hS1.more _).get b q1 q2⟩
    have hb3' : s3[sb]? = some (srcB f r) := by rw [hb3 sb (by omega)]; exact get_more hb1 _
    have hw1 : IntKind.i64.wrap ((k : Int) + 1) = ((k + 1 : Nat) : Int) := by
     rw [w64 (n := (k : Int) + 1) (by omega) (by have := hle; omega)]; push_cast; rfl
    have o3' : OutS st.length 3 1 s3 v (ints (out ++ [x])) := by rw [ints_append]; exact o3
    have hp3 : pLst l = pMany (n - (k + 1)) (out ++ [x]) r := by
     have e : n - (k + 1) = j := by omega
     rw [hp, hj, e]
     conv => lhs; unfold pMany
     rw [h]
    simp [hw1, -Int.natCast_add]
    exact ⟨⟨k + 1, hlt2, out ++ [x], by simp [hok], hS3, r, hb3', hr2, o3', hp3, by simp; omega, hdf, z0, rfl⟩, by omega⟩
  ·obtain rfl : k = n := by omega
   rw [Nat.sub_self] at hp
   obtain ⟨q1, q2⟩ := low s l' hS hb
   obtain ⟨gg, hfr⟩ := o.frz (ints_cells out)
   simp [z7, z8, hdf]
   exact ⟨_, hfr, q1, by rw [q2]; exact h1 gg out l' hp⟩
end
end Go.Proofs.YtkcdgaijklhnaaaGreatDoor.Vm
namespace Go.Proofs.YtkcdgaijklhnaaaGreatDoor.Vm
open Go.RowKit
structure KeepL (st s : St) : Prop where
 len : st.length ≤ s.length
 get : ∀ b, b < st.length → s[b]? = st[b]?
theorem KeepL.refl (s : St) : KeepL s s := ⟨Nat.le_refl _, fun _ _ => rfl⟩
theorem KeepL.more {st s : St} (h : KeepL st s) (e : St) : KeepL st (s ++ e) := ⟨by have := h.len; simp; omega, fun b hb => by rw [List.getElem?_append_left (Nat.lt_of_lt_of_le hb h.len)]; exact h.get b hb⟩
theorem KeepL.set {st s : St} (h : KeepL st s) {b : Nat} (hb : st.length ≤ b) (x : Blk) : KeepL st (s.set b x) := ⟨by have := h.len; simpa using this, fun c hc => by rw [List.getElem?_set_ne (by omega)]; exact h.get c hc⟩
theorem KeepL.low {st s : St} (h : KeepL st s) : LowSt st s := fun b hb => Or.inl (h.get b hb)
theorem KeepL.take {st s : St} (h : KeepL st s) : s.take st.length = st := by
 apply List.ext_getElem?
 intro i
 by_cases hi : i < st.length
 ·rw [List.getElem?_take_of_lt hi]; exact h.get i hi
 ·rw [List.getElem?_eq_none (by simp; omega), List.getElem?_eq_none (by omega)]
def gL (es : List (List Int)) (i : Nat) : List Int := (es[i]?).getD []
def toM (a b c d : Int) (acc : List (List Int)) : LModel := ⟨a, b, c, d, gL acc 0, gL acc 1, gL acc 2, gL acc 3, gL acc 4, gL acc 5, gL acc 6⟩
def pGo : Nat → List (List Int) → List Int → Rs (List (List Int))
 | 0, acc, l => .inr (acc, l)
 | n + 1, acc, l => match pLst l with
  | .inl e => .inl e
  | .inr (x, r) => pGo n (acc ++ [x]) r
def pMod (l : List Int) : Rs LModel := match pNum l with
 | .inl e => .inl e
 | .inr (a, l1) => match pNum l1 with
  | .inl e => .inl e
  | .inr (b, l2) => match pNum l2 with
   | .inl e => .inl e
   | .inr (c, l3) => match pNum l3 with
    | .inl e => .inl e
    | .inr (d, l4) => match pGo 7 [] l4 with
     | .inl e => .inl e
     | .inr (acc, r) => .inr (toM a b c d acc, r)
theorem pMany_rest : ∀ {n : Nat} {acc : List Int} {l : List Int} {out r : List Int}, pMany n acc l = .inr (out, r) → isB l → isB r ∧ r.length ≤ l.length ∧ out.length = acc.length + n ∧ out.length + r.length ≤ acc.length + l.length
 | 0, acc, l, out, r, h, hl => by cases h; exact ⟨hl, Nat.le_refl _, rfl, Nat.le_refl _⟩
 | n + 1, acc, l, out, r, h, hl => by
  unfold pMany at h
  split at h
  ·cases h
  ·rename_i x r' hn
   obtain ⟨h1, h2⟩ := pNum_rest hn hl
   obtain ⟨h3, h4, h5, h6⟩ := pMany_rest h h1
   simp at h5 h6
   exact ⟨h3, by omega, by omega, by omega⟩
theorem pLst_rest {l : List Int} {out r : List Int} (h : pLst l = .inr (out, r)) (hl : isB l) : isB r ∧ r.length ≤ l.length ∧ out.length ≤ l.length := by
 unfold pLst at h
 split at h
 ·cases h
 ·rename_i n r' hn
  obtain ⟨h1, h2, h3⟩ := pCnt_rest hn hl
  obtain ⟨h4, h5, h6, h7⟩ := pMany_rest h h1
  simp at h7
  exact ⟨h4, by omega, by omega⟩
def cOf (fl : Nat → Bool) (acc : List (List Int)) (j : Nat) : V := match acc[j]? with
 | some x => .lst (fl j) (ints x)
 | none => .lst true []
theorem mdl_congr {a b c d : Int} {p q : Nat → V} (h : ∀ j, j < 7 → p j = q j) : mdl a b c d p = mdl a b c d q := by
 unfold mdl
 rw [h 0 (by omega), h 1 (by omega), h 2 (by omega), h 3 (by omega), h 4 (by omega), h 5 (by omega), h 6 (by omega)]
theorem cOf_snoc (fl : Nat → Bool) (acc : List (List Int)) (g : Bool) (x : List Int) (j : Nat) : cOf (fun i => if i = acc.length then g else fl i) (acc ++ [x]) j = if j = acc.length then .lst g (ints x) else cOf fl acc j := by
 unfold cOf
 by_cases h : j < acc.length
 ·rw [List.getElem?_append_left h, if_neg (by omega)]
  have : j ≠ acc.length := by omega
  simp [this]
 ·by_cases h2 : j = acc.length
  ·subst h2
   rw [if_pos rfl]
   simp
  ·rw [if_neg h2, List.getElem?_eq_none (by simp; omega), List.getElem?_eq_none (by omega)]
theorem cOf_full {fl : Nat → Bool} {acc : List (List Int)} (h : acc.length = 7) (a b c d : Int) (j : Nat) (hj : j < 7) : cOf fl acc j = .lst (fl j) (ints (mls (toM a b c d acc) j)) := by
 unfold cOf
 have := List.getElem?_eq_getElem (show j < acc.length by omega)
 rw [this]
 match j, hj with
 | 0, _ => exact (show V.lst (fl 0) (ints (acc[0]'(by omega))) = V.lst (fl 0) (ints ((acc[0]?).getD [])) by rw [List.getElem?_eq_getElem (show 0 < acc.length by omega)]; rfl)
 | 1, _ => exact (show V.lst (fl 1) (ints (acc[1]'(by omega))) = V.lst (fl 1) (ints ((acc[1]?).getD [])) by rw [List.getElem?_eq_getElem (show 1 < acc.length by omega)]; rfl)
 | 2, _ => exact (show V.lst (fl 2) (ints (acc[2]'(by omega))) = V.lst (fl 2) (ints ((acc[2]?).getD [])) by rw [List.getElem?_eq_getElem (show 2 < acc.length by omega)]; rfl)
 | 3, _ => exact (show V.lst (fl 3) (ints (acc[3]'(by omega))) = V.lst (fl 3) (ints ((acc[3]?).getD [])) by rw [List.getElem?_eq_getElem (show 3 < acc.length by omega)]; rfl)
 | 4, _ => exact (show V.lst (fl 4) (ints (acc[4]'(by omega))) = V.lst (fl 4) (ints ((acc[4]?).getD [])) by rw [List.getElem?_eq_getElem (show 4 < acc.length by omega)]; rfl)
 | 5, _ => exact (show V.lst (fl 5) (ints (acc[5]'(by omega))) = V.lst (fl 5) (ints ((acc[5]?).getD [])) by rw [List.getElem?_eq_getElem (show 5 < acc.length by omega)]; rfl)
 | 6, _ => exact (show V.lst (fl 6) (ints (acc[6]'(by omega))) = V.lst (fl 6) (ints ((acc[6]?).getD [])) by rw [List.getElem?_eq_getElem (show 6 < acc.length by omega)]; rfl)
theorem upd_list {a b c d : Int} {fl : Nat → Bool} {acc : List (List Int)} {i : Nat} (g : Bool) (x : List Int) (hi : acc.length = i) (h7 : i < 7) :
  Blk.row 27 11 [V.agg (List.take (4 + i) [I a, I b, I c, I d, cOf fl acc 0, cOf fl acc 1, cOf fl acc 2, cOf fl acc 3, cOf fl acc 4, cOf fl acc 5, cOf fl acc 6] ++ V.lst g (ints x) :: List.drop (4 + i) [I b, I c, I d, cOf fl acc 0, cOf fl acc 1, cOf fl acc 2, cOf fl acc 3, cOf fl acc 4, cOf fl acc 5, cOf fl acc 6])] = mdl a b c d (cOf (fun j => if j = acc.length then g else fl j) (acc ++ [x])) := by
 have : i = 0 ∨ i = 1 ∨ i = 2 ∨ i = 3 ∨ i = 4 ∨ i = 5 ∨ i = 6 := by omega
 unfold mdl
 simp only [cOf_snoc]
 rw [hi]
 rcases this with rfl | rfl | rfl | rfl | rfl | rfl | rfl <;> rfl
def ptrs (mb : Nat) : List V := [.ptr mb 1 0 4, .ptr mb 1 0 5, .ptr mb 1 0 6, .ptr mb 1 0 7, .ptr mb 1 0 8, .ptr mb 1 0 9, .ptr mb 1 0 10]
section
variable {T : Tbl} {M : Nat → Bool} {st : St} {K : V → St → Prop} {Kp : List PanicEntry → St → Prop}
theorem mlists_v {mb : Nat} {a b c d : Int} {p : Nat → V} (hs : st[mb]? = some (mdl a b c d p)) (hK : K (.own st.length 7 0 7) (st ++ [.row 116 1 (ptrs mb)])) : CallV Tryz.prog T M 91 [.ptr mb 1 0 0] st K Kp := by
 refine fun_ok hmix c_mlists (le_of rfl) ?_
 simp only [mdl] at hs
 simp [F_mlists]
 refine wp_mflat [] [] ?_
 simp [hs]
 exact hK
set_option maxHeartbeats 1000000 in
theorem mparse1_v {f : Bool} {l : List Int} {sb : Nat} (hs : st[sb]? = some (srcB f l)) (hM : M sb = true) (hl : isB l) (hlen : l.length ≤ 1000000) (h0 : ∀ e r, pMod l = .inl e → Kp [pe e] (st.set sb (srcB f r))) (h1 : ∀ fl m r, pMod l = .inr (m, r) → K (encM fl m) (st.set sb (srcB f r))) : CallV Tryz.prog T M 94 [.ptr sb 1 0 0] st K Kp := by
 have hlt : sb < st.length := (List.getElem?_eq_some_iff.1 hs).1
 have hup : upM st.length M sb = true := upM_of hM
 refine CallV.give (fun_ok hmix c_mparse1 (le_of rfl) ?_)
 have low : ∀ (s : St) (r : List Int), Same st.length sb st s → s[sb]? = some (srcB f r) → LowSt st s ∧ s.take st.length = st.set sb (srcB f r) := fun s r h1 h2 => ⟨h1.low h2 (by simp [V.low]), h1.take h2⟩
 have hZ : Blk.row 27 11 [V.agg [I 0, I 0, I 0, I 0, .lst true [], .lst true [], .lst true [], .lst true [], .lst true [], .lst true [], .lst true []]] = mdl 0 0 0 0 nils := rfl
 have two : ∀ (fr : Fr) (s : St) (a b c d : Int) (l4 : List Int), Same st.length sb st s → s[sb]? = some (srcB f l4) → s.length = st.length + 2 → s[st.length]? = some (mdl 0 0 0 0 nils) → s[st.length + 1]? = some (mdl a b c d nils) → isB l4 → l4.length ≤ 1000000 → (pMod l = match pGo 7 [] l4 with | .inl e => .inl e | .inr (acc, r) => .inr (toM a b c d acc, r)) → fr.g 0 = .ptr sb 1 0 0 → fr.g 2 = .ptr st.length 1 0 0 → fr.g 3 = .ptr (st.length + 1) 1 0 0 → fr.df = [] →
   wpM Tryz.prog T (liftM (upM st.length M)) F_mparse1.code.r.r.r (Fin F_mparse1.res (fun v st' => ∃ v', Frz st.length st' v v' ∧ LowSt st st' ∧ K v' (st'.take st.length)) (fun c st' => LowSt st st' ∧ Kp c (st'.take st.length))) fr s := fun fr s a b c d l4 hS hb hsl hr hm hl4 hle hp z0 z2 z3 hdf => by
  have fin : ∀ (fr : Fr) (s : St) (fl : Nat → Bool) (acc : List (List Int)) (r : List Int), Same st.length sb st s → s[sb]? = some (srcB f r) → s[st.length]? = some (mdl 0 0 0 0 nils) → s[st.length + 1]? = some (mdl a b c d (cOf fl acc)) → acc.length = 7 → pMod l = .inr (toM a b c d acc, r) → fr.g 2 = .ptr st.length 1 0 0 → fr.g 3 = .ptr (st.length + 1) 1 0 0 → fr.df = [] →
    wpM Tryz.prog T (liftM (upM st.length M)) F_mparse1.code.r.r.r.r (Fin F_mparse1.res (fun v st' => ∃ v', Frz st.length st' v v' ∧ LowSt st st' ∧ K v' (st'.take st.length)) (fun c st' => LowSt st st' ∧ Kp c (st'.take st.length))) fr s := fun fr s fl acc r hS hb hr hm h7 hp z2 z3 hdf => by
   rw [mdl_congr fun j hj => cOf_full h7 a b c d j hj] at hm
   have rb : ∀ x, (s.set st.length x)[st.length]? = some x := fun x => get_set hr x
   simp only [mdl, nils] at hr hm
   simp [F_mparse1, MC.r, z2, z3, hdf, hr, hm, rb]
   have hS' := hS.set (b := st.length) (Or.inr (Nat.le_refl _)) (mdl a b c d (fun j => .lst (fl j) (ints (mls (toM a b c d acc) j))))
   have hb' : (s.set st.length (mdl a b c d (fun j => .lst (fl j) (ints (mls (toM a b c d acc) j)))))[sb]? = some (srcB f r) := get_ne hb (by omega) _
   obtain ⟨q1, q2⟩ := low _ r hS' hb'
   simp only [mdl] at q1 q2
   refine ⟨encM fl (toM a b c d acc), encM_frz _ _ fl (toM a b c d acc), q1, ?_⟩
   rw [q2]
   exact h1 fl _ r hp
  have e2 : F_mparse1.code.r.r.r = .seq F_mparse1.code.r.r.r.l F_mparse1.code.r.r.r.r := rfl
  generalize F_mparse1.code.r.r.r.r = c4 at fin e2
  rw [e2]
  simp [F_mparse1, MC.l, MC.r, z3]
  refine mlists_v hm ?_
  have hP : (s ++ [Blk.row 116 1 (ptrs (st.length + 1))])[st.length + 2]? = some (.row 116 1 (ptrs (st.length + 1))) := by rw [← hsl]; simp
  rw [hsl]
  have hm' := get_more hm [Blk.row 116 1 (ptrs (st.length + 1))]
  have hr' := get_more hr [Blk.row 116 1 (ptrs (st.length + 1))]
  have hb' := get_more hb [Blk.row 116 1 (ptrs (st.length + 1))]
  have hS' := hS.more [Blk.row 116 1 (ptrs (st.length + 1))]
  generalize s ++ [Blk.row 116 1 (ptrs (st.length + 1))] = s2 at *
  simp [hP, ptrs]
  refine wp_mloop (fun fr s => ∃ (fl : Nat → Bool) (acc : List (List Int)) (l' : List Int), acc.length ≤ 7 ∧ Same st.length sb st s ∧ s[sb]? = some (srcB f l') ∧ s[st.length]? = some (mdl 0 0 0 0 nils) ∧ s[st.length + 1]? = some (mdl a b c d (cOf fl acc)) ∧ s[st.length + 2]? = some (.row 116 1 (ptrs (st.length + 1))) ∧ isB l' ∧ l'.length ≤ 1000000 ∧ (pMod l = match pGo (7 - acc.length) acc l' with | .inl e => .inl e | .inr (acc, r) => .inr (toM a b c d acc, r)) ∧ fr.df = [] ∧ fr.g 0 = .ptr sb 1 0 0 ∧ fr.g 2 = .ptr st.length 1 0 0 ∧ fr.g 3 = .ptr (st.length + 1) 1 0 0 ∧ fr.g 18 = .own (st.length + 2) 7 0 7 ∧ fr.g 19 = I 7 ∧ fr.g 20 = I acc.length) (fun fr _ => 7 - nat (fr.g 20))
   ⟨fun _ => true, [], l4, by simp, hS', hb', hr', hm', hP, hl4, hle, hp, by simp [hdf], by simp [z0], by simp [z2], by simp [z3], by simp, by simp, by simp⟩ ?_
  clear hm hr hb hS hm' hr' hb' hS' hP hl4 hle hp z0 z2 z3 hdf
  rintro fr s ⟨fl, acc, l', hk, hS, hb, hr, hm, hP, hl4, hle, hp, hdf, z0, z2, z3, z18, z19, z20⟩
  by_cases hlt2 : acc.length < 7
  ·obtain ⟨i, hi⟩ : ∃ i, acc.length = i := ⟨_, rfl⟩
   have hPe : (ptrs (st.length + 1))[i]? = some (.ptr (st.length + 1) 1 0 (4 + i)) := by
    have : i = 0 ∨ i = 1 ∨ i = 2 ∨ i = 3 ∨ i = 4 ∨ i = 5 ∨ i = 6 := by omega
    rcases this with rfl | rfl | rfl | rfl | rfl | rfl | rfl <;> rfl
   have hP7 : (ptrs (st.length + 1)).length = 7 := rfl
   have hi7 : i < 7 := by omega
   rw [hi] at hp z20
   obtain ⟨j, hj⟩ : ∃ j, 7 - i = j + 1 := ⟨6 - i, by omega⟩
   have hj2 : 7 - (i + 1) = j := by omega
   rw [hj] at hp
   have hmm := hm
   simp only [mdl] at hmm
   generalize ptrs (st.length + 1) = P at *
   have hPe2 := (List.getElem?_eq_some_iff.1 hPe).2
   simp [z18, z19, z20, hi7, hP, hP7, hPe2, z0, show (i : Int) < 7 by omega]
   refine slisted_v hb hup hl4 hle (fun e r h => ?_) (fun g x r h => ?_)
   ·unfold pGo at hp
    rw [h] at hp
    obtain ⟨q1, q2⟩ := low (s.set sb (srcB f r)) r (hS.set (Or.inl rfl) _) (get_set hb _)
    simp [hdf]
    rw [q2]
    exact ⟨q1, h0 e r hp⟩
   ·have hm2 := get_ne hm (show sb ≠ st.length + 1 by omega) (srcB f r)
    simp only [mdl] at hm2
    have hw1 : IntKind.i64.wrap ((i : Int) + 1) = ((i + 1 : Nat) : Int) := by rw [w64 (n := (i : Int) + 1) (by omega) (by omega)]; push_cast; rfl
    have hU := upd_list (a := a) (b := b) (c := c) (d := d) (fl := fl) g x hi hi7
    simp [hm2, hw1, -Int.natCast_add]
    rw [hU]
    obtain ⟨i1, k1, -⟩ := pLst_rest h hl4
    have hp2 : pMod l = match pGo (7 - (i + 1)) (acc ++ [x]) r with | .inl e => .inl e | .inr (acc, r) => .inr (toM a b c d acc, r) := by
     unfold pGo at hp
     rw [h] at hp
     rw [hj2]
     exact hp
    exact ⟨by omega, ⟨_, acc ++ [x], by simp; omega, (hS.set (Or.inl rfl) _).set (Or.inr (by omega)) _, r, get_ne (get_set hb _) (by omega) _, get_ne hr (by omega) _, get_set (get_ne hm (by omega) _) _, get_ne hP (by omega) _, i1, by omega, by simpa [hi] using hp2, hdf, z2, z3, by simp [hi]⟩, by omega⟩
  ·have h7 : acc.length = 7 := by omega
   rw [h7] at hp z20
   simp [z19, z20]
   exact fin _ s fl acc l' hS hb hr hm h7 hp (by simp [z2]) (by simp [z3]) (by simp [hdf])
 have e1 : F_mparse1.code = .seq F_mparse1.code.l (.seq F_mparse1.code.r.l (.seq F_mparse1.code.r.r.l F_mparse1.code.r.r.r)) := rfl
 generalize F_mparse1.code.r.r.r = c3 at two e1
 rw [e1]
 simp [F_mparse1, MC.l, MC.r]
 rw [hZ]
 have pan : ∀ (s : St) (e : Int) (r : List Int), pMod l = .inl e → Same st.length sb st s → s[sb]? = some (srcB f r) → LowSt st s ∧ Kp [pe e] (s.take st.length) := fun s e r hp hS hb => by
  obtain ⟨q1, q2⟩ := low s r hS hb
  exact ⟨q1, by rw [q2]; exact h0 e r hp⟩
 have hb0 : (st ++ [mdl 0 0 0 0 nils, mdl 0 0 0 0 nils])[sb]? = some (srcB f l) := get_more hs _
 have hS0 : Same st.length sb st (st ++ [mdl 0 0 0 0 nils, mdl 0 0 0 0 nils]) := (Same.refl (Nat.le_refl _)).more _
 have hr0 : (st ++ [mdl 0 0 0 0 nils, mdl 0 0 0 0 nils])[st.length]? = some (mdl 0 0 0 0 nils) := by simp
 have hm0 : (st ++ [mdl 0 0 0 0 nils, mdl 0 0 0 0 nils])[st.length + 1]? = some (mdl 0 0 0 0 nils) := by simp
 have hl0 : (st ++ [mdl 0 0 0 0 nils, mdl 0 0 0 0 nils]).length = st.length + 2 := by simp
 generalize st ++ [mdl 0 0 0 0 nils, mdl 0 0 0 0 nils] = s0 at *
 refine snum_v hb0 hup hl (fun e r h => pan _ e r (by unfold pMod; rw [h]) (hS0.set (Or.inl rfl) _) (get_set hb0 _)) (fun a l1 ha => ?_)
 obtain ⟨i1, k1⟩ := pNum_rest ha hl
 refine snum_v (get_set hb0 _) hup i1 (fun e r h => pan _ e r (by unfold pMod; rw [ha]; simp only []; rw [h]) ((hS0.set (Or.inl rfl) _).set (Or.inl rfl) _) (get_set (get_set hb0 _) _)) (fun b l2 hb => ?_)
 obtain ⟨i2, k2⟩ := pNum_rest hb i1
 refine snum_v (get_set (get_set hb0 _) _) hup i2 (fun e r h => pan _ e r (by unfold pMod; rw [ha]; simp only []; rw [hb]; simp only []; rw [h]) (((hS0.set (Or.inl rfl) _).set (Or.inl rfl) _).set (Or.inl rfl) _) (get_set (get_set (get_set hb0 _) _) _)) (fun c l3 hc => ?_)
 obtain ⟨i3, k3⟩ := pNum_rest hc i2
 refine snum_v (get_set (get_set (get_set hb0 _) _) _) hup i3 (fun e r h => pan _ e r (by unfold pMod; rw [ha]; simp only []; rw [hb]; simp only []; rw [hc]; simp only []; rw [h]) ((((hS0.set (Or.inl rfl) _).set (Or.inl rfl) _).set (Or.inl rfl) _).set (Or.inl rfl) _) (get_set (get_set (get_set (get_set hb0 _) _) _) _)) (fun d l4 hd => ?_)
 obtain ⟨i4, k4⟩ := pNum_rest hd i3
 have hp : pMod l = match pGo 7 [] l4 with | .inl e => .inl e | .inr (acc, r) => .inr (toM a b c d acc, r) := by unfold pMod; rw [ha]; simp only []; rw [hb]; simp only []; rw [hc]; simp only []; rw [hd]
 rw [List.set_set, List.set_set, List.set_set]
 have hb4 := get_set hb0 (srcB f l4)
 have hS4 := hS0.set (b := sb) (Or.inl rfl) (srcB f l4)
 have hr4 := get_ne hr0 (show sb ≠ st.length by omega) (srcB f l4)
 have hm4 := get_ne hm0 (show sb ≠ st.length + 1 by omega) (srcB f l4)
 have hl4 : (s0.set sb (srcB f l4)).length = st.length + 2 := by simp [hl0]
 generalize s0.set sb (srcB f l4) = s4 at *
 have hgs : ∀ x, (s4.set (st.length + 1) x)[st.length + 1]? = some x := fun x => get_set hm4 x
 have hm4' := hm4
 simp only [mdl, nils] at hm4'
 simp [hm4', hgs]
 exact two _ (s4.set (st.length + 1) (mdl a b c d nils)) a b c d l4 (hS4.set (Or.inr (by omega)) _) (get_ne hb4 (by omega) _) (by simp [hl4]) (get_ne hr4 (by omega) _) (get_set hm4 _) i4 (by omega) hp (by simp) (by simp) (by simp) (by simp)
end
end Go.Proofs.YtkcdgaijklhnaaaGreatDoor.Vm
namespace Go.Proofs.YtkcdgaijklhnaaaGreatDoor.Vm
open Go.RowKit
def zM : LModel := ⟨0, 0, 0, 0, [], [], [], [], [], [], []⟩
def pAll (l : List Int) : LModel × Int := match pMod l with
 | .inl e => (zM, e)
 | .inr (m, r) => if r = [] then (m, 0) else (zM, 3)
def erb (e : Int) : Blk := .row 29 1 [I e]
section
variable {T : Tbl} {M : Nat → Bool} {st : St} {K : V → St → Prop} {Kp : List PanicEntry → St → Prop}
theorem cread1_ret {caps : List V} (hn : caps.length ≤ 14) {KD : FrameMode → St → Prop} (h : KD .returning st) : DefV Tryz.prog T M 137 caps .returning st KD := by
 refine defV_rec (d := 6) hmix c_cread1 (by kernel_rfl) (by decide) hn ?_
 simp [F_cread1, MC.r, recV, resVs]
 exact h
theorem cread1_pan {nb ob eb : Nat} {e z a b c d : Int} {p : Nat → V} (hn : st[nb]? = some (mdl 0 0 0 0 nils)) (ho : st[ob]? = some (mdl a b c d p)) (he : st[eb]? = some (erb z)) (_h1 : nb ≠ ob) (h2 : ob ≠ eb) (hMo : M ob = true) (hMe : M eb = true) {KD : FrameMode → St → Prop}
  (h : KD (.panicking [{ v := .iface 29 (.int .i64 e), recovered := true }]) ((st.set ob (mdl 0 0 0 0 nils)).set eb (erb e))) : DefV Tryz.prog T M 137 [.ptr nb 1 0 0, .ptr ob 1 0 0, .ptr eb 1 0 0] (.panicking [pe e]) st KD := by
 refine defV_rec (d := 6) hmix c_cread1 (by kernel_rfl) (by decide) (by simp [F_cread1]) ?_
 have hupo : upM st.length M ob = true := upM_of hMo
 have hupe : upM st.length M eb = true := upM_of hMe
 have he2 : ∀ x, (st.set ob x)[eb]? = some (erb z) := fun x => get_ne he h2 x
 simp only [mdl, nils, erb] at hn ho he he2
 simp [F_cread1, MC.r, recV, pe, resVs, hn, ho, he2, hupo, hupe]
 exact h
theorem frz_me (n : Nat) (s : St) (fl : Nat → Bool) (m : LModel) (e : Int) : Frz n s (.tup [encM fl m, I e]) (.tup [encM fl m, I e]) := by
 refine .tup _ _ rfl fun i a b ha hb => ?_
 rw [ha] at hb
 cases hb
 match i with
 | 0 => cases ha; exact encM_frz n s fl m
 | 1 => cases ha; exact .same _ rfl
 | i + 2 => cases ha
set_option maxRecDepth 10000 in
theorem cread_v {f : Bool} {l : List Int} (hl : isB l) (hlen : l.length ≤ 1000000) (hK : ∀ fl, K (.tup [encM fl (pAll l).1, I (pAll l).2]) st) : CallV Tryz.prog T M 93 [.lst f (bys l), .fn 94 []] st K Kp := by
 refine CallV.give (fun_okD hmix c_cread (le_of rfl) ?_)
 have hZ : Blk.row 27 11 [V.agg [I 0, I 0, I 0, I 0, .lst true [], .lst true [], .lst true [], .lst true [], .lst true [], .lst true [], .lst true []]] = mdl 0 0 0 0 nils := rfl
 have hE : Blk.row 29 1 [I 0] = erb 0 := rfl
 have hSB : Blk.row 175 1 [V.agg [.lst f (bys l)]] = srcB f l := rfl
 simp [F_cread]
 rw [hZ, hE, hSB]
 refine ⟨_, _, ⟨rfl, rfl⟩, ?_⟩
 have r0 : (st ++ [mdl 0 0 0 0 nils, erb 0, mdl 0 0 0 0 nils, srcB f l])[st.length]? = some (mdl 0 0 0 0 nils) := by simp
 have r1 : (st ++ [mdl 0 0 0 0 nils, erb 0, mdl 0 0 0 0 nils, srcB f l])[st.length + 1]? = some (erb 0) := by simp
 have r2 : (st ++ [mdl 0 0 0 0 nils, erb 0, mdl 0 0 0 0 nils, srcB f l])[st.length + 2]? = some (mdl 0 0 0 0 nils) := by simp
 have r3 : (st ++ [mdl 0 0 0 0 nils, erb 0, mdl 0 0 0 0 nils, srcB f l])[st.length + 3]? = some (srcB f l) := by simp
 have hk : KeepL st (st ++ [mdl 0 0 0 0 nils, erb 0, mdl 0 0 0 0 nils, srcB f l]) := (KeepL.refl st).more _
 generalize st ++ [mdl 0 0 0 0 nils, erb 0, mdl 0 0 0 0 nils, srcB f l] = s0 at *
 refine ⟨_, _, ⟨rfl, rfl⟩, ?_⟩
 refine mparse1_v r3 (show upM st.length M (st.length + 3) = true by simp [upM]) hl hlen (fun e r h => ?_) (fun fl m r h => ?_)
 ·have hall : pAll l = (zM, e) := by unfold pAll; rw [h]
  have q0 := get_ne r0 (show st.length + 3 ≠ st.length by omega) (srcB f r)
  have q1 := get_ne r1 (show st.length + 3 ≠ st.length + 1 by omega) (srcB f r)
  have q2 := get_ne r2 (show st.length + 3 ≠ st.length + 2 by omega) (srcB f r)
  have hk1 := hk.set (b := st.length + 3) (by omega) (srcB f r)
  generalize s0.set (st.length + 3) (srcB f r) = s1 at *
  refine lv_one (by simp) (cread1_pan q2 q0 q1 (by omega) (by omega) (by simp [upM]) (by simp [upM]) ?_)
  have g0 := get_ne (get_set q0 (mdl 0 0 0 0 nils)) (show st.length + 1 ≠ st.length by omega) (erb e)
  have g1 := get_set (get_ne q1 (show st.length ≠ st.length + 1 by omega) (mdl 0 0 0 0 nils)) (erb e)
  have hk2 := (hk1.set (Nat.le_refl _) (mdl 0 0 0 0 nils)).set (b := st.length + 1) (by omega) (erb e)
  generalize (s1.set st.length (mdl 0 0 0 0 nils)).set (st.length + 1) (erb e) = s2 at *
  simp only [mdl, nils, erb] at g0 g1
  simp [settle, g0, g1]
  have := hK (fun _ => true)
  rw [hall] at this
  exact ⟨_, frz_me _ _ (fun _ => true) zM e, hk2.low, by rw [hk2.take]; exact this⟩
 ·have q0 := get_ne r0 (show st.length + 3 ≠ st.length by omega) (srcB f r)
  have q1 := get_ne r1 (show st.length + 3 ≠ st.length + 1 by omega) (srcB f r)
  have q2 := get_ne r2 (show st.length + 3 ≠ st.length + 2 by omega) (srcB f r)
  have q3 := get_set r3 (srcB f r)
  have hk1 := hk.set (b := st.length + 3) (by omega) (srcB f r)
  generalize s0.set (st.length + 3) (srcB f r) = s1 at *
  have g0 : ∀ x, (s1.set st.length x)[st.length]? = some x := fun x => get_set q0 x
  have g1 : ∀ x, (s1.set st.length x)[st.length + 1]? = some (erb 0) := fun x => get_ne q1 (by omega) x
  have g2 : ∀ x, (s1.set st.length x)[st.length + 2]? = some (mdl 0 0 0 0 nils) := fun x => get_ne q2 (by omega) x
  have g3 : ∀ x, (s1.set st.length x)[st.length + 3]? = some (srcB f r) := fun x => get_ne q3 (by omega) x
  have g4 : ∀ x y, ((s1.set st.length x).set (st.length + 1) y)[st.length]? = some x := fun x y => get_ne (g0 x) (by omega) y
  have g5 : ∀ x y, ((s1.set st.length x).set (st.length + 1) y)[st.length + 1]? = some y := fun x y => get_set (g1 x) y
  have hk2 : ∀ x y, KeepL st ((s1.set st.length x).set (st.length + 1) y) := fun x y => (hk1.set (Nat.le_refl _) x).set (b := st.length + 1) (by omega) y
  simp only [mdl, nils, erb, srcB] at q0 q1 q2 q3 g1 g2 g3
  by_cases hr : r = []
  ·have hall : pAll l = (m, 0) := by unfold pAll; rw [h]; exact if_pos hr
   have := hK fl
   rw [hall] at this
   subst hr
   simp [encM, q0, g0, g1, g2, g3, bys]
   refine lv_one (by simp) (cread1_ret (by simp) ?_)
   simp [settle, g4, g5]
   exact ⟨_, frz_me _ _ fl m 0, (hk2 _ _).low, by rw [(hk2 _ _).take]; exact this⟩
  ·have hall : pAll l = (zM, 3) := by unfold pAll; rw [h]; exact if_neg hr
   have := hK (fun _ => true)
   rw [hall] at this
   have hr0 : 0 < r.length := List.length_pos_iff.2 hr
   simp [encM, q0, g0, g1, g2, g3, hr0]
   refine lv_one (u := .returning) (by simp) (cread1_ret (by simp) ?_)
   simp [settle, g4, g5]
   exact ⟨_, frz_me _ _ (fun _ => true) zM 3, (hk2 _ _).low, by rw [(hk2 _ _).take]; exact this⟩
end
end Go.Proofs.YtkcdgaijklhnaaaGreatDoor.Vm
namespace Go.Proofs.YtkcdgaijklhnaaaGreatDoor.Vm
open Go.RowKit
def urB (f : Bool) (l : List Int) (e : Int) : Blk := .row 134 2 [.agg [.lst f (bys l), I e]]
theorem wu64 {n : Int} (h1 : 0 ≤ n) (h2 : n < 18446744073709551616) : IntKind.u64.wrap n = n := by
 simp [IntKind.wrap, IntKind.signed, IntKind.bits]; omega
theorem oru64 {a d : Int} {j : Nat} (hj : j ≤ 4) (ha : 0 ≤ a ∧ a < 2 ^ (7 * j)) (hd : 0 ≤ d ∧ d < 128) : IntKind.u64.wrap (BitVec.ofInt IntKind.u64.bits a ||| BitVec.ofInt IntKind.u64.bits (d * 2 ^ (7 * j))).toNat = a + d * 2 ^ (7 * j) := by
 obtain ⟨h1, h2, h3⟩ := or64 hj ha hd
 have h := or_place hj ha hd
 have e : (BitVec.ofInt IntKind.u64.bits a ||| BitVec.ofInt IntKind.u64.bits (d * 2 ^ (7 * j))).toNat = (BitVec.ofInt IntKind.i64.bits a ||| BitVec.ofInt IntKind.i64.bits (d * 2 ^ (7 * j))).toNat := rfl
 have e2 : (BitVec.ofInt IntKind.i64.bits a ||| BitVec.ofInt IntKind.i64.bits (d * 2 ^ (7 * j))).toNat = a.toNat + d.toNat * 2 ^ (7 * j) := h
 have hp : (0 : Int) ≤ 2 ^ (7 * j) := Int.pow_nonneg (by omega)
 have hdp := Int.mul_nonneg hd.1 hp
 have e3 : (((a.toNat + d.toNat * 2 ^ (7 * j) : Nat)) : Int) = a + d * 2 ^ (7 * j) := by
  push_cast
  rw [Int.toNat_of_nonneg ha.1, Int.toNat_of_nonneg hd.1]
 rw [e, e2, e3]
 have : (2 : Int) ^ (7 * (j + 1)) ≤ 2 ^ 35 := by
  have q : (2 : Nat) ^ (7 * (j + 1)) ≤ 2 ^ 35 := Nat.pow_le_pow_right (by omega) (by omega)
  exact_mod_cast q
 have q35 : (2 : Int) ^ 35 = 34359738368 := by decide
 exact wu64 (by omega) (by omega)
section
variable {T : Tbl} {M : Nat → Bool} {st : St} {K : V → St → Prop} {Kp : List PanicEntry → St → Prop}
theorem unum_t {c X : Int} {k ub : Nat} {f : Bool} {r : List Int} (hc : 0 ≤ c ∧ c ≤ 255) (hx : 0 ≤ X ∧ X < 34359738368) (hk : k ≤ 4) (fr : Fr) (s : St) (Q : Post) (hb : s[ub]? = some (urB f r 0)) (z0 : fr.g 0 = .ptr ub 1 0 0) (z3 : fr.g 3 = .val (.int .u64 X)) (z4 : fr.g 4 = I k) (z5 : fr.g 5 = .val (.int .u8 c)) (hdf : fr.df = []) {M2 : Nat → Nat → Bool} (hM2 : ∀ j, M2 ub j = true)
  (hexit : ((k = 4 ∧ (¬ c < 128 ∨ ¬ X < 4294967296)) ∨ (c = 0 ∧ 0 < k)) → ∀ fr' : Fr, fr'.df = [] → Q (.exit 0) fr' (s.set ub (urB f r 3))) (hret : c < 128 → ¬ ((k = 4 ∧ (¬ c < 128 ∨ ¬ X < 4294967296)) ∨ (c = 0 ∧ 0 < k)) → ∀ fr' : Fr, fr'.g 2 = I (decU X) → fr'.df = [] → Q .ret fr' s) (hnorm : ¬ c < 128 → k ≠ 4 → ∀ fr' : Fr, fr'.g 3 = .val (.int .u64 X) → fr'.g 4 = I k → fr'.g 0 = .ptr ub 1 0 0 → fr'.df = [] → Q .normal fr' s) :
  wpM Tryz.prog T M2 F_unum.code.r.r.l.r.bb.bb.r.l.bb.r.r.r.r Q fr s := by
 have hb' := hb
 simp only [urB] at hb'
 have retc : c < 128 → ¬ ((k = 4 ∧ (¬ c < 128 ∨ ¬ X < 4294967296)) ∨ (c = 0 ∧ 0 < k)) → ∀ fr : Fr, fr.g 3 = .val (.int .u64 X) → fr.g 5 = .val (.int .u8 c) → fr.df = [] → wpM Tryz.prog T M2 F_unum.code.r.r.l.r.bb.bb.r.l.bb.r.r.r.r.r Q fr s := fun c1 c2 fr z3 z5 hdf => by
  have hm : (X.tmod 2 == 1) = decide (X % 2 = 1) := by rw [Int.tmod_eq_emod_of_nonneg hx.1]; rfl
  have hq : X.tdiv 2 = X / 2 := Int.tdiv_eq_ediv_of_nonneg hx.1
  have wq : IntKind.u64.wrap (X / 2) = X / 2 := wu64 (by omega) (by omega)
  have wq2 : IntKind.i64.wrap (X / 2) = X / 2 := w64 (by omega) (by omega)
  have wq3 : IntKind.i64.wrap (-(X / 2)) = -(X / 2) := w64 (by omega) (by omega)
  have wq4 : IntKind.i64.wrap (-(X / 2) - 1) = -(X / 2) - 1 := w64 (by omega) (by omega)
  by_cases ho : X % 2 = 1
  ·simp [F_unum, MC.l, MC.r, MC.bb, z3, z5, c1, hm, hq, wq, wq2, wq3, wq4, ho]
   exact hret c1 c2 _ (by simp [decU, ho]) (by simp [hdf])
  ·simp [F_unum, MC.l, MC.r, MC.bb, z3, z5, c1, hm, hq, wq, wq2, ho]
   exact hret c1 c2 _ (by simp [decU, ho]) (by simp [hdf])
 have norc : ¬ c < 128 → k ≠ 4 → ∀ fr : Fr, fr.g 3 = .val (.int .u64 X) → fr.g 4 = I k → fr.g 0 = .ptr ub 1 0 0 → fr.g 5 = .val (.int .u8 c) → fr.df = [] → wpM Tryz.prog T M2 F_unum.code.r.r.l.r.bb.bb.r.l.bb.r.r.r.r.r Q fr s := fun c1 c2 fr z3 z4 z0 z5 hdf => by
  simp [F_unum, MC.l, MC.r, MC.bb, z5, c1]
  exact hnorm c1 c2 _ (by simp [z3]) (by simp [z4]) (by simp [z0]) (by simp [hdf])
 have e1 : F_unum.code.r.r.l.r.bb.bb.r.l.bb.r.r.r.r = .seq F_unum.code.r.r.l.r.bb.bb.r.l.bb.r.r.r.r.l F_unum.code.r.r.l.r.bb.bb.r.l.bb.r.r.r.r.r := rfl
 rw [e1]
 generalize F_unum.code.r.r.l.r.bb.bb.r.l.bb.r.r.r.r.r = cR at retc norc ⊢
 by_cases k4 : k = 4
 ·by_cases c1 : c < 128
  ·by_cases x1 : X < 4294967296
   ·by_cases c0 : c = 0
    ·simp [F_unum, MC.l, MC.r, MC.bb, z0, z3, z4, z5, hb', k4, show ¬ (4294967296 : Int) ≤ X by omega, c0, hM2]
     exact hexit (Or.inr ⟨c0, by omega⟩) _ (by simp [hdf])
    ·have cb : (c == 0) = false := by simpa using c0
     simp [F_unum, MC.l, MC.r, MC.bb, z0, z3, z4, z5, hb', k4, show ¬ 128 ≤ c by omega, show ¬ (4294967296 : Int) ≤ X by omega, cb]
     exact retc c1 (by omega) _ (by simp [z3]) (by simp [z5]) (by simp [hdf])
   ·simp [F_unum, MC.l, MC.r, MC.bb, z0, z3, z4, z5, hb', k4, show ¬ 128 ≤ c by omega, show (4294967296 : Int) ≤ X by omega, hM2]
    exact hexit (Or.inl ⟨k4, Or.inr x1⟩) _ (by simp [hdf])
  ·simp [F_unum, MC.l, MC.r, MC.bb, z0, z4, z5, hb', k4, show 128 ≤ c by omega, hM2]
   exact hexit (Or.inl ⟨k4, Or.inl c1⟩) _ (by simp [hdf])
 ·have kb : ((k : Int) == 4) = false := by simp; omega
  by_cases c0 : c = 0
  ·by_cases k0 : 0 < k
   ·simp [F_unum, MC.l, MC.r, MC.bb, z0, z4, z5, hb', kb, c0, k0, hM2]
    exact hexit (Or.inr ⟨c0, k0⟩) _ (by simp [hdf])
   ·simp [F_unum, MC.l, MC.r, MC.bb, z0, z4, z5, hb', kb, c0, k0]
    exact retc (by omega) (by omega) _ (by simp [z3]) (by simp [z5, c0]) (by simp [hdf])
  ·have cb : (c == 0) = false := by simpa using c0
   simp [F_unum, MC.l, MC.r, MC.bb, z0, z4, z5, hb', kb, cb]
   by_cases c1 : c < 128
   ·exact retc c1 (by omega) _ (by simp [z3]) (by simp [z5]) (by simp [hdf])
   ·exact norc c1 k4 _ (by simp [z3]) (by simp [z4]) (by simp [z0]) (by simp [z5]) (by simp [hdf])
theorem unum_v {f : Bool} {l : List Int} {ub : Nat} {e : Int} (hs : st[ub]? = some (urB f l e)) (hM : M ub = true) (hl : e = 0 → isB l) (hE : e ≠ 0 → K (I 0) st) (h0 : e = 0 → ∀ e' r, pNum l = .inl e' → K (I 0) (st.set ub (urB f r e'))) (h1 : e = 0 → ∀ n r, pNum l = .inr (n, r) → K (I n) (st.set ub (urB f r 0))) : CallV Tryz.prog T M 98 [.ptr ub 1 0 0] st K Kp := by
 refine fun_ok hmix c_unum (le_of rfl) ?_
 have hup : upM st.length M ub = true := upM_of hM
 have hlt : ub < st.length := (List.getElem?_eq_some_iff.1 hs).1
 by_cases he : e = 0
 ·subst he
  simp [F_unum]
  refine wp_mloop (fun fr s => ∃ (k : Nat) (acc : Int) (l' : List Int), k ≤ 4 ∧ s = st.set ub (urB f l' 0) ∧ isB l' ∧ 0 ≤ acc ∧ acc < 2 ^ (7 * k) ∧ pU 4 0 0 l = pU (4 - k) k acc l' ∧ fr.df = [] ∧ fr.g 0 = .ptr ub 1 0 0 ∧ fr.g 3 = .val (.int .u64 acc) ∧ fr.g 4 = I k) (fun fr _ => 5 - nat (fr.g 4))
   ⟨0, 0, l, by omega, (set_same hs).symm, hl rfl, by omega, by simp, rfl, by simp, by simp, by simp, by simp⟩ ?_
  rintro fr s ⟨k, acc, l', hk, rfl, hl', a0, a1, hp, hdf, z0, z3, z4⟩
  have tb := fun (c X : Int) (r : List Int) (hc : 0 ≤ c ∧ c ≤ 255) (hx : 0 ≤ X ∧ X < 34359738368) (fr : Fr) (s : St) (Q : Post) => unum_t (T := T) (M2 := liftM (upM st.length M)) (f := f) (r := r) (ub := ub) hc hx hk fr s Q
  have e3 : F_unum.code.r.r.l.r.bb.bb.r.l.bb = .seq F_unum.code.r.r.l.r.bb.bb.r.l.bb.l (.seq F_unum.code.r.r.l.r.bb.bb.r.l.bb.r.l (.seq F_unum.code.r.r.l.r.bb.bb.r.l.bb.r.r.l (.seq F_unum.code.r.r.l.r.bb.bb.r.l.bb.r.r.r.l F_unum.code.r.r.l.r.bb.bb.r.l.bb.r.r.r.r))) := rfl
  have e4 : F_unum.code.r.r.l.r.bb.bb = .seq F_unum.code.r.r.l.r.bb.bb.l (.seq (.block 1 F_unum.code.r.r.l.r.bb.bb.r.l.bb) F_unum.code.r.r.l.r.bb.bb.r.r) := rfl
  show wpM Tryz.prog T _ F_unum.code.r.r.l.r.bb.bb _ fr _
  rw [e4, e3]
  generalize F_unum.code.r.r.l.r.bb.bb.r.l.bb.r.r.r.r = cT at tb ⊢
  have hb : (st.set ub (urB f l' 0))[ub]? = some (urB f l' 0) := get_set hs _
  have hss : ∀ x, (st.set ub (urB f l' 0)).set ub x = st.set ub x := fun x => List.set_set ..
  have hgg : ∀ x, (st.set ub x)[ub]? = some x := fun x => get_set hs x
  generalize st.set ub (urB f l' 0) = s at hb hss
  cases l' with
  | nil =>
   have : pNum l = .inl 11 := by unfold pNum; rw [hp]; cases (4 - k) <;> rfl
   have hb' := hb
   simp only [urB] at hb'
   simp [F_unum, MC.l, MC.r, MC.bb, z0, hb', bys, hup, hdf, hss]
   exact h0 rfl 11 [] this
  | cons c r =>
   have hc := hl' c List.mem_cons_self
   have h127 := and127 hc
   have hor := oru64 hk ⟨a0, a1⟩ (d := c % 128) (by omega)
   obtain ⟨-, hor2, hor3⟩ := or64 hk ⟨a0, a1⟩ (d := c % 128) (by omega)
   obtain ⟨X, hX⟩ : ∃ X, X = acc + c % 128 * 2 ^ (7 * k) := ⟨_, rfl⟩
   have hp0 : (0 : Int) ≤ 2 ^ (7 * k) := Int.pow_nonneg (by omega)
   have hd0 := Int.mul_nonneg (show 0 ≤ c % 128 by omega) hp0
   have hsh : IntKind.u64.wrap (c % 128 * 2 ^ (7 * k)) = c % 128 * 2 ^ (7 * k) := wu64 hd0 (by omega)
   rw [← hX] at hor hor2
   have hx0 : 0 ≤ X := by omega
   have hx1 : X < 34359738368 := Int.lt_of_lt_of_le hor2 (by
    have : (2 : Nat) ^ (7 * (k + 1)) ≤ 2 ^ 35 := Nat.pow_le_pow_right (by omega) (by omega)
    have e : (2 : Int) ^ (7 * (k + 1)) = ((2 ^ (7 * (k + 1)) : Nat) : Int) := by push_cast; rfl
    rw [e]
    have : (2 : Nat) ^ 35 = 34359738368 := by decide
    omega)
   have w7 : IntKind.i64.wrap (7 * (k : Int)) = 7 * (k : Int) := w64 (by omega) (by omega)
   have wc : IntKind.u64.wrap (c % 128) = c % 128 := wu64 (by omega) (by omega)
   have mn : min (7 * (k : Int)).toNat IntKind.u64.bits = 7 * k := by simp [IntKind.bits]; omega
   have b0 : (0 : Int) ≤ 7 * k := by omega
   simp at h127 hor
   have hpX : pU (4 - k) k acc (c :: r) = if c < 128 then (if c = 0 ∧ 0 < k then .inl 3 else .inr (X, r)) else (if k = 4 then .inl 3 else pU (4 - (k + 1)) (k + 1) X r) := by
    by_cases h4 : k = 4
    ·subst h4; rw [hX]; rfl
    ·obtain ⟨j, hj⟩ : ∃ j, 4 - k = j + 1 := ⟨3 - k, by omega⟩
     have hj2 : 4 - (k + 1) = j := by omega
     rw [hj, hj2, if_neg h4, hX]
     rfl
   rw [hpX] at hp
   have hb' := hb
   simp only [urB, bys_cons] at hb'
   have hbr : ((r.length : Int) + 1 == 0) = false := by simp; omega
   have ht : List.take r.length (bys r) = bys r := List.take_of_length_le (by simp)
   simp [F_unum, MC.l, MC.r, MC.bb, z0, z3, z4, hb', hss, hbr, ht, hup, h127, hor, hsh, w7, wc, mn, b0]
   refine ⟨bys_one r, ?_⟩
   refine tb c X r hc ⟨hx0, hx1⟩ _ _ _ (hgg _) (by simp [z0]) (by simp) (by simp [z4]) (by simp) (by simp [hdf]) (by intro j; simp [liftM, hup]) (fun h fr' y => ?_) (fun c1 c2 fr' y2 ydf => ?_) (fun c1 c2 fr' y3 y4 y0 ydf => ?_)
   ·have : pNum l = .inl 3 := by
     unfold pNum
     rw [hp]
     rcases h with ⟨rfl, c1 | c1⟩ | ⟨c1, c2⟩
     ·rw [if_neg c1, if_pos rfl]; rfl
     ·by_cases c2 : c < 128
      ·rw [if_pos c2]
       by_cases c3 : c = 0
       ·rw [if_pos ⟨c3, by omega⟩]; rfl
       ·rw [if_neg (fun h => c3 h.1)]; exact if_neg c1
      ·rw [if_neg c2, if_pos rfl]; rfl
     ·rw [if_pos (by omega), if_pos ⟨c1, c2⟩]; rfl
    simp [y, List.set_set]
    exact h0 rfl 3 r this
   ·have c3 : ¬ (c = 0 ∧ 0 < k) := fun h => c2 (Or.inr h)
    rw [if_pos c1, if_neg c3] at hp
    have hX32 : X < 4294967296 := by
     by_cases h4 : k = 4
     ·exact Decidable.byContradiction fun h => c2 (Or.inl ⟨h4, Or.inr h⟩)
     ·refine Int.lt_of_lt_of_le hor2 ?_
      have : (2 : Nat) ^ (7 * (k + 1)) ≤ 2 ^ 28 := Nat.pow_le_pow_right (by omega) (by omega)
      have e : (2 : Int) ^ (7 * (k + 1)) = ((2 ^ (7 * (k + 1)) : Nat) : Int) := by push_cast; rfl
      rw [e]
      have : (2 : Nat) ^ 28 = 268435456 := by decide
      omega
    have : pNum l = .inr (decU X, r) := by unfold pNum; rw [hp]; exact if_pos hX32
    simp [y2, ydf]
    exact h1 rfl _ r this
   ·rw [if_neg c1, if_neg c2] at hp
    have hw1 : IntKind.i64.wrap ((k : Int) + 1) = ((k + 1 : Nat) : Int) := by rw [w64 (n := (k : Int) + 1) (by omega) (by omega)]; push_cast; rfl
    simp [y3, y4, hw1, -Int.natCast_add]
    exact ⟨⟨k + 1, by omega, X, r, rfl, hl'.tail, hx0, hor2, hp, ydf, y0, rfl, rfl⟩, by omega⟩
 ·have hs' := hs
  simp only [urB] at hs'
  have hb : (e == 0) = false := by simpa using he
  simp [F_unum]
  refine wp_mloop (fun fr s => s = st ∧ fr.df = [] ∧ fr.g 0 = .ptr ub 1 0 0) (fun _ _ => 0) ⟨rfl, by simp, by simp⟩ ?_
  rintro fr s ⟨rfl, hdf, z0⟩
  have e4 : F_unum.code.r.r.l.r.bb.bb = .seq F_unum.code.r.r.l.r.bb.bb.l (.seq F_unum.code.r.r.l.r.bb.bb.r.l F_unum.code.r.r.l.r.bb.bb.r.r) := rfl
  have e5 : F_unum.code.r.r.l.r.bb.bb.r.l = .block 1 F_unum.code.r.r.l.r.bb.bb.r.l.bb := rfl
  show wpM Tryz.prog T _ F_unum.code.r.r.l.r.bb.bb _ fr _
  rw [e4, e5]
  have e3 : F_unum.code.r.r.l.r.bb.bb.r.l.bb = .seq F_unum.code.r.r.l.r.bb.bb.r.l.bb.l F_unum.code.r.r.l.r.bb.bb.r.l.bb.r := rfl
  rw [e3]
  generalize F_unum.code.r.r.l.r.bb.bb.r.l.bb.r = cT
  simp [F_unum, MC.l, MC.r, MC.bb, z0, hs', hb, hdf]
  exact hE he
end
end Go.Proofs.YtkcdgaijklhnaaaGreatDoor.Vm
namespace Go.Proofs.YtkcdgaijklhnaaaGreatDoor.Vm
open Go.RowKit
def mapR (n : Nat) (g : Nat → Int) : List Int := (List.range n).map g
@[simp] theorem mapR_len (n : Nat) (g : Nat → Int) : (mapR n g).length = n := by simp [mapR]
end Go.Proofs.YtkcdgaijklhnaaaGreatDoor.Vm
namespace Go.Proofs.YtkcdgaijklhnaaaGreatDoor.Vm
open Go.RowKit
end Go.Proofs.YtkcdgaijklhnaaaGreatDoor.Vm
namespace Go.Proofs.YtkcdgaijklhnaaaGreatDoor.Vm
open Go.RowKit
def Rd (st : St) (v : V) (l : List Int) : Prop := (∃ f, v = .lst f (ints l)) ∨ ∃ b t, v = .own b l.length 0 l.length ∧ st[b]? = some (.row t 1 (ints l))
theorem Rd.lst (st : St) (f : Bool) (l : List Int) : Rd st (.lst f (ints l)) l := Or.inl ⟨f, rfl⟩
theorem Rd.more {st : St} {v : V} {l : List Int} (h : Rd st v l) (e : St) : Rd (st ++ e) v l := by
 rcases h with h | ⟨b, t, h1, h2⟩
 ·exact Or.inl h
 ·exact Or.inr ⟨b, t, h1, get_more h2 e⟩
theorem Rd.keep {st st' : St} {v : V} {l : List Int} (h : Rd st v l) (hk : ∀ b ∈ ownL v, st'[b]? = st[b]?) : Rd st' v l := by
 rcases h with h | ⟨b, t, rfl, h2⟩
 ·exact Or.inl h
 ·exact Or.inr ⟨b, t, rfl, (hk b (by simp [ownL])).trans h2⟩
theorem Rd.len {st : St} {v : V} {l : List Int} (h : Rd st v l) : lenV st v = some (I (l.length : Int)) := by
 rcases h with ⟨f, rfl⟩ | ⟨b, t, rfl, h2⟩
 ·simp
 ·simp [h2]
theorem Rd.el {st : St} {v : V} {l : List Int} (h : Rd st v l) {k : Nat} {x : Int} (hx : l[k]? = some x) : ∃ p, elemAt 1 st (k : Int) v = some p ∧ (∀ rd : Nat → Nat → Bool, (∀ b j, rd b j = true) → mLoad rd false 1 st p = some (I x)) := by
 have hi := ints_get hx
 rcases h with ⟨f, rfl⟩ | ⟨b, t, rfl, h2⟩
 ·exact ⟨.cref (I x) 0, by simp [hi], fun rd _ => by simp⟩
 ·have hk : k < l.length := (List.getElem?_eq_some_iff.1 hx).1
  exact ⟨.ptr b l.length k 0, by simp [h2, hk], fun rd hrd => by simp [h2, hi, rdOk_of (hrd b), hrd]⟩
theorem Rd.rdl {st : St} {v : V} {l : List Int} (h : Rd st v l) : rdl st v = some (ints l) := by
 rcases h with ⟨f, rfl⟩ | ⟨b, t, rfl, h2⟩
 ·simp
 ·simp [h2]; exact List.take_of_length_le (by simp [ints])
end Go.Proofs.YtkcdgaijklhnaaaGreatDoor.Vm
namespace Go.Proofs.YtkcdgaijklhnaaaGreatDoor.Vm
open Go.RowKit
section
variable {T : Tbl} {M : Nat → Bool} {st : St} {K : V → St → Prop} {Kp : List PanicEntry → St → Prop}
structure Keep0 (s0 s : St) : Prop where
 len : s0.length ≤ s.length
 get : ∀ b, b < s0.length → s[b]? = s0[b]?
theorem Keep0.refl (s : St) : Keep0 s s := ⟨Nat.le_refl _, fun _ _ => rfl⟩
theorem Keep0.at_ {s0 s : St} (h : Keep0 s0 s) {b : Nat} {x : Blk} (hx : s0[b]? = some x) : s[b]? = some x := (h.get b (List.getElem?_eq_some_iff.1 hx).1).trans hx
theorem Keep0.more {s0 s : St} (h : Keep0 s0 s) (e : St) : Keep0 s0 (s ++ e) := ⟨by have := h.len; simp; omega, fun b hb => by rw [List.getElem?_append_left (Nat.lt_of_lt_of_le hb h.len)]; exact h.get b hb⟩
theorem Keep0.trans {s0 s s1 : St} (h : Keep0 s0 s) (hl : s.length ≤ s1.length) (hg : ∀ b, b < s0.length → s1[b]? = s[b]?) : Keep0 s0 s1 := ⟨Nat.le_trans h.len hl, fun b hb => (hg b hb).trans (h.get b hb)⟩
theorem Keep0.rd {s0 s : St} (h : Keep0 s0 s) {v : V} {l : List Int} (hr : Rd s0 v l) : Rd s v l := by
 rcases hr with h1 | ⟨b, t, h1, h2⟩
 ·exact Or.inl h1
 ·exact Or.inr ⟨b, t, h1, h.at_ h2⟩
theorem Keep0.low {st e s : St} (h : Keep0 (st ++ e) s) : LowSt st s := fun b hb => Or.inl (by rw [h.get b (by simp; omega), List.getElem?_append_left hb])
theorem Keep0.take {st e s : St} (h : Keep0 (st ++ e) s) : s.take st.length = st := by
 apply List.ext_getElem?
 intro i
 by_cases hi : i < st.length
 ·rw [List.getElem?_take_of_lt hi, h.get i (by simp; omega), List.getElem?_append_left hi]
 ·rw [List.getElem?_eq_none (by simp; omega), List.getElem?_eq_none (by omega)]
theorem OutS.down {n n' t k : Nat} {s : St} {v : V} {l : List V} (h : OutS n t k s v l) (hn : n' ≤ n) : OutS n' t k s v l := by
 rcases h with h | ⟨b, h1, h2, h3⟩
 ·exact Or.inl h
 ·exact Or.inr ⟨b, Nat.le_trans hn h1, h2, h3⟩
end
end Go.Proofs.YtkcdgaijklhnaaaGreatDoor.Vm
namespace Go.Proofs.YtkcdgaijklhnaaaGreatDoor.Vm
open Go.RowKit
end Go.Proofs.YtkcdgaijklhnaaaGreatDoor.Vm
namespace Go.Proofs.YtkcdgaijklhnaaaGreatDoor.Vm
open Go.RowKit
structure EsV (vs : List V) (es : List (List Int)) (L : Nat) : Prop where
 len : vs.length = es.length
 get : ∀ (i : Nat) (e : List Int), es[i]? = some e → ∃ g, vs[i]? = some (V.lst g (ints e))
 each : ∀ e ∈ es, e.length = L
 n1 : 1 ≤ es.length ∧ es.length ≤ 64
theorem EsV.one {vs : List V} {es : List (List Int)} {L : Nat} (h : EsV vs es L) : ∀ x ∈ vs, x.cells.length = 1 := fun x hx => by
 obtain ⟨i, hi⟩ := List.getElem?_of_mem hx
 have hlt : i < es.length := by rw [← h.len]; exact (List.getElem?_eq_some_iff.1 hi).1
 obtain ⟨g, hg⟩ := h.get i _ (List.getElem?_eq_getElem hlt)
 rw [hi] at hg
 cases hg
 rfl
def gE (es : List (List Int)) (i : Nat) : List Int := (es[i]?).getD []
theorem gE_of {es : List (List Int)} {i : Nat} (h : i < es.length) : es[i]? = some (gE es i) := by rw [gE, List.getElem?_eq_getElem h]; rfl
theorem EsV.at_ {vs : List V} {es : List (List Int)} {L i : Nat} (h : EsV vs es L) (hi : i < es.length) : ∃ g, vs[i]? = some (V.lst g (ints (gE es i))) := h.get i _ (gE_of hi)
end Go.Proofs.YtkcdgaijklhnaaaGreatDoor.Vm
namespace Go.Proofs.YtkcdgaijklhnaaaGreatDoor.Vm
open Go.RowKit
end Go.Proofs.YtkcdgaijklhnaaaGreatDoor.Vm
namespace Go.Proofs.YtkcdgaijklhnaaaGreatDoor.Vm
open Go.RowKit
end Go.Proofs.YtkcdgaijklhnaaaGreatDoor.Vm
namespace Go.Proofs.YtkcdgaijklhnaaaGreatDoor.Vm
open Go.RowKit
end Go.Proofs.YtkcdgaijklhnaaaGreatDoor.Vm
namespace Go.Proofs.YtkcdgaijklhnaaaGreatDoor.Vm
open Go.RowKit
end Go.Proofs.YtkcdgaijklhnaaaGreatDoor.Vm
namespace Go.Proofs.YtkcdgaijklhnaaaGreatDoor.Vm
open Go.RowKit
end Go.Proofs.YtkcdgaijklhnaaaGreatDoor.Vm
namespace Go.Proofs.YtkcdgaijklhnaaaGreatDoor.Vm
open Go.RowKit
end Go.Proofs.YtkcdgaijklhnaaaGreatDoor.Vm
