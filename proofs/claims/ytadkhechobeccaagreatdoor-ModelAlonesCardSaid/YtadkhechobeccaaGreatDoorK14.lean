/-
  Scores of a model, in plain terms and run by the value machine: the program and the reference.
  slices.IndexFunc, slices.ContainsFunc at ints; models.all: run by the value machine.
  The order of scores, in plain terms: greater scores first, of equal ones the lower number.
  A sorted row of numbers is the rank; an insertion sort that compares scores alone is stable.
-/
import Derived.Test.YtadkhechobeccaaGreatDoorK09
import Derived.Test.YtadkhechobeccaaGreatDoorK11
import Derived.Test.YtadkhechobeccaaGreatDoorK13
import Derived.Shelf.SlSortCmp.Insertion
import Derived.Sort.LotA
import Derived.Sort.WalkA
namespace Go.Proofs.YtadkhechobeccaaGreatDoor.Vm
open Go.RowKit
structure ScS (m : LModel) (w r vo q : Nat) : Prop extends EntS m w r vo where
  mq : m.mix.length = q * (w * w)
  q1 : 1 ≤ q ∧ q ≤ 4
  qk1 : m.kind = 1 → q = 3
  qk2 : m.kind = 2 → q = 2
  sof : 1 ≤ m.soft.length ∧ m.soft.length ≤ 64
theorem GenM.scS {m : LModel} (h : GenM m) : ∃ w r vo q, ScS m w r vo q := by
  obtain ⟨w, r, vo, e⟩ := GenM.entS h
  obtain ⟨q, q1, q2, q3, q4, q5⟩ := h.mix.1
  obtain ⟨q, rfl⟩ : ∃ k : Nat, q = (k : Int) := ⟨q.toNat, by omega⟩
  rw [e.hw] at q5
  refine ⟨w, r, vo, q, e, ?_, by omega, fun c => by have := q3 c; omega, fun c => by have := q4 c; omega, h.soft.1⟩
  rw [← Nat.mul_assoc]
  exact_mod_cast q5
structure EsV (vs : List V) (es : List (List Int)) (L : Nat) : Prop where
  len : vs.length = es.length
  get : ∀ (i : Nat) (e : List Int), es[i]? = some e → ∃ g, vs[i]? = some (V.lst g (ints e))
  each : ∀ e ∈ es, e.length = L
  n1 : 1 ≤ es.length ∧ es.length ≤ 64
def gE (es : List (List Int)) (i : Nat) : List Int := (es[i]?).getD []
theorem gE_of {es : List (List Int)} {i : Nat} (h : i < es.length) : es[i]? = some (gE es i) := by rw [gE, List.getElem?_eq_getElem h]; rfl
theorem EsV.at_ {vs : List V} {es : List (List Int)} {L i : Nat} (h : EsV vs es L) (hi : i < es.length) : ∃ g, vs[i]? = some (V.lst g (ints (gE es i))) := h.get i _ (gE_of hi)
theorem EsV.lenE {vs : List V} {es : List (List Int)} {L i : Nat} (h : EsV vs es L) (hi : i < es.length) : (gE es i).length = L := h.each _ (List.mem_of_getElem? (gE_of hi))
def mxK (l : List Int) : Nat → Int
  | 0 => gI l 0
  | k + 1 => max (mxK l k) (gI l (k + 1))
def clampI (n lo hi : Int) : Int := max lo (min n hi)
def sAt (m : LModel) (w : Nat) (es : List (List Int)) (i : Nat) : Int := shM (dotK (gE es i) ((gE es (es.length - 1)).drop (2 * w)) w) (gI m.cuts 1)
def wAt (m : LModel) (w : Nat) (es : List (List Int)) (i : Nat) : Int :=
  gI m.soft (clampI (w32 (mxK (mapR es.length (sAt m w es)) (es.length - 1) - sAt m w es i)) 0 ((m.soft.length : Int) - 1)).toNat
def accA (m : LModel) (w : Nat) (es : List (List Int)) (o : Nat) : Nat → Int
  | 0 => 0
  | i + 1 => w32 (accA m w es o i + w32 (wAt m w es i * gI (gE es i) (w + o)))
def attM (m : LModel) (w : Nat) (es : List (List Int)) : List Int := mapR w fun o => shM (accA m w es o es.length) (gI m.cuts 2)
def celM (m : LModel) (w : Nat) (es : List (List Int)) : Nat → List Int
  | 0 => mapR w fun _ => 0
  | i + 1 => mapR w fun o => clampI (shM (w32 (mvM m.mix w (celM m w es i) o + mvM m.mix w (gE es i) (w + o))) (gI m.cuts 1)) (-1000) 1000
def accC (m : LModel) (w q : Nat) (es : List (List Int)) (o : Nat) : Nat → Int
  | 0 => 0
  | j + 1 => if q ≤ es.length + j then w32 (accC m w q es o j + mvM m.mix w (gE es (es.length + j - q)) (j * w + o)) else accC m w q es o j
def conM (m : LModel) (w q : Nat) (es : List (List Int)) : List Int := mapR w fun o => max (shM (accC m w q es o q) (gI m.cuts 1)) 0
def hidM (m : LModel) (w q : Nat) (es : List (List Int)) : List Int := if m.kind = 1 then attM m w es else if m.kind = 2 then celM m w es es.length else conM m w q es
theorem celM_len (m : LModel) (w : Nat) (es : List (List Int)) (i : Nat) : (celM m w es i).length = w := by cases i <;> exact mapR_len _ _
theorem hidM_len (m : LModel) (w q : Nat) (es : List (List Int)) : (hidM m w q es).length = w := by
  unfold hidM
  split
  · exact mapR_len _ _
  · split
    · exact celM_len _ _ _ _
    · exact mapR_len _ _
def scoM (m : LModel) (w q vo : Nat) (es : List (List Int)) : List Int := mapR vo fun v => mvM m.out w (hidM m w q es) v
end Go.Proofs.YtadkhechobeccaaGreatDoor.Vm
namespace Go.Proofs.YtadkhechobeccaaGreatDoor.Vm
open Go.RowKit
theorem set_upto {w : Nat} {G : Nat → Int} {l : List Int} {o : Nat} (hl : l.length = w) (ho : o < w) (h : ∀ j, j < o → l[j]? = some (G j)) : (l.set o (G o)).length = w ∧ ∀ j, j < o + 1 → (l.set o (G o))[j]? = some (G j) :=
  ⟨by simp [hl], fun j hj => by
    by_cases e : j = o
    · subst e; rw [List.getElem?_set_self (by omega)]
    · rw [List.getElem?_set_ne (Ne.symm e)]; exact h j (by omega)⟩
theorem rep_ints (w : Nat) : List.replicate w (I 0) = ints (mapR w fun _ => 0) := by
  apply List.ext_getElem?
  intro i
  by_cases h : i < w
  · rw [ints_get (mapR_get h)]; simp [h]
  · rw [List.getElem?_eq_none (by simp; omega), List.getElem?_eq_none (by simp; omega)]
theorem clamp_eq (n lo hi : Int) (h : lo ≤ hi) : min (max n lo) hi = clampI n lo hi := by unfold clampI; omega
section
variable {T : Tbl} {M : Nat → Bool} {st : St} {K : V → St → Prop} {Kp : List PanicEntry → St → Prop}
theorem mv_row {mix X : List Int} {w i o : Nat} (hm : i * (w * w) + o * w + w ≤ mix.length) (ho : o < w) : dotK ((((mix.drop (i * (w * w))).take (w * w)).drop (o * w)).take w) X ((((mix.drop (i * (w * w))).take (w * w)).drop (o * w)).take w).length = mvM mix w X (i * w + o) := mv_eq hm ho
set_option maxRecDepth 10000 in
theorem cell_v {m : LModel} {w r vo q : Nat} (fl : Nat → Bool) (e : ScS m w r vo q) (hk : m.kind = 2) {vs : List V} {es : List (List Int)} {f : Bool} (hE : EsV vs es w) (hK : ∀ g, K (.lst g (ints (celM m w es es.length))) st) : CallV Tryz.prog T M 109 [encM fl m, .lst f vs] st K Kp := by
  obtain ⟨⟨hw, ⟨w1, w2⟩, hv, ⟨v1, v2⟩, emb, out, pla, ⟨r1, r2⟩, ⟨k1, k2⟩, mix, ⟨cl, hc⟩, re, rp⟩, mq, q1, -, qk, sof⟩ := e
  obtain rfl := qk hk
  obtain ⟨n1, n2⟩ := hE.n1
  have hvl := hE.len
  refine CallV.give (fun_ok hmix c_cell (le_of rfl) ?_)
  simp [F_cell, encM, hw]
  refine ⟨by omega, ?_⟩
  rw [rep_ints]
  have hMB : Blk.row 27 11 [V.agg [I m.kind, I m.vocab, I (w : Int), I m.top, .lst (fl 0) (ints m.cuts), .lst (fl 1) (ints m.embed), .lst (fl 2) (ints m.place), .lst (fl 3) (ints m.mix), .lst (fl 4) (ints m.out), .lst (fl 5) (ints m.soft), .lst (fl 6) (ints m.odds)]] = mdl m.kind m.vocab w m.top (fun i => .lst (fl i) (ints (mls m i))) := rfl
  rw [hMB]
  generalize hS0 : st ++ [mdl m.kind m.vocab w m.top (fun i => .lst (fl i) (ints (mls m i)))] = s0
  have hMb : s0[st.length]? = some (mdl m.kind m.vocab w m.top (fun i => .lst (fl i) (ints (mls m i)))) := by rw [← hS0]; simp
  have hs0l : s0.length = st.length + 1 := by rw [← hS0]; simp
  have hS1 : st ++ [mdl m.kind m.vocab w m.top (fun i => .lst (fl i) (ints (mls m i))), .row 3 1 (ints (mapR w fun _ => 0))] = s0 ++ [.row 3 1 (ints (mapR w fun _ => 0))] := by rw [← hS0]; simp
  rw [hS1]
  obtain ⟨c0, c1, c2, c3, hc0⟩ : ∃ c0 c1 c2 c3, m.cuts = [c0, c1, c2, c3] := by
    match m.cuts, cl with
    | [c0, c1, c2, c3], _ => exact ⟨c0, c1, c2, c3, rfl⟩
  have hg1 : gI m.cuts 1 = c1 := by rw [hc0]; rfl
  have hcu : (ints (mls m 0))[1]? = some (I c1) := by show (ints m.cuts)[1]? = _; rw [hc0]; rfl
  have hc1 := hc c1 (by rw [hc0]; simp)
  refine wp_mloop (fun fr s => ∃ i : Nat, i ≤ es.length ∧ Keep0 s0 s ∧ OutS s0.length 3 1 s (fr.g 6) (ints (celM m w es i)) ∧ fr.df = [] ∧ fr.g 2 = .ptr st.length 1 0 0 ∧ fr.g 5 = I w ∧ fr.g 16 = .lst f vs ∧ fr.g 17 = I es.length ∧ fr.g 18 = I i) (fun fr _ => es.length - nat (fr.g 18))
    ⟨0, by omega, (Keep0.refl _).more _, Or.inr ⟨s0.length, Nat.le_refl _, by simp [celM], by simp [celM_len, hs0l]⟩, by simp, by simp, by simp, by simp, by simp [hvl], by simp⟩ ?_
  rintro fr s ⟨i, hi, hkp, ho, hdf, z2, z5, z16, z17, z18⟩
  by_cases hlt : i < es.length
  · obtain ⟨g, hg⟩ := hE.at_ hlt
    have hel := hE.lenE hlt
    simp [z16, z17, z18, hlt]
    simp [hg, z5]
    refine ⟨by omega, ?_⟩
    rw [rep_ints]
    have hre : Rd s (fr.g 6) (celM m w es i) := Rd.of_out ho
    have hH := celM_len m w es i
    generalize hv6 : fr.g 6 = v6 at *
    let G := fun o => clampI (shM (w32 (mvM m.mix w (celM m w es i) o + mvM m.mix w (gE es i) (w + o))) (gI m.cuts 1)) (-1000) 1000
    refine wp_mloop (fun fr s' => ∃ (o : Nat) (l : List Int), o ≤ w ∧ l.length = w ∧ (∀ j, j < o → l[j]? = some (G j)) ∧ s' = s ++ [.row 3 1 (ints l)] ∧ fr.df = [] ∧ fr.g 2 = .ptr st.length 1 0 0 ∧ fr.g 5 = I w ∧ fr.g 6 = v6 ∧ fr.g 8 = .lst g (ints (gE es i)) ∧ fr.g 9 = .own s.length w 0 w ∧ fr.g 16 = .lst f vs ∧ fr.g 17 = I es.length ∧ fr.g 18 = I i ∧ fr.g 25 = I w ∧ fr.g 26 = I o) (fun fr _ => w - nat (fr.g 26))
      ⟨0, mapR w fun _ => 0, by omega, by simp, fun j hj => absurd hj (by omega), rfl, by simp [hdf], by simp [z2], by simp [z5], by simp [hv6], by simp, by simp, by simp [z16], by simp [z17], by simp [z18], by simp, by simp⟩ ?_
    clear hv6 hdf z2 z5 z16 z17 z18
    rintro fr s' ⟨o, l, ho1, hl, hj, rfl, hdf, z2, z5, z6, z8, z9, z16, z17, z18, z25, z26⟩
    by_cases ho2 : o < w
    · have hMb' := (hkp.more [.row 3 1 (ints l)]).at_ hMb
      simp only [mdl] at hMb'
      have hsub : ∀ k, k < 2 → k * (w * w) + o * w + w ≤ m.mix.length := fun k hk => by
        have h1 : o * w + w ≤ w * w := by rw [← Nat.succ_mul]; exact Nat.mul_le_mul_right w ho2
        have h2 : k * (w * w) + w * w ≤ 2 * (w * w) := by rw [← Nat.succ_mul]; exact Nat.mul_le_mul_right _ hk
        omega
      simp [z25, z26, ho2]
      refine wp_mflat [] [] ?_
      simp [z2, z5, z6, z8, z26, hMb']
      refine matrix_v (fl := fl) (m := m) (i := 0) (by rw [encM, hw]; rfl) hw w2 2 (by omega) (by omega) mq fun g3 => ?_
      refine row_i _ _ o w w (len_sub mq (by omega)) ho2 (by omega) (by omega) fun g4 => ?_
      refine dot_r (Rd.lst _ _ _) (hre.more _) (by rw [hH]; simp; omega) (by simp; omega) ?_
      refine matrix_v (fl := fl) (m := m) (i := 1) (by rw [encM, hw]; rfl) hw w2 2 (by omega) (by omega) mq fun g5 => ?_
      refine row_i _ _ o w w (len_sub mq (by omega)) ho2 (by omega) (by omega) fun g6 => ?_
      refine dot_r (Rd.lst _ _ _) (Rd.lst _ _ _) (by rw [hel]; simp; omega) (by simp; omega) ?_
      rw [mv_row (hsub 0 (by omega)) ho2, mv_row (hsub 1 (by omega)) ho2]
      simp
      refine wrap_v _ ?_
      rw [w32_w64]
      simp [hMb', hcu]
      refine shift_v _ _ hc1 (by have := w32_rng (mvM m.mix w (celM m w es i) o + mvM m.mix w (gE es i) (w + o)); omega) ?_
      have hG : min (max (shM (w32 (mvM m.mix w (celM m w es i) o + mvM m.mix w (gE es i) (w + o))) c1) (-1000)) 1000 = G o := by rw [clamp_eq _ _ _ (by omega), ← hg1]
      obtain ⟨hl2, hj2⟩ := set_upto hl ho2 hj
      have hx := fun hk => ints_get' (List.getElem?_eq_getElem (show o < l.length by omega)) hk
      have hw1 : IntKind.i64.wrap ((o : Int) + 1) = ((o + 1 : Nat) : Int) := by rw [w64 (n := (o : Int) + 1) (by omega) (by omega)]; push_cast; rfl
      have hup : upM st.length M s.length = true := by have := hkp.len; simp [upM]; omega
      simp [hG, z9, hl, ho2, hx, ints_set, hup]
      exact ⟨⟨o + 1, by omega, _, hl2, hj2, rfl, hdf, z16, z17, z18, z25, hw1⟩, by rw [hw1]; omega⟩
    · obtain rfl : o = w := by omega
      have hX : l = celM m o es (i + 1) := mapR_eq hl hj
      subst hX
      simp [z25, z26, z9]
      have hw1 : IntKind.i64.wrap ((i : Int) + 1) = ((i + 1 : Nat) : Int) := by rw [w64 (n := (i : Int) + 1) (by omega) (by omega)]; push_cast; rfl
      simp [z18, hw1]
      exact ⟨⟨i + 1, by omega, hkp.more _, Or.inr ⟨s.length, hkp.len, by simp, by simp [celM_len]⟩, hdf, z2, z5, z16, z17, by push_cast; rfl⟩, by omega⟩
  · obtain rfl : i = es.length := by omega
    simp [z17, z18, hdf]
    obtain ⟨gg, hfr⟩ := (ho.down (show st.length ≤ s0.length by omega)).frz (ints_cells _)
    rw [← hS0] at hkp
    exact ⟨_, hfr, hkp.low, by rw [hkp.take]; exact hK gg⟩
set_option maxRecDepth 10000 in
theorem conv_v {m : LModel} {w r vo q : Nat} (fl : Nat → Bool) (e : ScS m w r vo q) {vs : List V} {es : List (List Int)} {f : Bool} (hE : EsV vs es w) (hK : ∀ g, K (.lst g (ints (conM m w q es))) st) : CallV Tryz.prog T M 110 [encM fl m, .lst f vs] st K Kp := by
  obtain ⟨⟨hw, ⟨w1, w2⟩, hv, ⟨v1, v2⟩, emb, out, pla, ⟨r1, r2⟩, ⟨k1, k2⟩, mix, ⟨cl, hc⟩, re, rp⟩, mq, ⟨q1, q2⟩, -, qk, sof⟩ := e
  obtain ⟨n1, n2⟩ := hE.n1
  have hvl := hE.len
  obtain ⟨ww, hww⟩ : ∃ ww, ww = w * w := ⟨_, rfl⟩
  have h25 : w * w ≤ 5 * 5 := Nat.mul_le_mul w2 w2
  have h1w : 1 * 1 ≤ w * w := Nat.mul_le_mul w1 w1
  have hi64 : IntKind.i64.wrap ((w : Int) * (w : Int)) = (ww : Int) := by
    have e : (w : Int) * (w : Int) = ((w * w : Nat) : Int) := by push_cast; rfl
    rw [e, hww, w64 (by omega) (by omega)]
  have hmq : m.mix.length = q * ww := by rw [hww]; exact mq
  refine CallV.give (fun_ok hmix c_conv (le_of rfl) ?_)
  simp [F_conv, encM, hw, hi64]
  refine rowsN_v _ _ ww (by omega) (by rw [hmq]; have := Nat.mul_le_mul q2 (show ww ≤ 25 by omega); omega) ?_
  rw [rowsM_r (by omega) hmq]
  simp
  refine ⟨by omega, ?_⟩
  rw [rep_ints]
  have hMB : Blk.row 27 11 [V.agg [I m.kind, I m.vocab, I (w : Int), I m.top, .lst (fl 0) (ints m.cuts), .lst (fl 1) (ints m.embed), .lst (fl 2) (ints m.place), .lst (fl 3) (ints m.mix), .lst (fl 4) (ints m.out), .lst (fl 5) (ints m.soft), .lst (fl 6) (ints m.odds)]] = mdl m.kind m.vocab w m.top (fun i => .lst (fl i) (ints (mls m i))) := rfl
  rw [hMB]
  obtain ⟨c0, c1, c2, c3, hc0⟩ : ∃ c0 c1 c2 c3, m.cuts = [c0, c1, c2, c3] := by
    match m.cuts, cl with
    | [c0, c1, c2, c3], _ => exact ⟨c0, c1, c2, c3, rfl⟩
  have hg1 : gI m.cuts 1 = c1 := by rw [hc0]; rfl
  have hcu : (ints (mls m 0))[1]? = some (I c1) := by show (ints m.cuts)[1]? = _; rw [hc0]; rfl
  have hc1 := hc c1 (by rw [hc0]; simp)
  let G := fun o => max (shM (accC m w q es o q) (gI m.cuts 1)) 0
  have hMb : ∀ b, (st ++ [mdl m.kind m.vocab w m.top (fun i => .lst (fl i) (ints (mls m i))), b])[st.length]? = some (mdl m.kind m.vocab w m.top (fun i => .lst (fl i) (ints (mls m i)))) := fun b => by simp
  simp only [mdl] at hMb
  refine wp_mloop (fun fr s => ∃ (o : Nat) (l : List Int), o ≤ w ∧ l.length = w ∧ (∀ j, j < o → l[j]? = some (G j)) ∧ s = st ++ [mdl m.kind m.vocab w m.top (fun i => .lst (fl i) (ints (mls m i))), .row 3 1 (ints l)] ∧ fr.df = [] ∧ fr.g 1 = .lst f vs ∧ fr.g 2 = .ptr st.length 1 0 0 ∧ fr.g 5 = I w ∧ fr.g 6 = I q ∧ fr.g 7 = .own (st.length + 1) w 0 w ∧ fr.g 23 = I w ∧ fr.g 24 = I o) (fun fr _ => w - nat (fr.g 24))
    ⟨0, mapR w fun _ => 0, by omega, by simp, fun j hj => absurd hj (by omega), rfl, by simp, by simp, by simp, by simp, by simp, by simp, by simp, by simp⟩ ?_
  rintro fr s ⟨o, l, ho1, hl, hj, rfl, hdf, z1, z2, z5, z6, z7, z23, z24⟩
  by_cases ho2 : o < w
  · simp [z23, z24, ho2, z6]
    refine wp_mloop (fun fr s => ∃ j : Nat, j ≤ q ∧ s = st ++ [mdl m.kind m.vocab w m.top (fun i => .lst (fl i) (ints (mls m i))), .row 3 1 (ints l)] ∧ fr.df = [] ∧ fr.g 1 = .lst f vs ∧ fr.g 2 = .ptr st.length 1 0 0 ∧ fr.g 5 = I w ∧ fr.g 6 = I q ∧ fr.g 7 = .own (st.length + 1) w 0 w ∧ fr.g 23 = I w ∧ fr.g 24 = I o ∧ fr.g 8 = I o ∧ fr.g 27 = I q ∧ fr.g 28 = I j ∧ fr.g 9 = I (accC m w q es o j)) (fun fr _ => q - nat (fr.g 28))
      ⟨0, by omega, rfl, by simp [hdf], by simp [z1], by simp [z2], by simp [z5], by simp [z6], by simp [z7], by simp [z23], by simp [z24], by simp, by simp, by simp, by simp [accC]⟩ ?_
    clear hdf z1 z2 z5 z6 z7 z23 z24
    rintro fr s ⟨j, hjq, rfl, hdf, z1, z2, z5, z6, z7, z23, z24, z8, z27, z28, z9⟩
    by_cases hj2 : j < q
    · have hw1 : IntKind.i64.wrap ((j : Int) + 1) = ((j + 1 : Nat) : Int) := by rw [w64 (n := (j : Int) + 1) (by omega) (by omega)]; push_cast; rfl
      have hidx : IntKind.i64.wrap (IntKind.i64.wrap ((es.length : Int) - (q : Int)) + (j : Int)) = (es.length : Int) - q + j := by rw [w64 (n := (es.length : Int) - q) (by omega) (by omega), w64 (by omega) (by omega)]
      by_cases hc2 : q ≤ es.length + j
      · have hn : (es.length : Int) - q + j = ((es.length + j - q : Nat) : Int) := by omega
        obtain ⟨x, hx⟩ : ∃ x, x = es.length + j - q := ⟨_, rfl⟩
        rw [hn, ← hx] at hidx
        obtain ⟨g, hg⟩ := hE.at_ (show x < es.length by omega)
        have hel := hE.lenE (show x < es.length by omega)
        have hsub : j * (w * w) + o * w + w ≤ m.mix.length := by
          have h1 : o * w + w ≤ w * w := by rw [← Nat.succ_mul]; exact Nat.mul_le_mul_right w ho2
          have h2 : j * (w * w) + w * w ≤ q * (w * w) := by rw [← Nat.succ_mul]; exact Nat.mul_le_mul_right _ hj2
          omega
        simp [z27, z28, hj2, z1, z6, hvl, hidx]
        refine wp_mflat [] [] ?_
        simp [z1, z2, z5, z8, z9, hg, mdl]
        refine matrix_v (fl := fl) (m := m) (by rw [encM, hw]; rfl) hw w2 j q hj2 (by omega) mq fun g3 => ?_
        refine row_i _ _ o w w (len_sub mq hj2) ho2 (by omega) (by omega) fun g4 => ?_
        refine dot_r (Rd.lst _ _ _) (Rd.lst _ _ _) (by rw [hel]; simp; omega) (by simp; omega) ?_
        rw [mv_row hsub ho2]
        simp
        refine wrap_v _ ?_
        rw [w32_w64]
        have ha : accC m w q es o (j + 1) = w32 (accC m w q es o j + mvM m.mix w (gE es x) (j * w + o)) := by rw [accC, if_pos hc2, ← hx]
        simp [z28, hw1, -Int.natCast_add]
        exact ⟨⟨j + 1, by omega, hdf, z6, z7, z23, z24, z27, rfl, by rw [ha]⟩, by omega⟩
      · simp [z27, z28, hj2, z1, z6, hvl, hidx, show ¬ (0 : Int) ≤ (es.length : Int) - q + j by omega]
        have ha : accC m w q es o (j + 1) = accC m w q es o j := by rw [accC, if_neg hc2]
        simp [hw1, -Int.natCast_add]
        exact ⟨⟨j + 1, by omega, hdf, z2, z5, z7, z23, z24, z8, rfl, by rw [ha]; exact z9⟩, by omega⟩
    · obtain rfl : j = q := by omega
      have hMb' := hMb (.row 3 1 (ints l))
      simp [z27, z28, z2, z7, z8, z9, mdl, hcu]
      have hrg : -2147483648 ≤ accC m w j es o j ∧ accC m w j es o j ≤ 2147483647 := by
        have : ∀ k, -2147483648 ≤ accC m w j es o k ∧ accC m w j es o k ≤ 2147483647 := fun k => by
          induction k with
          | zero => simp [accC]
          | succ k ih =>
            rw [accC]
            split
            · exact w32_rng _
            · exact ih
        exact this j
      refine shift_v _ _ hc1 (by omega) ?_
      have hG : max (shM (accC m w j es o j) c1) 0 = G o := by show _ = max (shM _ (gI m.cuts 1)) 0; rw [hg1]
      obtain ⟨hl2, hj2⟩ := set_upto hl ho2 hj
      have hx := fun hk => ints_get' (List.getElem?_eq_getElem (show o < l.length by omega)) hk
      have hw1 : IntKind.i64.wrap ((o : Int) + 1) = ((o + 1 : Nat) : Int) := by rw [w64 (n := (o : Int) + 1) (by omega) (by omega)]; push_cast; rfl
      simp [hG, hl, ho2, hx, ints_set, z24, hw1, -Int.natCast_add]
      exact ⟨⟨o + 1, by omega, _, hl2, hj2, rfl, hdf, z1, z5, z6, z23, rfl⟩, by omega⟩
  · obtain rfl : o = w := by omega
    have hX : l = conM m o q es := mapR_eq hl hj
    subst hX
    simp [z23, z24, hdf, z7]
    have hcl : (conM m o q es).length = o := mapR_len _ _
    have hfr := Frz.row (n := st.length) (st.length + 1) o 0 o 3 1 (ints (conM m o q es)) (by omega) (st := st ++ [mdl m.kind m.vocab o m.top (fun i => .lst (fl i) (ints (mls m i))), .row 3 1 (ints (conM m o q es))]) (by simp) (by simp [hcl]) (ints_cells _)
    refine ⟨_, hfr, Keep0.low (Keep0.refl _), ?_⟩
    simp
    rw [List.take_of_length_le (by simp [hcl])]
    exact hK false
end
end Go.Proofs.YtadkhechobeccaaGreatDoor.Vm
namespace Go.Proofs.YtadkhechobeccaaGreatDoor.Vm
open Go.RowKit
theorem ints_take (l : List Int) (n : Nat) : List.take n (ints l) = ints (l.take n) := by simp [ints, List.map_take]
section
variable {T : Tbl} {M : Nat → Bool} {st : St} {K : V → St → Prop} {Kp : List PanicEntry → St → Prop}
theorem max_v {v : V} {l : List Int} (rl : Rd st v l) (h1 : 1 ≤ l.length) (h2 : l.length ≤ 1000000) (hK : K (I (mxK l (l.length - 1))) st) : CallV Tryz.prog T M 37 [v] st K Kp := by
  refine fun_ok hmix c_maxI (le_of rfl) ?_
  obtain ⟨p, p1, p2⟩ := rl.el (List.getElem?_eq_getElem (show 0 < l.length by omega))
  have h0 : mxK l 0 = l[0] := gI_of (List.getElem?_eq_getElem (show 0 < l.length by omega))
  have hz : ((0 : Nat) : Int) = 0 := rfl
  rw [hz] at p1
  simp [F_maxI, rl.len, show ¬ (l.length : Int) < 1 by omega, p1, p2]
  refine wp_mloop (fun fr s => ∃ k : Nat, k < l.length ∧ s = st ∧ fr.df = [] ∧ fr.g 0 = v ∧ fr.g 3 = I (mxK l k) ∧ fr.g 4 = I ((k : Int) + 1)) (fun fr _ => l.length - nat (fr.g 4))
    ⟨0, by omega, rfl, by simp, by simp, by simp [h0], by simp⟩ ?_
  rintro fr s ⟨k, hk, rfl, hdf, z0, z3, z4⟩
  by_cases hlt : k + 1 < l.length
  · obtain ⟨q, q1, q2⟩ := rl.el (List.getElem?_eq_getElem hlt)
    have hc : ((k + 1 : Nat) : Int) = (k : Int) + 1 := by push_cast; rfl
    rw [hc] at q1
    simp [z0, z3, z4, rl.len, show (k : Int) + 1 < (l.length : Int) by omega, q1, q2, w64 (n := (k : Int) + 1 + 1) (by omega) (by omega)]
    have hm : mxK l (k + 1) = max (mxK l k) l[k + 1] := by
      show max (mxK l k) (gI l (k + 1)) = _
      rw [gI_of (List.getElem?_eq_getElem hlt)]
    exact ⟨⟨k + 1, hlt, hdf, hm.symm, by push_cast; rfl⟩, by omega⟩
  · have : k = l.length - 1 := by omega
    subst this
    simp [z0, z3, z4, rl.len, show ¬ ((l.length - 1 : Nat) : Int) + 1 < (l.length : Int) by omega, hdf]
    exact hK
set_option maxRecDepth 10000 in
theorem attend_v {m : LModel} {w r vo q : Nat} (fl : Nat → Bool) (e : ScS m w r vo q) {vs : List V} {es : List (List Int)} {f : Bool} (hE : EsV vs es (3 * w)) (hK : ∀ g, K (.lst g (ints (attM m w es))) st) : CallV Tryz.prog T M 108 [encM fl m, .lst f vs] st K Kp := by
  obtain ⟨⟨hw, ⟨w1, w2⟩, hv, ⟨v1, v2⟩, emb, out, pla, ⟨r1, r2⟩, ⟨k1, k2⟩, mix, ⟨cl, hc⟩, re, rp⟩, mq, ⟨q1, q2⟩, -, qk, sof⟩ := e
  obtain ⟨n1, n2⟩ := hE.n1
  have hvl := hE.len
  obtain ⟨c0, c1, c2, c3, hc0⟩ : ∃ c0 c1 c2 c3, m.cuts = [c0, c1, c2, c3] := by
    match m.cuts, cl with
    | [c0, c1, c2, c3], _ => exact ⟨c0, c1, c2, c3, rfl⟩
  have hg1 : gI m.cuts 1 = c1 := by rw [hc0]; rfl
  have hg2 : gI m.cuts 2 = c2 := by rw [hc0]; rfl
  have hcu : (ints (mls m 0))[1]? = some (I c1) := by show (ints m.cuts)[1]? = _; rw [hc0]; rfl
  have hcu2 : (ints (mls m 0))[2]? = some (I c2) := by show (ints m.cuts)[2]? = _; rw [hc0]; rfl
  have hc1 := hc c1 (by rw [hc0]; simp)
  have hc2 := hc c2 (by rw [hc0]; simp)
  obtain ⟨nl, hnl⟩ : ∃ x, x = es.length - 1 := ⟨_, rfl⟩
  have hn1 : IntKind.i64.wrap ((es.length : Int) - 1) = (nl : Int) := by rw [w64 (by omega) (by omega)]; omega
  have hw2 : IntKind.i64.wrap (2 * (w : Int)) = ((2 * w : Nat) : Int) := by rw [w64 (by omega) (by omega)]; push_cast; rfl
  obtain ⟨gl, hgl⟩ := hE.at_ (show nl < es.length by omega)
  have hll := hE.lenE (show nl < es.length by omega)
  obtain ⟨w2_, hw2_⟩ : ∃ x, x = 2 * w := ⟨_, rfl⟩
  rw [← hw2_] at hw2
  refine CallV.give (fun_ok hmix c_attend (le_of rfl) ?_)
  have hMB : Blk.row 27 11 [V.agg [I m.kind, I m.vocab, I (w : Int), I m.top, .lst (fl 0) (ints m.cuts), .lst (fl 1) (ints m.embed), .lst (fl 2) (ints m.place), .lst (fl 3) (ints m.mix), .lst (fl 4) (ints m.out), .lst (fl 5) (ints m.soft), .lst (fl 6) (ints m.odds)]] = mdl m.kind m.vocab w m.top (fun i => .lst (fl i) (ints (mls m i))) := rfl
  have e5 : F_attend.code = .seq F_attend.code.l (.seq F_attend.code.r.l (.seq F_attend.code.r.r.l (.seq F_attend.code.r.r.r.l (.seq F_attend.code.r.r.r.r.l F_attend.code.r.r.r.r.r)))) := rfl
  generalize hS0 : st ++ [mdl m.kind m.vocab w m.top (fun i => .lst (fl i) (ints (mls m i)))] = s0
  have hMb : s0[st.length]? = some (mdl m.kind m.vocab w m.top (fun i => .lst (fl i) (ints (mls m i)))) := by rw [← hS0]; simp
  have hs0l : s0.length = st.length + 1 := by rw [← hS0]; simp
  have tail5 : ∀ (fr : Fr) (s : St), Keep0 s0 s → OutS s0.length 3 1 s (fr.g 7) (ints (mapR es.length (sAt m w es))) → fr.df = [] → fr.g 1 = .lst f vs → fr.g 2 = .ptr st.length 1 0 0 → fr.g 5 = I w →
      wpM Tryz.prog T (liftM (upM st.length M)) F_attend.code.r.r.r.r.r (Fin F_attend.res (fun v st' => ∃ v', Frz st.length st' v v' ∧ LowSt st st' ∧ K v' (st'.take st.length)) (fun c st' => LowSt st st' ∧ Kp c (st'.take st.length))) fr s := by
    intro fr s hkp ho hdf z1 z2 z5
    have hrs : Rd s (fr.g 7) (mapR es.length (sAt m w es)) := Rd.of_out ho
    have hlo := ho.lt
    have hMs := hkp.at_ hMb
    have hsl := hkp.len
    simp [F_attend, MC.r]
    refine max_v hrs (by simp; omega) (by simp; omega) ?_
    generalize hmx : mxK (mapR es.length (sAt m w es)) ((mapR es.length (sAt m w es)).length - 1) = mx
    rw [mapR_len] at hmx
    simp [z5, z1, hvl]
    refine ⟨by omega, ?_⟩
    rw [rep_ints]
    generalize hv7 : fr.g 7 = v7 at *
    have hrs1 : ∀ e, Rd (s ++ e) v7 (mapR es.length (sAt m w es)) := fun e => hrs.more e
    refine wp_mloop (fun fr s' => ∃ i : Nat, i ≤ es.length ∧ s' = s ++ [.row 3 1 (ints (mapR w fun o => accA m w es o i))] ∧ fr.df = [] ∧ fr.g 2 = .ptr st.length 1 0 0 ∧ fr.g 5 = I w ∧ fr.g 7 = v7 ∧ fr.g 10 = I mx ∧ fr.g 11 = .own s.length w 0 w ∧ fr.g 53 = .lst f vs ∧ fr.g 54 = I es.length ∧ fr.g 55 = I i) (fun fr _ => es.length - nat (fr.g 55))
      ⟨0, by omega, by simp [accA], by simp [hdf], by simp [z2], by simp [z5], by simp [hv7], by simp, by simp, by simp, by simp, by simp⟩ ?_
    clear hdf z1 z2 z5 hv7
    rintro fr s' ⟨i, hi, rfl, hdf, z2, z5, z7, z10, z11, z53, z54, z55⟩
    by_cases hlt : i < es.length
    · obtain ⟨g, hg⟩ := hE.at_ hlt
      have hel := hE.lenE hlt
      have hMb' := get_more hMs [.row 3 1 (ints (mapR w fun o => accA m w es o i))]
      simp only [mdl] at hMb'
      obtain ⟨p, p1, p2⟩ := (hrs1 [.row 3 1 (ints (mapR w fun o => accA m w es o i))]).el (mapR_get (g := sAt m w es) hlt)
      simp [z53, z54, z55, hlt]
      simp [hg]
      refine wp_mflat [] [] ?_
      simp [z2, z5, z7, z10, hMb', p1, p2]
      refine wrap_v _ ?_
      rw [w32_w64]
      have hsl5 : (mls m 5).length = m.soft.length := rfl
      have hwr : IntKind.i64.wrap ((m.soft.length : Int) - 1) = (m.soft.length : Int) - 1 := w64 (by omega) (by omega)
      have hcl : min (max (w32 (mx - sAt m w es i)) 0) ((m.soft.length : Int) - 1) = clampI (w32 (mx - sAt m w es i)) 0 ((m.soft.length : Int) - 1) := clamp_eq _ _ _ (by omega)
      have hcb : 0 ≤ clampI (w32 (mx - sAt m w es i)) 0 ((m.soft.length : Int) - 1) ∧ clampI (w32 (mx - sAt m w es i)) 0 ((m.soft.length : Int) - 1) ≤ (m.soft.length : Int) - 1 := by unfold clampI; omega
      have hwa : wAt m w es i = gI m.soft (clampI (w32 (mx - sAt m w es i)) 0 ((m.soft.length : Int) - 1)).toNat := by rw [← hmx]; rfl
      generalize clampI (w32 (mx - sAt m w es i)) 0 ((m.soft.length : Int) - 1) = ci at *
      have hso : (ints (mls m 5))[ci.toNat]? = some (I (wAt m w es i)) := by
        rw [hwa]
        exact ints_get (l := m.soft) (by rw [gI, List.getElem?_eq_getElem (by omega)]; rfl)
      simp only [intOf_I, ob_some, hsl5, hwr, hcl]
      simp [hso, hcb.1, hw2, hel, show w ≤ w2_ by omega, win_sub]
      refine ⟨⟨by omega, ints_one _⟩, ?_⟩
      have hwin : (((gE es i).drop w).take (w2_ - w)).length = w := by simp; omega
      have hwg : ∀ o, o < w → (((gE es i).drop w).take (w2_ - w))[o]? = some (gI (gE es i) (w + o)) := fun o ho => by
        rw [List.getElem?_take_of_lt (by omega), List.getElem?_drop, gI, List.getElem?_eq_getElem (by omega)]
        rfl
      generalize ((gE es i).drop w).take (w2_ - w) = E1 at *
      refine wp_mloop (fun fr s' => ∃ (o : Nat) (l : List Int), o ≤ w ∧ l.length = w ∧ (∀ j, j < o → l[j]? = some (accA m w es j (i + 1))) ∧ (∀ j, o ≤ j → j < w → l[j]? = some (accA m w es j i)) ∧ s' = s ++ [.row 3 1 (ints l)] ∧ fr.df = [] ∧ fr.g 2 = .ptr st.length 1 0 0 ∧ fr.g 5 = I w ∧ fr.g 7 = v7 ∧ fr.g 10 = I mx ∧ fr.g 11 = .own s.length w 0 w ∧ fr.g 14 = I (wAt m w es i) ∧ fr.g 53 = .lst f vs ∧ fr.g 54 = I es.length ∧ fr.g 55 = I i ∧ (∃ b, fr.g 81 = .lst b (ints E1)) ∧ fr.g 82 = I w ∧ fr.g 83 = I o) (fun fr _ => w - nat (fr.g 83))
        ⟨0, mapR w fun o => accA m w es o i, by omega, by simp, fun j hj => absurd hj (by omega), fun j _ hj => mapR_get hj, rfl, by simp [hdf], by simp [z2], by simp [z5], by simp [z7], by simp [z10], by simp [z11], by simp, by simp [z53], by simp [z54], by simp [z55], ⟨_, by simp; rfl⟩, by simp; omega, by simp⟩ ?_
      clear hdf z2 z5 z7 z10 z11 z53 z54 z55 hMb' p1 p2
      rintro fr s' ⟨o, l, ho1, hl, hj1, hj2, rfl, hdf, z2, z5, z7, z10, z11, z14, z53, z54, z55, ⟨b81, z81⟩, z82, z83⟩
      by_cases ho2 : o < w
      · have hx := ints_get (hj2 o (Nat.le_refl _) ho2)
        have hy := ints_get (hwg o ho2)
        simp [z82, z83, ho2]
        simp [z81, hy]
        refine wp_mtail [] [] ?_
        simp [z11, z14, hl, ho2, ints_get' (hj2 o (Nat.le_refl _) ho2)]
        refine wrap_v _ ?_
        rw [w32_w64]
        simp
        refine wrap_v _ ?_
        rw [w32_w64]
        have hac : w32 (accA m w es o i + w32 (wAt m w es i * gI (gE es i) (w + o))) = accA m w es o (i + 1) := rfl
        have hup : upM st.length M s.length = true := by simp [upM]; omega
        have hw1 : IntKind.i64.wrap ((o : Int) + 1) = ((o + 1 : Nat) : Int) := by rw [w64 (n := (o : Int) + 1) (by omega) (by omega)]; push_cast; rfl
        simp [hac, hl, hx, hup, ints_set, z83, hw1, -Int.natCast_add]
        refine ⟨⟨o + 1, by omega, l.set o (accA m w es o (i + 1)), by simp [hl], fun j hj => ?_, fun j hj hj3 => ?_, rfl, hdf, z2, z5, z7, z10, z53, z54, z55, ?_, z82, rfl⟩, by omega⟩
        · by_cases hjk : j = o
          · subst hjk; rw [List.getElem?_set_self (by omega)]
          · rw [List.getElem?_set_ne (Ne.symm hjk)]; exact hj1 j (by omega)
        · rw [List.getElem?_set_ne (by omega)]; exact hj2 j (by omega) hj3
        · cases b81 with
          | false => exact Or.inl z81
          | true => exact Or.inr z81
      · obtain rfl : o = w := by omega
        have hX : l = mapR o fun x => accA m o es x (i + 1) := mapR_eq hl hj1
        have hw1 : IntKind.i64.wrap ((i : Int) + 1) = ((i + 1 : Nat) : Int) := by rw [w64 (n := (i : Int) + 1) (by omega) (by omega)]; push_cast; rfl
        subst hX
        simp [z82, z83]
        simp [z55, hw1, -Int.natCast_add]
        exact ⟨⟨i + 1, by omega, rfl, hdf, z2, z5, z7, z10, z11, z53, z54, rfl⟩, by omega⟩
    · obtain rfl : i = es.length := by omega
      simp [z54, z55, z11]
      let G := fun o => shM (accA m w es o es.length) (gI m.cuts 2)
      have hMb' : ∀ b, (s ++ [b])[st.length]? = some (mdl m.kind m.vocab w m.top (fun i => .lst (fl i) (ints (mls m i)))) := fun b => get_more hMs _
      simp only [mdl] at hMb'
      refine wp_mloop (fun fr s' => ∃ (o : Nat) (l : List Int), o ≤ w ∧ l.length = w ∧ (∀ j, j < o → l[j]? = some (G j)) ∧ (∀ j, o ≤ j → j < w → l[j]? = some (accA m w es j es.length)) ∧ s' = s ++ [.row 3 1 (ints l)] ∧ fr.df = [] ∧ fr.g 2 = .ptr st.length 1 0 0 ∧ fr.g 11 = .own s.length w 0 w ∧ fr.g 104 = I w ∧ fr.g 105 = I o) (fun fr _ => w - nat (fr.g 105))
        ⟨0, mapR w fun o => accA m w es o es.length, by omega, by simp, fun j hj => absurd hj (by omega), fun j _ hj => mapR_get hj, rfl, by simp [hdf], by simp [z2], by simp [z11], by simp, by simp⟩ ?_
      clear hdf z2 z5 z7 z10 z11 z53 z54 z55
      rintro fr s' ⟨o, l, ho1, hl, hj1, hj2, rfl, hdf, z2, z11, z104, z105⟩
      by_cases ho2 : o < w
      · have hx := ints_get (hj2 o (Nat.le_refl _) ho2)
        simp [z104, z105, ho2]
        refine wp_mtail [] [] ?_
        simp [z2, z11, z105, hMb', hcu2, hl, ho2, ints_get' (hj2 o (Nat.le_refl _) ho2)]
        have hrg : -2147483648 ≤ accA m w es o es.length ∧ accA m w es o es.length ≤ 2147483647 := by
          cases hn : es.length with
          | zero => omega
          | succ n => exact w32_rng _
        refine shift_v _ _ hc2 (by omega) ?_
        have hG : shM (accA m w es o es.length) c2 = G o := by show _ = shM _ (gI m.cuts 2); rw [hg2]
        have hup : upM st.length M s.length = true := by simp [upM]; omega
        have hw1 : IntKind.i64.wrap ((o : Int) + 1) = ((o + 1 : Nat) : Int) := by rw [w64 (n := (o : Int) + 1) (by omega) (by omega)]; push_cast; rfl
        simp [hG, hl, hx, hup, ints_set, hw1, -Int.natCast_add]
        refine ⟨⟨o + 1, by omega, l.set o (G o), by simp [hl], fun j hj => ?_, fun j hj hj3 => ?_, rfl, hdf, z104, rfl⟩, by omega⟩
        · by_cases hjk : j = o
          · subst hjk; rw [List.getElem?_set_self (by omega)]
          · rw [List.getElem?_set_ne (Ne.symm hjk)]; exact hj1 j (by omega)
        · rw [List.getElem?_set_ne (by omega)]; exact hj2 j (by omega) hj3
      · obtain rfl : o = w := by omega
        have hX : l = attM m o es := mapR_eq hl hj1
        have hal : (attM m o es).length = o := mapR_len _ _
        subst hX
        simp [z104, z105, hdf, z11]
        have hfr := Frz.row (n := st.length) s.length o 0 o 3 1 (ints (attM m o es)) (by omega) (st := s ++ [.row 3 1 (ints (attM m o es))]) (by simp) (by simp [hal]) (ints_cells _)
        have hkk := hkp.more [.row 3 1 (ints (attM m o es))]
        rw [← hS0] at hkk
        refine ⟨_, hfr, hkk.low, ?_⟩
        rw [hkk.take]
        simp
        rw [List.take_of_length_le (by simp [hal])]
        exact hK false
  generalize F_attend.code.r.r.r.r.r = c5 at e5 tail5
  generalize Fin F_attend.res _ _ = QQ at tail5 ⊢
  rw [e5]
  simp [F_attend, MC.l, MC.r, encM, hw, hvl, hn1, hgl, hw2, win_sub, hll, show w2_ ≤ 3 * w by omega]
  rw [hMB, hS0]
  refine ⟨ints_one _, ?_⟩
  have hlq : ((gE es nl).drop w2_).take (3 * w - w2_) = (gE es nl).drop w2_ := List.take_of_length_le (by simp; omega)
  rw [hlq]
  refine wp_mloop (fun fr s => ∃ i : Nat, i ≤ es.length ∧ Keep0 s0 s ∧ OutS s0.length 3 1 s (fr.g 7) (ints (mapR i (sAt m w es))) ∧ fr.df = [] ∧ fr.g 1 = .lst f vs ∧ fr.g 2 = .ptr st.length 1 0 0 ∧ fr.g 5 = I w ∧ (∃ b, fr.g 6 = .lst b (ints ((gE es nl).drop w2_))) ∧ fr.g 29 = .lst f vs ∧ fr.g 30 = I es.length ∧ fr.g 31 = I i) (fun fr _ => es.length - nat (fr.g 31))
    ⟨0, by omega, Keep0.refl _, by simpa [mapR, ints] using OutS.nil _ _ _ _, by simp, by simp, by simp, by simp, ⟨_, by simp; rfl⟩, by simp, by simp, by simp⟩ ?_
  rintro fr s ⟨i, hi, hkp, ho, hdf, z1, z2, z5, ⟨b6, z6⟩, z29, z30, z31⟩
  by_cases hlt : i < es.length
  · obtain ⟨g, hg⟩ := hE.at_ hlt
    have hel := hE.lenE hlt
    have hMb' := hkp.at_ hMb
    simp only [mdl] at hMb'
    have hrd := fun j => rd_own ho (b := st.length) (by omega) j
    simp [z29, z30, z31, hlt]
    simp [hg]
    refine wp_mflat (ownL (fr.g 7)) [] ?_
    simp [z2, z5, z6, hMb', hcu, hrd, hel, show w ≤ 3 * w by omega]
    rw [ints_take]
    refine ⟨ints_one _, ?_⟩
    have hlt2 : ((gE es i).take w).length = w := by simp; omega
    refine dot_r (Rd.lst _ _ _) (Rd.lst _ _ _) (by rw [hlt2]; simp; omega) (by omega) ?_
    have hd : dotK ((gE es i).take w) ((gE es nl).drop w2_) ((gE es i).take w).length = dotK (gE es i) ((gE es (es.length - 1)).drop (2 * w)) w := by
      rw [hlt2, hnl, hw2_]
      exact dotK_congr fun j hj => List.getElem?_take_of_lt hj
    rw [hd]
    refine shift_v _ _ hc1 (by have := dotK_rng (gE es i) ((gE es (es.length - 1)).drop (2 * w)) w; omega) ?_
    simp
    refine app_one ho hkp (own_up ho (by omega) _ _) (by simp; omega) fun v' s' ho' hk' => ?_
    have hw1 : IntKind.i64.wrap ((i : Int) + 1) = ((i + 1 : Nat) : Int) := by rw [w64 (n := (i : Int) + 1) (by omega) (by omega)]; push_cast; rfl
    have hsa : sAt m w es i = shM (dotK (gE es i) ((gE es (es.length - 1)).drop (2 * w)) w) c1 := by rw [← hg1]; rfl
    simp [z31, hw1, -Int.natCast_add]
    exact ⟨⟨i + 1, by omega, hk', by rw [mapR_succ, hsa]; exact ho', hdf, z1, z29, z30, rfl⟩, by omega⟩
  · obtain rfl : i = es.length := by omega
    simp [z30, z31]
    exact tail5 _ s hkp (by simpa using ho) (by simp [hdf]) (by simp [z1]) (by simp [z2]) (by simp [z5])
end
end Go.Proofs.YtadkhechobeccaaGreatDoor.Vm
namespace Go.Proofs.YtadkhechobeccaaGreatDoor.Vm
open Go.RowKit
def lenW (m : LModel) (w : Nat) : Nat := if m.kind = 1 then 3 * w else w
theorem up_own {n n0 t k : Nat} {s : St} {v : V} {l : List V} (ho : OutS n t k s v l) (hn : n0 ≤ n) (M : Nat → Bool) : ∀ b ∈ ownL v, ∀ j, liftM (upM n0 M) b j = true := fun b hb j => by have := (ho.lt b hb).1; simp [upM]; omega
section
variable {T : Tbl} {M : Nat → Bool} {st : St} {K : V → St → Prop} {Kp : List PanicEntry → St → Prop}
set_option maxRecDepth 10000 in
theorem scores_v {m : LModel} {w r vo q : Nat} (fl : Nat → Bool) (e : ScS m w r vo q) {vs : List V} {es : List (List Int)} {f : Bool} (hE : EsV vs es (lenW m w)) (hK : ∀ g, K (.lst g (ints (scoM m w q vo es))) st) : CallV Tryz.prog T M 79 [encM fl m, .lst f vs] st K Kp := by
  have e' := e
  obtain ⟨⟨hw, ⟨w1, w2⟩, hv, ⟨v1, v2⟩, emb, out, pla, ⟨r1, r2⟩, ⟨k1, k2⟩, mix, ⟨cl, hc⟩, re, rp⟩, mq, ⟨q1, q2⟩, -, qk, sof⟩ := e'
  refine CallV.give (fun_ok hmix c_scores (le_of rfl) ?_)
  have e3 : F_scores.code = .seq F_scores.code.l (.seq F_scores.code.r.l (.seq F_scores.code.r.r.l F_scores.code.r.r.r)) := rfl
  generalize hS0 : st ++ [mdl m.kind m.vocab m.width m.top (fun i => .lst (fl i) (ints (mls m i)))] = s0
  have hMb : s0[st.length]? = some (mdl m.kind m.vocab m.width m.top (fun i => .lst (fl i) (ints (mls m i)))) := by rw [← hS0]; simp
  have hs0l : s0.length = st.length + 1 := by rw [← hS0]; simp
  have hHl := hidM_len m w q es
  have tail : ∀ (fr : Fr) (g : Bool), fr.g 2 = .ptr st.length 1 0 0 → fr.g 5 = .lst g (ints (hidM m w q es)) → fr.df = [] →
      wpM Tryz.prog T (liftM (upM st.length M)) F_scores.code.r.r.r (Fin F_scores.res (fun v st' => ∃ v', Frz st.length st' v v' ∧ LowSt st st' ∧ K v' (st'.take st.length)) (fun c st' => LowSt st st' ∧ Kp c (st'.take st.length))) fr s0 := by
    intro fr g z2 z5 hdf
    have hMs := hMb
    simp only [mdl] at hMs
    simp [F_scores, MC.r, z2, hMs, hv]
    refine wp_mloop (fun fr s => ∃ i : Nat, i ≤ vo ∧ Keep0 s0 s ∧ OutS s0.length 3 1 s (fr.g 6) (ints (mapR i fun v => mvM m.out w (hidM m w q es) v)) ∧ fr.df = [] ∧ fr.g 2 = .ptr st.length 1 0 0 ∧ fr.g 5 = .lst g (ints (hidM m w q es)) ∧ fr.g 24 = I vo ∧ fr.g 25 = I i) (fun fr _ => vo - nat (fr.g 25))
      ⟨0, by omega, Keep0.refl _, by simpa [mapR, ints] using OutS.nil _ _ _ _, by simp [hdf], by simp [z2], by simp [z5], by simp, by simp⟩ ?_
    clear z2 z5 hdf hMs
    rintro fr s ⟨i, hi, hkp, ho, hdf, z2, z5, z24, z25⟩
    by_cases hlt : i < vo
    · have hMb' := hkp.at_ hMb
      simp only [mdl] at hMb'
      simp [z24, z25, hlt, z2, hMb', hw]
      refine row_i _ m.out i w vo out hlt (by omega) (by omega) fun g2 => ?_
      have hll := len_sub out hlt
      simp [z5]
      refine dot_r (Rd.lst _ _ _) (Rd.lst _ _ _) (by rw [hll, hHl]; omega) (by omega) ?_
      rw [hll]
      have hd : dotK ((m.out.drop (i * w)).take w) (hidM m w q es) w = mvM m.out w (hidM m w q es) i := dotK_congr fun j hj => List.getElem?_take_of_lt hj
      rw [hd]
      simp
      refine app_one ho hkp (up_own ho (by omega) _) (by simp; omega) fun v' s' ho' hk' => ?_
      have hw1 : IntKind.i64.wrap ((i : Int) + 1) = ((i + 1 : Nat) : Int) := by rw [w64 (n := (i : Int) + 1) (by omega) (by omega)]; push_cast; rfl
      simp [hw1, -Int.natCast_add]
      exact ⟨⟨i + 1, by omega, hk', by rw [mapR_succ]; exact ho', hdf, rfl⟩, by omega⟩
    · obtain rfl : i = vo := by omega
      simp [z24, z25, hdf]
      obtain ⟨gg, hfr⟩ := (ho.down (show st.length ≤ s0.length by omega)).frz (ints_cells _)
      rw [← hS0] at hkp
      exact ⟨_, hfr, hkp.low, by rw [hkp.take]; exact hK gg⟩
  generalize F_scores.code.r.r.r = c3 at e3 tail
  generalize Fin F_scores.res _ _ = QQ at tail ⊢
  rw [e3]
  have hMB : Blk.row 27 11 [V.agg [I m.kind, I m.vocab, I m.width, I m.top, .lst (fl 0) (ints m.cuts), .lst (fl 1) (ints m.embed), .lst (fl 2) (ints m.place), .lst (fl 3) (ints m.mix), .lst (fl 4) (ints m.out), .lst (fl 5) (ints m.soft), .lst (fl 6) (ints m.odds)]] = mdl m.kind m.vocab m.width m.top (fun i => .lst (fl i) (ints (mls m i))) := rfl
  have hMs := hMb
  simp only [mdl] at hMs
  rcases (show m.kind = 1 ∨ m.kind = 2 ∨ m.kind = 3 by omega) with hk | hk | hk
  · have hL : lenW m w = 3 * w := if_pos hk
    have hH : hidM m w q es = attM m w es := if_pos hk
    rw [hL] at hE
    have hkb : (m.kind == 1) = true := by rw [hk]; rfl
    simp [F_scores, MC.l, MC.r, encM]
    rw [hMB, hS0]
    simp [hkb]
    refine attend_v fl e hE fun g => ?_
    exact tail _ g (by simp) (by simp [hH]) (by simp)
  · have hL : lenW m w = w := if_neg (by omega)
    have hH : hidM m w q es = celM m w es es.length := by unfold hidM; rw [if_neg (by omega), if_pos hk]
    rw [hL] at hE
    have hkb : (m.kind == 1) = false := by rw [hk]; rfl
    have hkb2 : (m.kind == 2) = true := by rw [hk]; rfl
    simp [F_scores, MC.l, MC.r, encM]
    rw [hMB, hS0]
    simp [hkb, hkb2]
    refine cell_v fl e hk hE fun g => ?_
    exact tail _ g (by simp) (by simp [hH]) (by simp)
  · have hL : lenW m w = w := if_neg (by omega)
    have hH : hidM m w q es = conM m w q es := by unfold hidM; rw [if_neg (by omega), if_neg (by omega)]
    rw [hL] at hE
    have hkb : (m.kind == 1) = false := by rw [hk]; rfl
    have hkb2 : (m.kind == 2) = false := by rw [hk]; rfl
    simp [F_scores, MC.l, MC.r, encM]
    rw [hMB, hS0]
    simp [hkb, hkb2]
    refine conv_v fl e hE fun g => ?_
    exact tail _ g (by simp) (by simp [hH]) (by simp)
end
end Go.Proofs.YtadkhechobeccaaGreatDoor.Vm
namespace Go.Proofs.YtadkhechobeccaaGreatDoor.Vm
open Go.RowKit
section
variable {T : Tbl} {M : Nat → Bool} {st : St} {K : V → St → Prop} {Kp : List PanicEntry → St → Prop}
theorem rWithin_v (n lo hi : Int) (hK : K (I (clampI n lo hi)) st) : CallV Tryz.prog T M 82 [I n, I lo, I hi] st K Kp := by
  refine fun_ok hmix c_rWithin (le_of rfl) ?_
  simp [F_rWithin]
  exact hK
set_option maxRecDepth 10000 in
theorem attended_v {m : LModel} {w r vo q : Nat} {fl : Nat → Bool} {x : V} (hx : encM fl m = x) (e : ScS m w r vo q) {vs : List V} {es : List (List Int)} {f : Bool} (hE : EsV vs es (3 * w)) (hK : ∀ g, K (.lst g (ints (attM m w es))) st) : CallV Tryz.prog T M 81 [x, .lst f vs] st K Kp := by
  subst hx
  obtain ⟨⟨hw, ⟨w1, w2⟩, hv, ⟨v1, v2⟩, emb, out, pla, ⟨r1, r2⟩, ⟨k1, k2⟩, mix, ⟨cl, hc⟩, re, rp⟩, mq, ⟨q1, q2⟩, -, qk, sof⟩ := e
  obtain ⟨n1, n2⟩ := hE.n1
  have hvl := hE.len
  obtain ⟨c0, c1, c2, c3, hc0⟩ : ∃ c0 c1 c2 c3, m.cuts = [c0, c1, c2, c3] := by
    match m.cuts, cl with
    | [c0, c1, c2, c3], _ => exact ⟨c0, c1, c2, c3, rfl⟩
  have hg1 : gI m.cuts 1 = c1 := by rw [hc0]; rfl
  have hg2 : gI m.cuts 2 = c2 := by rw [hc0]; rfl
  have hcu : (ints (mls m 0))[1]? = some (I c1) := by show (ints m.cuts)[1]? = _; rw [hc0]; rfl
  have hcu2 : (ints (mls m 0))[2]? = some (I c2) := by show (ints m.cuts)[2]? = _; rw [hc0]; rfl
  have hc1 := hc c1 (by rw [hc0]; simp)
  have hc2 := hc c2 (by rw [hc0]; simp)
  obtain ⟨nl, hnl⟩ : ∃ x, x = es.length - 1 := ⟨_, rfl⟩
  have hn1 : IntKind.i64.wrap ((es.length : Int) - 1) = (nl : Int) := by rw [w64 (by omega) (by omega)]; omega
  have hw2 : IntKind.i64.wrap (2 * (w : Int)) = ((2 * w : Nat) : Int) := by rw [w64 (by omega) (by omega)]; push_cast; rfl
  obtain ⟨gl, hgl⟩ := hE.at_ (show nl < es.length by omega)
  have hll := hE.lenE (show nl < es.length by omega)
  obtain ⟨w2_, hw2_⟩ : ∃ x, x = 2 * w := ⟨_, rfl⟩
  rw [← hw2_] at hw2
  refine CallV.give (fun_ok hmix c_attended (le_of rfl) ?_)
  have hMB : Blk.row 27 11 [V.agg [I m.kind, I m.vocab, I (w : Int), I m.top, .lst (fl 0) (ints m.cuts), .lst (fl 1) (ints m.embed), .lst (fl 2) (ints m.place), .lst (fl 3) (ints m.mix), .lst (fl 4) (ints m.out), .lst (fl 5) (ints m.soft), .lst (fl 6) (ints m.odds)]] = mdl m.kind m.vocab w m.top (fun i => .lst (fl i) (ints (mls m i))) := rfl
  have e5 : F_attended.code = .seq F_attended.code.l (.seq F_attended.code.r.l (.seq F_attended.code.r.r.l (.seq F_attended.code.r.r.r.l (.seq F_attended.code.r.r.r.r.l F_attended.code.r.r.r.r.r)))) := rfl
  generalize hS0 : st ++ [mdl m.kind m.vocab w m.top (fun i => .lst (fl i) (ints (mls m i)))] = s0
  have hMb : s0[st.length]? = some (mdl m.kind m.vocab w m.top (fun i => .lst (fl i) (ints (mls m i)))) := by rw [← hS0]; simp
  have hs0l : s0.length = st.length + 1 := by rw [← hS0]; simp
  have tail5 : ∀ (fr : Fr) (s : St), Keep0 s0 s → OutS s0.length 3 1 s (fr.g 7) (ints (mapR es.length (sAt m w es))) → fr.df = [] → fr.g 1 = .lst f vs → fr.g 2 = .ptr st.length 1 0 0 → fr.g 5 = I w →
      wpM Tryz.prog T (liftM (upM st.length M)) F_attended.code.r.r.r.r.r (Fin F_attended.res (fun v st' => ∃ v', Frz st.length st' v v' ∧ LowSt st st' ∧ K v' (st'.take st.length)) (fun c st' => LowSt st st' ∧ Kp c (st'.take st.length))) fr s := by
    intro fr s hkp ho hdf z1 z2 z5
    have hrs : Rd s (fr.g 7) (mapR es.length (sAt m w es)) := Rd.of_out ho
    have hlo := ho.lt
    have hMs := hkp.at_ hMb
    have hsl := hkp.len
    simp [F_attended, MC.r]
    refine max_v hrs (by simp; omega) (by simp; omega) ?_
    generalize hmx : mxK (mapR es.length (sAt m w es)) ((mapR es.length (sAt m w es)).length - 1) = mx
    rw [mapR_len] at hmx
    simp [z5, z1, hvl]
    refine ⟨by omega, ?_⟩
    rw [rep_ints]
    generalize hv7 : fr.g 7 = v7 at *
    have hrs1 : ∀ e, Rd (s ++ e) v7 (mapR es.length (sAt m w es)) := fun e => hrs.more e
    refine wp_mloop (fun fr s' => ∃ i : Nat, i ≤ es.length ∧ s' = s ++ [.row 3 1 (ints (mapR w fun o => accA m w es o i))] ∧ fr.df = [] ∧ fr.g 2 = .ptr st.length 1 0 0 ∧ fr.g 5 = I w ∧ fr.g 7 = v7 ∧ fr.g 10 = I mx ∧ fr.g 11 = .own s.length w 0 w ∧ fr.g 52 = .lst f vs ∧ fr.g 53 = I es.length ∧ fr.g 54 = I i) (fun fr _ => es.length - nat (fr.g 54))
      ⟨0, by omega, by simp [accA], by simp [hdf], by simp [z2], by simp [z5], by simp [hv7], by simp, by simp, by simp, by simp, by simp⟩ ?_
    clear hdf z1 z2 z5 hv7
    rintro fr s' ⟨i, hi, rfl, hdf, z2, z5, z7, z10, z11, z52, z53, z54⟩
    by_cases hlt : i < es.length
    · obtain ⟨g, hg⟩ := hE.at_ hlt
      have hel := hE.lenE hlt
      have hMb' := get_more hMs [.row 3 1 (ints (mapR w fun o => accA m w es o i))]
      simp only [mdl] at hMb'
      obtain ⟨p, p1, p2⟩ := (hrs1 [.row 3 1 (ints (mapR w fun o => accA m w es o i))]).el (mapR_get (g := sAt m w es) hlt)
      simp [z52, z53, z54, hlt]
      simp [hg]
      refine wp_mflat [] [] ?_
      simp [z2, z5, z7, z10, hMb', p1, p2]
      refine wrapped_v _ ?_
      rw [w32_w64]
      have hsl5 : (mls m 5).length = m.soft.length := rfl
      have hwr : IntKind.i64.wrap ((m.soft.length : Int) - 1) = (m.soft.length : Int) - 1 := w64 (by omega) (by omega)
      have hcb : 0 ≤ clampI (w32 (mx - sAt m w es i)) 0 ((m.soft.length : Int) - 1) ∧ clampI (w32 (mx - sAt m w es i)) 0 ((m.soft.length : Int) - 1) ≤ (m.soft.length : Int) - 1 := by unfold clampI; omega
      have hwa : wAt m w es i = gI m.soft (clampI (w32 (mx - sAt m w es i)) 0 ((m.soft.length : Int) - 1)).toNat := by rw [← hmx]; rfl
      have hso : (ints (mls m 5))[(clampI (w32 (mx - sAt m w es i)) 0 ((m.soft.length : Int) - 1)).toNat]? = some (I (wAt m w es i)) := by
        rw [hwa]
        exact ints_get (l := m.soft) (by rw [gI, List.getElem?_eq_getElem (by omega)]; rfl)
      simp only [hsl5, hwr]
      refine rWithin_v _ _ _ ?_
      simp [hso, hcb.1]
      refine wp_mloop (fun fr s' => ∃ (o : Nat) (l : List Int), o ≤ w ∧ l.length = w ∧ (∀ j, j < o → l[j]? = some (accA m w es j (i + 1))) ∧ (∀ j, o ≤ j → j < w → l[j]? = some (accA m w es j i)) ∧ s' = s ++ [.row 3 1 (ints l)] ∧ fr.df = [] ∧ fr.g 2 = .ptr st.length 1 0 0 ∧ fr.g 5 = I w ∧ fr.g 7 = v7 ∧ fr.g 10 = I mx ∧ fr.g 11 = .own s.length w 0 w ∧ fr.g 14 = I (wAt m w es i) ∧ fr.g 52 = .lst f vs ∧ fr.g 53 = I es.length ∧ fr.g 54 = I i ∧ fr.g 13 = .lst g (ints (gE es i)) ∧ fr.g 75 = I w ∧ fr.g 76 = I o) (fun fr _ => w - nat (fr.g 76))
        ⟨0, mapR w fun o => accA m w es o i, by omega, by simp, fun j hj => absurd hj (by omega), fun j _ hj => mapR_get hj, rfl, by simp [hdf], by simp [z2], by simp [z5], by simp [z7], by simp [z10], by simp [z11], by simp, by simp [z52], by simp [z53], by simp [z54], by simp, by simp, by simp⟩ ?_
      clear hdf z2 z5 z7 z10 z11 z52 z53 z54 hMb' p1 p2
      rintro fr s' ⟨o, l, ho1, hl, hj1, hj2, rfl, hdf, z2, z5, z7, z10, z11, z14, z52, z53, z54, z13, z75, z76⟩
      by_cases ho2 : o < w
      · have hx := ints_get (hj2 o (Nat.le_refl _) ho2)
        have hy := ints_get (l := gE es i) (k := w + o) (x := gI (gE es i) (w + o)) (by rw [gI, List.getElem?_eq_getElem (by omega)]; rfl)
        have hyn : ((w : Int) + (o : Int)).toNat = w + o := by omega
        simp [z75, z76, ho2]
        refine wp_mtail [] [] ?_
        simp [z11, z14, z5, z13, z76, hy, hyn, w64 (n := (w : Int) + (o : Int)) (by omega) (by omega), show (0 : Int) ≤ (w : Int) + (o : Int) by omega, hl, ho2, ints_get' (hj2 o (Nat.le_refl _) ho2)]
        refine wrapped_v _ ?_
        rw [w32_w64]
        simp
        refine wrapped_v _ ?_
        rw [w32_w64]
        have hac : w32 (accA m w es o i + w32 (wAt m w es i * gI (gE es i) (w + o))) = accA m w es o (i + 1) := rfl
        have hup : upM st.length M s.length = true := by simp [upM]; omega
        have hw1 : IntKind.i64.wrap ((o : Int) + 1) = ((o + 1 : Nat) : Int) := by rw [w64 (n := (o : Int) + 1) (by omega) (by omega)]; push_cast; rfl
        simp [hac, hl, hx, hup, ints_set, hw1, -Int.natCast_add]
        refine ⟨⟨o + 1, by omega, l.set o (accA m w es o (i + 1)), by simp [hl], fun j hj => ?_, fun j hj hj3 => ?_, rfl, hdf, z2, z7, z10, z52, z53, z54, z75, rfl⟩, by omega⟩
        · by_cases hjk : j = o
          · subst hjk; rw [List.getElem?_set_self (by omega)]
          · rw [List.getElem?_set_ne (Ne.symm hjk)]; exact hj1 j (by omega)
        · rw [List.getElem?_set_ne (by omega)]; exact hj2 j (by omega) hj3
      · obtain rfl : o = w := by omega
        have hX : l = mapR o fun x => accA m o es x (i + 1) := mapR_eq hl hj1
        have hw1 : IntKind.i64.wrap ((i : Int) + 1) = ((i + 1 : Nat) : Int) := by rw [w64 (n := (i : Int) + 1) (by omega) (by omega)]; push_cast; rfl
        subst hX
        simp [z75, z76]
        simp [z54, hw1, -Int.natCast_add]
        exact ⟨⟨i + 1, by omega, rfl, hdf, z2, z5, z7, z10, z11, z52, z53, rfl⟩, by omega⟩
    · obtain rfl : i = es.length := by omega
      simp [z53, z54, z11]
      let G := fun o => shM (accA m w es o es.length) (gI m.cuts 2)
      have hMb' : ∀ b, (s ++ [b])[st.length]? = some (mdl m.kind m.vocab w m.top (fun i => .lst (fl i) (ints (mls m i)))) := fun b => get_more hMs _
      simp only [mdl] at hMb'
      refine wp_mloop (fun fr s' => ∃ (o : Nat) (l : List Int), o ≤ w ∧ l.length = w ∧ (∀ j, j < o → l[j]? = some (G j)) ∧ (∀ j, o ≤ j → j < w → l[j]? = some (accA m w es j es.length)) ∧ s' = s ++ [.row 3 1 (ints l)] ∧ fr.df = [] ∧ fr.g 2 = .ptr st.length 1 0 0 ∧ fr.g 11 = .own s.length w 0 w ∧ fr.g 100 = I w ∧ fr.g 101 = I o) (fun fr _ => w - nat (fr.g 101))
        ⟨0, mapR w fun o => accA m w es o es.length, by omega, by simp, fun j hj => absurd hj (by omega), fun j _ hj => mapR_get hj, rfl, by simp [hdf], by simp [z2], by simp [z11], by simp, by simp⟩ ?_
      clear hdf z2 z5 z7 z10 z11 z52 z53 z54
      rintro fr s' ⟨o, l, ho1, hl, hj1, hj2, rfl, hdf, z2, z11, z100, z101⟩
      by_cases ho2 : o < w
      · have hx := ints_get (hj2 o (Nat.le_refl _) ho2)
        simp [z100, z101, ho2]
        refine wp_mtail [] [] ?_
        simp [z2, z11, z101, hMb', hcu2, hl, ho2, ints_get' (hj2 o (Nat.le_refl _) ho2)]
        have hrg : -2147483648 ≤ accA m w es o es.length ∧ accA m w es o es.length ≤ 2147483647 := by
          cases hn : es.length with
          | zero => omega
          | succ n => exact w32_rng _
        refine refShift_v _ _ hc2 (by omega) ?_
        have hG : shM (accA m w es o es.length) c2 = G o := by show _ = shM _ (gI m.cuts 2); rw [hg2]
        have hup : upM st.length M s.length = true := by simp [upM]; omega
        have hw1 : IntKind.i64.wrap ((o : Int) + 1) = ((o + 1 : Nat) : Int) := by rw [w64 (n := (o : Int) + 1) (by omega) (by omega)]; push_cast; rfl
        simp [hG, hl, hx, hup, ints_set, hw1, -Int.natCast_add]
        refine ⟨⟨o + 1, by omega, l.set o (G o), by simp [hl], fun j hj => ?_, fun j hj hj3 => ?_, rfl, hdf, z100, rfl⟩, by omega⟩
        · by_cases hjk : j = o
          · subst hjk; rw [List.getElem?_set_self (by omega)]
          · rw [List.getElem?_set_ne (Ne.symm hjk)]; exact hj1 j (by omega)
        · rw [List.getElem?_set_ne (by omega)]; exact hj2 j (by omega) hj3
      · obtain rfl : o = w := by omega
        have hX : l = attM m o es := mapR_eq hl hj1
        have hal : (attM m o es).length = o := mapR_len _ _
        subst hX
        simp [z100, z101, hdf, z11]
        have hfr := Frz.row (n := st.length) s.length o 0 o 3 1 (ints (attM m o es)) (by omega) (st := s ++ [.row 3 1 (ints (attM m o es))]) (by simp) (by simp [hal]) (ints_cells _)
        have hkk := hkp.more [.row 3 1 (ints (attM m o es))]
        rw [← hS0] at hkk
        refine ⟨_, hfr, hkk.low, ?_⟩
        rw [hkk.take]
        simp
        rw [List.take_of_length_le (by simp [hal])]
        exact hK false
  generalize F_attended.code.r.r.r.r.r = c5 at e5 tail5
  generalize Fin F_attended.res _ _ = QQ at tail5 ⊢
  rw [e5]
  simp [F_attended, MC.l, MC.r, encM, hw, hvl, hn1, hgl, hw2, win_sub, hll, show w2_ ≤ 3 * w by omega]
  rw [hMB, hS0]
  refine ⟨ints_one _, ?_⟩
  have hlq : ((gE es nl).drop w2_).take (3 * w - w2_) = (gE es nl).drop w2_ := List.take_of_length_le (by simp; omega)
  rw [hlq]
  refine wp_mloop (fun fr s => ∃ i : Nat, i ≤ es.length ∧ Keep0 s0 s ∧ OutS s0.length 3 1 s (fr.g 7) (ints (mapR i (sAt m w es))) ∧ fr.df = [] ∧ fr.g 1 = .lst f vs ∧ fr.g 2 = .ptr st.length 1 0 0 ∧ fr.g 5 = I w ∧ (∃ b, fr.g 6 = .lst b (ints ((gE es nl).drop w2_))) ∧ fr.g 28 = .lst f vs ∧ fr.g 29 = I es.length ∧ fr.g 30 = I i) (fun fr _ => es.length - nat (fr.g 30))
    ⟨0, by omega, Keep0.refl _, by simpa [mapR, ints] using OutS.nil _ _ _ _, by simp, by simp, by simp, by simp, ⟨_, by simp; rfl⟩, by simp, by simp, by simp⟩ ?_
  rintro fr s ⟨i, hi, hkp, ho, hdf, z1, z2, z5, ⟨b6, z6⟩, z28, z29, z30⟩
  by_cases hlt : i < es.length
  · obtain ⟨g, hg⟩ := hE.at_ hlt
    have hel := hE.lenE hlt
    have hMb' := hkp.at_ hMb
    simp only [mdl] at hMb'
    have hrd := fun j => rd_own ho (b := st.length) (by omega) j
    simp [z28, z29, z30, hlt]
    simp [hg]
    refine wp_mflat (ownL (fr.g 7)) [] ?_
    simp [z2, z5, z6, hMb', hcu, hrd, hel, show w ≤ 3 * w by omega]
    rw [ints_take]
    refine ⟨ints_one _, ?_⟩
    have hlt2 : ((gE es i).take w).length = w := by simp; omega
    have hlq2 : ((gE es nl).drop w2_).length = w := by simp; omega
    refine refRow_r ((gE es i).take w) ((gE es nl).drop w2_) 0 (Rd.lst _ _ _) (Rd.lst _ _ _) (by omega) (by omega) (by rw [hlq2, hlt2]; omega) ?_
    have hd : mvM ((gE es i).take w) ((gE es nl).drop w2_).length ((gE es nl).drop w2_) (0 : Int).toNat = dotK (gE es i) ((gE es (es.length - 1)).drop (2 * w)) w := by
      rw [hlq2, hnl, hw2_]
      unfold mvM
      refine dotK_congr fun j hj => ?_
      rw [show (0 : Int).toNat * w = 0 by simp, List.drop_zero]
      exact List.getElem?_take_of_lt hj
    rw [hd]
    refine refShift_v _ _ hc1 (by have := dotK_rng (gE es i) ((gE es (es.length - 1)).drop (2 * w)) w; omega) ?_
    simp
    refine app_one ho hkp (own_up ho (by omega) _ _) (by simp; omega) fun v' s' ho' hk' => ?_
    have hw1 : IntKind.i64.wrap ((i : Int) + 1) = ((i + 1 : Nat) : Int) := by rw [w64 (n := (i : Int) + 1) (by omega) (by omega)]; push_cast; rfl
    have hsa : sAt m w es i = shM (dotK (gE es i) ((gE es (es.length - 1)).drop (2 * w)) w) c1 := by rw [← hg1]; rfl
    simp [z30, hw1, -Int.natCast_add]
    exact ⟨⟨i + 1, by omega, hk', by rw [mapR_succ, hsa]; exact ho', hdf, z1, z28, z29, rfl⟩, by omega⟩
  · obtain rfl : i = es.length := by omega
    simp [z29, z30]
    exact tail5 _ s hkp (by simpa using ho) (by simp [hdf]) (by simp [z1]) (by simp [z2]) (by simp [z5])
end
end Go.Proofs.YtadkhechobeccaaGreatDoor.Vm
namespace Go.Proofs.YtadkhechobeccaaGreatDoor.Vm
open Go.RowKit
section
variable {T : Tbl} {M : Nat → Bool} {st : St} {K : V → St → Prop} {Kp : List PanicEntry → St → Prop}
theorem hidden1_v {m : LModel} {w q i mb wb : Nat} {fl : Nat → Bool} (hw2 : w ≤ 5) (hq : q ≤ 4) (hi : i < q) (mq : m.mix.length = q * (w * w)) (hm : st[mb]? = some (mdl m.kind m.vocab w m.top (fun i => .lst (fl i) (ints (mls m i))))) (hwb : st[wb]? = some (.row 3 1 [I w])) (hK : ∀ g, K (.lst g (ints ((m.mix.drop (i * (w * w))).take (w * w)))) st) : CallV Tryz.prog T M 80 [I i, .ptr mb 1 0 0, .ptr wb 1 0 0] st K Kp := by
  have q25 : w * w ≤ 5 * 5 := Nat.mul_le_mul hw2 hw2
  have q1 : i * (w * w) + w * w ≤ q * (w * w) := by rw [← Nat.succ_mul]; exact Nat.mul_le_mul_right _ hi
  have q0 : q * (w * w) ≤ 4 * 25 := Nat.mul_le_mul hq q25
  have q5 : i * w ≤ 4 * 5 := Nat.mul_le_mul (by omega) hw2
  have q6 : (i + 1) * w ≤ 4 * 5 := Nat.mul_le_mul (by omega) hw2
  have q2 : (i : Int) * (w : Int) * (w : Int) = ((i * (w * w) : Nat) : Int) := by push_cast; rw [Int.mul_assoc]
  have q3 : ((i : Int) + 1) * (w : Int) * (w : Int) = (((i + 1) * (w * w) : Nat) : Int) := by push_cast; rw [Int.mul_assoc]
  have q7 : (i : Int) * (w : Int) = ((i * w : Nat) : Int) := by push_cast; rfl
  have q8 : ((i : Int) + 1) * (w : Int) = (((i + 1) * w : Nat) : Int) := by push_cast; rfl
  have q4 : (i + 1) * (w * w) = i * (w * w) + w * w := Nat.succ_mul _ _
  obtain ⟨A, hA⟩ : ∃ A, A = i * (w * w) := ⟨_, rfl⟩
  obtain ⟨B, hB⟩ : ∃ B, B = (i + 1) * (w * w) := ⟨_, rfl⟩
  have u1 : IntKind.i64.wrap (IntKind.i64.wrap ((i : Int) * w) * w) = (A : Int) := by rw [w64 (n := (i : Int) * w) (by omega) (by omega), w64 (by omega) (by omega), q2, hA]
  have u2 : IntKind.i64.wrap (IntKind.i64.wrap (IntKind.i64.wrap ((i : Int) + 1) * w) * w) = (B : Int) := by rw [w64 (n := (i : Int) + 1) (by omega) (by omega), w64 (n := ((i : Int) + 1) * w) (by omega) (by omega), w64 (by omega) (by omega), q3, hB]
  have hml : (mls m 3).length = q * (w * w) := mq
  have hBA : B - A = w * w := by omega
  refine fun_ok hmix c_hidden1 (le_of rfl) ?_
  simp only [mdl] at hm
  simp [F_hidden1, hm, hwb, u1, u2, win_sub, show A ≤ B by omega, hBA]
  refine ⟨⟨by omega, ints_one _⟩, ?_⟩
  rw [hA]
  exact hK _
theorem matrices_m {m : LModel} {w r vo q : Nat} {fl : Nat → Bool} {x : V} (hx : encM fl m = x) (e : ScS m w r vo q) (hk : m.kind = 3) (hK : K (I (q : Int)) st) : CallV Tryz.prog T M 52 [x] st K Kp := by
  subst hx
  obtain ⟨⟨hw, ⟨w1, w2⟩, hv, ⟨v1, v2⟩, emb, out, pla, ⟨r1, r2⟩, ⟨k1, k2⟩, mix, ⟨cl, hc⟩, re, rp⟩, mq, ⟨q1, q2⟩, qk1, qk, sof⟩ := e
  obtain ⟨ww, hww⟩ : ∃ ww, ww = w * w := ⟨_, rfl⟩
  have h25 : w * w ≤ 5 * 5 := Nat.mul_le_mul w2 w2
  have h1w : 1 * 1 ≤ w * w := Nat.mul_le_mul w1 w1
  have hi64 : IntKind.i64.wrap ((w : Int) * (w : Int)) = (ww : Int) := by
    have e : (w : Int) * (w : Int) = ((w * w : Nat) : Int) := by push_cast; rfl
    rw [e, hww, w64 (by omega) (by omega)]
  have hmq : m.mix.length = q * ww := by rw [hww]; exact mq
  have hd : (m.mix.length : Int).tdiv ww = q := by
    rw [hmq, Int.tdiv_eq_ediv_of_nonneg (by omega)]
    push_cast
    exact Int.mul_ediv_cancel _ (by omega)
  have hr : (m.mix.length : Int).tmod ww = 0 := by
    rw [hmq, Int.tmod_eq_emod_of_nonneg (by omega)]
    push_cast
    exact Int.mul_emod_left _ _
  refine CallV.give (fun_ok hmix c_matrices (le_of rfl) ?_)
  simp [F_matrices, encM, hw, hi64, hd, hr, hk, w64 (n := (q : Int)) (by omega) (by omega), show ww ≠ 0 by omega, show (1 : Int) ≤ (q : Int) by omega, show (q : Int) ≤ 4 by omega]
  exact ⟨_, .same _ rfl, Keep0.low (Keep0.refl _), hK⟩
set_option maxRecDepth 10000 in
theorem hidden_v {m : LModel} {w r vo q : Nat} (fl : Nat → Bool) (e : ScS m w r vo q) {vs : List V} {es : List (List Int)} {f : Bool} (hE : EsV vs es (lenW m w)) (hK : ∀ g, K (.lst g (ints (hidM m w q es))) st) : CallV Tryz.prog T M 46 [encM fl m, .lst f vs] st K Kp := by
  have e' := e
  obtain ⟨⟨hw, ⟨w1, w2⟩, hv, ⟨v1, v2⟩, emb, out, pla, ⟨r1, r2⟩, ⟨k1, k2⟩, mix, ⟨cl, hc⟩, re, rp⟩, mq, ⟨q1, q2⟩, qk1, qk, sof⟩ := e'
  obtain ⟨n1, n2⟩ := hE.n1
  have hvl := hE.len
  refine CallV.give (fun_ok hmix c_hidden (le_of rfl) ?_)
  have hMB : Blk.row 27 11 [V.agg [I m.kind, I m.vocab, I (w : Int), I m.top, .lst (fl 0) (ints m.cuts), .lst (fl 1) (ints m.embed), .lst (fl 2) (ints m.place), .lst (fl 3) (ints m.mix), .lst (fl 4) (ints m.out), .lst (fl 5) (ints m.soft), .lst (fl 6) (ints m.odds)]] = mdl m.kind m.vocab w m.top (fun i => .lst (fl i) (ints (mls m i))) := rfl
  generalize hS0 : st ++ [mdl m.kind m.vocab w m.top (fun i => .lst (fl i) (ints (mls m i))), .row 3 1 [I w]] = s0
  have hMb : s0[st.length]? = some (mdl m.kind m.vocab w m.top (fun i => .lst (fl i) (ints (mls m i)))) := by rw [← hS0]; simp
  have hWb : s0[st.length + 1]? = some (.row 3 1 [I w]) := by rw [← hS0]; simp
  have hs0l : s0.length = st.length + 2 := by rw [← hS0]; simp
  have hS1 : ∀ b, st ++ [mdl m.kind m.vocab w m.top (fun i => .lst (fl i) (ints (mls m i))), .row 3 1 [I w], b] = s0 ++ [b] := fun b => by rw [← hS0]; simp
  rcases (show m.kind = 1 ∨ m.kind = 2 ∨ m.kind = 3 by omega) with hk | hk | hk
  · have hL : lenW m w = 3 * w := if_pos hk
    have hH : hidM m w q es = attM m w es := if_pos hk
    rw [hL] at hE
    have hkb : (m.kind == 1) = true := by rw [hk]; rfl
    simp [F_hidden, encM, hw, hkb]
    refine ⟨by omega, ?_⟩
    refine attended_v (fl := fl) (m := m) (by rw [encM, hw]) e hE fun g => ?_
    have := hK g
    rw [hH] at this
    refine ⟨_, .same _ rfl, Keep0.low (Keep0.refl _), ?_⟩
    simpa using this
  · have hL : lenW m w = w := if_neg (by omega)
    have hH : hidM m w q es = celM m w es es.length := by unfold hidM; rw [if_neg (by omega), if_pos hk]
    rw [hL] at hE
    have hkb : (m.kind == 1) = false := by rw [hk]; rfl
    have hkb2 : (m.kind == 2) = true := by rw [hk]; rfl
    obtain rfl := qk hk
    obtain ⟨c0, c1, c2, c3, hc0⟩ : ∃ c0 c1 c2 c3, m.cuts = [c0, c1, c2, c3] := by
      match m.cuts, cl with
      | [c0, c1, c2, c3], _ => exact ⟨c0, c1, c2, c3, rfl⟩
    have hg1 : gI m.cuts 1 = c1 := by rw [hc0]; rfl
    have hcu : (ints (mls m 0))[1]? = some (I c1) := by show (ints m.cuts)[1]? = _; rw [hc0]; rfl
    have hc1 := hc c1 (by rw [hc0]; simp)
    simp [F_hidden, encM, hw, hkb, hkb2]
    refine ⟨by omega, ?_⟩
    rw [rep_ints, hMB, hS1]
    refine wp_mloop (fun fr s => ∃ i : Nat, i ≤ es.length ∧ Keep0 s0 s ∧ OutS s0.length 3 1 s (fr.g 7) (ints (celM m w es i)) ∧ fr.df = [] ∧ fr.g 2 = .ptr st.length 1 0 0 ∧ fr.g 5 = .ptr (st.length + 1) 1 0 0 ∧ fr.g 6 = .fn 80 [.ptr st.length 1 0 0, .ptr (st.length + 1) 1 0 0] ∧ fr.g 31 = .lst f vs ∧ fr.g 32 = I es.length ∧ fr.g 33 = I i) (fun fr _ => es.length - nat (fr.g 33))
      ⟨0, by omega, (Keep0.refl _).more _, Or.inr ⟨s0.length, Nat.le_refl _, by simp [celM], by simp [celM_len, hs0l]⟩, by simp, by simp, by simp, by simp, by simp, by simp [hvl], by simp⟩ ?_
    rintro fr s ⟨i, hi, hkp, ho, hdf, z2, z5, z6, z31, z32, z33⟩
    by_cases hlt : i < es.length
    · obtain ⟨g, hg⟩ := hE.at_ hlt
      have hel := hE.lenE hlt
      have hWs := fun e => get_more (hkp.at_ hWb) e
      have hMs := fun e => get_more (hkp.at_ hMb) e
      have hWs0 := hkp.at_ hWb
      have hMs' := hMs
      simp only [mdl] at hMs'
      simp [z31, z32, z33, hlt]
      simp [hg, z5, hWs, hWs0]
      refine ⟨by omega, ?_⟩
      rw [rep_ints]
      have hre : Rd s (fr.g 7) (celM m w es i) := Rd.of_out ho
      have hH7 := celM_len m w es i
      generalize hv7 : fr.g 7 = v7 at *
      let G := fun o => clampI (shM (w32 (mvM m.mix w (celM m w es i) o + mvM m.mix w (gE es i) (w + o))) (gI m.cuts 1)) (-1000) 1000
      refine wp_mloop (fun fr s' => ∃ (o : Nat) (l : List Int), o ≤ w ∧ l.length = w ∧ (∀ j, j < o → l[j]? = some (G j)) ∧ s' = s ++ [.row 3 1 (ints l)] ∧ fr.df = [] ∧ fr.g 2 = .ptr st.length 1 0 0 ∧ fr.g 5 = .ptr (st.length + 1) 1 0 0 ∧ fr.g 6 = .fn 80 [.ptr st.length 1 0 0, .ptr (st.length + 1) 1 0 0] ∧ fr.g 7 = v7 ∧ fr.g 9 = .lst g (ints (gE es i)) ∧ fr.g 10 = .own s.length w 0 w ∧ fr.g 31 = .lst f vs ∧ fr.g 32 = I es.length ∧ fr.g 33 = I i ∧ fr.g 39 = I w ∧ fr.g 40 = I o) (fun fr _ => w - nat (fr.g 40))
        ⟨0, mapR w fun _ => 0, by omega, by simp, fun j hj => absurd hj (by omega), rfl, by simp [hdf], by simp [z2], by simp [z5], by simp [z6], by simp [hv7], by simp, by simp, by simp [z31], by simp [z32], by simp [z33], by simp, by simp⟩ ?_
      clear hv7 hdf z2 z5 z6 z31 z32 z33
      rintro fr s' ⟨o, l, ho1, hl, hj, rfl, hdf, z2, z5, z6, z7, z9, z10, z31, z32, z33, z39, z40⟩
      by_cases ho2 : o < w
      · have hx := ints_get (List.getElem?_eq_getElem (show o < l.length by omega))
        simp [z39, z40, ho2]
        refine wp_mtail [] [] ?_
        simp [z2, z5, z6, z7, z9, z10, z40, hMs', hcu, hl, ho2]
        have hdl : ∀ k, k < 2 → (o : Int) * w + w ≤ ((m.mix.drop (k * (w * w))).take (w * w)).length := fun k hk => by
          rw [len_sub mq hk]
          have h1 : o * w + w ≤ w * w := by rw [← Nat.succ_mul]; exact Nat.mul_le_mul_right w ho2
          have h2 : ((o * w : Nat) : Int) = (o : Int) * w := by push_cast; rfl
          omega
        refine ⟨_, _, ⟨rfl, rfl⟩, ?_⟩
        refine hidden1_v (i := 0) (fl := fl) w2 q2 (by omega) mq (hMs _) (hWs _) fun g3 => ?_
        refine refRow_r _ (celM m w es i) o (Rd.lst _ _ _) (hre.more _) (by omega) (by omega) (by rw [hH7]; exact hdl 0 (by omega)) ?_
        refine ⟨_, _, ⟨rfl, rfl⟩, ?_⟩
        refine hidden1_v (i := 1) (fl := fl) w2 q2 (by omega) mq (hMs _) (hWs _) fun g4 => ?_
        refine refRow_r _ (gE es i) o (Rd.lst _ _ _) (Rd.lst _ _ _) (by omega) (by omega) (by rw [hel]; exact hdl 1 (by omega)) ?_
        have hm0 : mvM ((m.mix.drop (0 * (w * w))).take (w * w)) (celM m w es i).length (celM m w es i) (o : Int).toNat = mvM m.mix w (celM m w es i) (0 * w + o) := by
          have := mv_eq2 (mix := m.mix) (i := 0) (A := 0 * (w * w)) (B := 0 * (w * w) + w * w) (X := celM m w es i) rfl rfl ho2 hH7
          rwa [Nat.add_sub_cancel_left] at this
        have hm1 : mvM ((m.mix.drop (1 * (w * w))).take (w * w)) (gE es i).length (gE es i) (o : Int).toNat = mvM m.mix w (gE es i) (1 * w + o) := by
          have := mv_eq2 (mix := m.mix) (i := 1) (A := 1 * (w * w)) (B := 1 * (w * w) + w * w) (X := gE es i) rfl rfl ho2 hel
          rwa [Nat.add_sub_cancel_left] at this
        rw [hm0, hm1]
        simp
        refine wrapped_v _ ?_
        rw [w32_w64]
        refine refShift_v _ _ hc1 (by have := w32_rng (mvM m.mix w (celM m w es i) o + mvM m.mix w (gE es i) (w + o)); omega) ?_
        refine rWithin_v _ _ _ ?_
        have hG : clampI (shM (w32 (mvM m.mix w (celM m w es i) o + mvM m.mix w (gE es i) (w + o))) c1) (-1000) 1000 = G o := by rw [← hg1]
        obtain ⟨hl2, hj2⟩ := set_upto hl ho2 hj
        have hw1 : IntKind.i64.wrap ((o : Int) + 1) = ((o + 1 : Nat) : Int) := by rw [w64 (n := (o : Int) + 1) (by omega) (by omega)]; push_cast; rfl
        have hup : upM st.length M s.length = true := by have := hkp.len; simp [upM]; omega
        simp [hG, hl, hx, ints_set, hup, hw1, -Int.natCast_add]
        exact ⟨⟨o + 1, by omega, _, hl2, hj2, rfl, hdf, z31, z32, z33, z39, rfl⟩, by omega⟩
      · obtain rfl : o = w := by omega
        have hX : l = celM m o es (i + 1) := mapR_eq hl hj
        subst hX
        simp [z39, z40, z10]
        have hw1 : IntKind.i64.wrap ((i : Int) + 1) = ((i + 1 : Nat) : Int) := by rw [w64 (n := (i : Int) + 1) (by omega) (by omega)]; push_cast; rfl
        simp [z33, hw1, -Int.natCast_add]
        exact ⟨⟨i + 1, by omega, hkp.more _, Or.inr ⟨s.length, hkp.len, by simp, by simp [celM_len]⟩, hdf, z2, z5, z6, z31, z32, rfl⟩, by omega⟩
    · obtain rfl : i = es.length := by omega
      simp [z32, z33, hdf]
      obtain ⟨gg, hfr⟩ := (ho.down (show st.length ≤ s0.length by omega)).frz (ints_cells _)
      rw [← hS0] at hkp
      exact ⟨_, hfr, hkp.low, by rw [hkp.take, ← hH]; exact hK gg⟩
  · have hL : lenW m w = w := if_neg (by omega)
    have hH : hidM m w q es = conM m w q es := by unfold hidM; rw [if_neg (by omega), if_neg (by omega)]
    rw [hL] at hE
    have hkb : (m.kind == 1) = false := by rw [hk]; rfl
    have hkb2 : (m.kind == 2) = false := by rw [hk]; rfl
    obtain ⟨c0, c1, c2, c3, hc0⟩ : ∃ c0 c1 c2 c3, m.cuts = [c0, c1, c2, c3] := by
      match m.cuts, cl with
      | [c0, c1, c2, c3], _ => exact ⟨c0, c1, c2, c3, rfl⟩
    have hg1 : gI m.cuts 1 = c1 := by rw [hc0]; rfl
    have hcu : (ints (mls m 0))[1]? = some (I c1) := by show (ints m.cuts)[1]? = _; rw [hc0]; rfl
    have hc1 := hc c1 (by rw [hc0]; simp)
    simp [F_hidden, encM, hw, hkb, hkb2]
    refine ⟨by omega, ?_⟩
    refine matrices_m (fl := fl) (m := m) (by rw [encM, hw]) e hk ?_
    simp
    rw [rep_ints, hMB, hS1]
    let G := fun o => max (shM (accC m w q es o q) (gI m.cuts 1)) 0
    have hMs : ∀ b, (s0 ++ [b])[st.length]? = some (mdl m.kind m.vocab w m.top (fun i => .lst (fl i) (ints (mls m i)))) := fun b => get_more hMb _
    have hWs : ∀ b, (s0 ++ [b])[st.length + 1]? = some (.row 3 1 [I w]) := fun b => get_more hWb _
    have hMs' := hMs
    simp only [mdl] at hMs'
    refine wp_mloop (fun fr s => ∃ (o : Nat) (l : List Int), o ≤ w ∧ l.length = w ∧ (∀ j, j < o → l[j]? = some (G j)) ∧ s = s0 ++ [.row 3 1 (ints l)] ∧ fr.df = [] ∧ fr.g 1 = .lst f vs ∧ fr.g 2 = .ptr st.length 1 0 0 ∧ fr.g 6 = .fn 80 [.ptr st.length 1 0 0, .ptr (st.length + 1) 1 0 0] ∧ fr.g 7 = .own s0.length w 0 w ∧ fr.g 12 = I q ∧ fr.g 70 = I w ∧ fr.g 71 = I o) (fun fr _ => w - nat (fr.g 71))
      ⟨0, mapR w fun _ => 0, by omega, by simp, fun j hj => absurd hj (by omega), rfl, by simp, by simp, by simp, by simp, by simp [hs0l], by simp, by simp, by simp⟩ ?_
    rintro fr s ⟨o, l, ho1, hl, hj, rfl, hdf, z1, z2, z6, z7, z12, z70, z71⟩
    by_cases ho2 : o < w
    · simp [z70, z71, ho2, z12]
      refine wp_mloop (fun fr s => ∃ j : Nat, j ≤ q ∧ s = s0 ++ [.row 3 1 (ints l)] ∧ fr.df = [] ∧ fr.g 1 = .lst f vs ∧ fr.g 2 = .ptr st.length 1 0 0 ∧ fr.g 6 = .fn 80 [.ptr st.length 1 0 0, .ptr (st.length + 1) 1 0 0] ∧ fr.g 7 = .own s0.length w 0 w ∧ fr.g 12 = I q ∧ fr.g 70 = I w ∧ fr.g 71 = I o ∧ fr.g 13 = I o ∧ fr.g 74 = I q ∧ fr.g 75 = I j ∧ fr.g 14 = I (accC m w q es o j)) (fun fr _ => q - nat (fr.g 75))
        ⟨0, by omega, rfl, by simp [hdf], by simp [z1], by simp [z2], by simp [z6], by simp [z7], by simp [z12], by simp [z70], by simp [z71], by simp, by simp, by simp, by simp [accC]⟩ ?_
      clear hdf z1 z2 z6 z7 z12 z70 z71
      rintro fr s ⟨j, hjq, rfl, hdf, z1, z2, z6, z7, z12, z70, z71, z13, z74, z75, z14⟩
      by_cases hj2 : j < q
      · have hw1 : IntKind.i64.wrap ((j : Int) + 1) = ((j + 1 : Nat) : Int) := by rw [w64 (n := (j : Int) + 1) (by omega) (by omega)]; push_cast; rfl
        have hidx : IntKind.i64.wrap (IntKind.i64.wrap ((es.length : Int) - (q : Int)) + (j : Int)) = (es.length : Int) - q + j := by rw [w64 (n := (es.length : Int) - q) (by omega) (by omega), w64 (by omega) (by omega)]
        by_cases hc2 : q ≤ es.length + j
        · have hn : (es.length : Int) - q + j = ((es.length + j - q : Nat) : Int) := by omega
          obtain ⟨x, hx⟩ : ∃ x, x = es.length + j - q := ⟨_, rfl⟩
          rw [hn, ← hx] at hidx
          obtain ⟨g, hg⟩ := hE.at_ (show x < es.length by omega)
          have hel := hE.lenE (show x < es.length by omega)
          have hdl : (o : Int) * w + w ≤ ((m.mix.drop (j * (w * w))).take (w * w)).length := by
            rw [len_sub mq hj2]
            have h1 : o * w + w ≤ w * w := by rw [← Nat.succ_mul]; exact Nat.mul_le_mul_right w ho2
            have h2 : ((o * w : Nat) : Int) = (o : Int) * w := by push_cast; rfl
            omega
          simp [z74, z75, hj2, z1, z12, hvl, hidx]
          refine wp_mflat [] [] ?_
          simp [z1, z6, z13, z14, hg]
          refine ⟨_, _, ⟨rfl, rfl⟩, ?_⟩
          refine hidden1_v (fl := fl) w2 q2 hj2 mq (hMs _) (hWs _) fun g3 => ?_
          refine refRow_r _ (gE es x) o (Rd.lst _ _ _) (Rd.lst _ _ _) (by omega) (by omega) (by rw [hel]; exact hdl) ?_
          have hm1 : mvM ((m.mix.drop (j * (w * w))).take (w * w)) (gE es x).length (gE es x) (o : Int).toNat = mvM m.mix w (gE es x) (j * w + o) := by
            have := mv_eq2 (mix := m.mix) (i := j) (A := j * (w * w)) (B := j * (w * w) + w * w) (X := gE es x) rfl rfl ho2 hel
            rwa [Nat.add_sub_cancel_left] at this
          rw [hm1]
          simp
          refine wrapped_v _ ?_
          rw [w32_w64]
          have ha : accC m w q es o (j + 1) = w32 (accC m w q es o j + mvM m.mix w (gE es x) (j * w + o)) := by rw [accC, if_pos hc2, ← hx]
          simp [z75, hw1, -Int.natCast_add]
          exact ⟨⟨j + 1, by omega, hdf, z2, z7, z12, z70, z71, z74, rfl, by rw [ha]⟩, by omega⟩
        · simp [z74, z75, hj2, z1, z12, hvl, hidx, show ¬ (0 : Int) ≤ (es.length : Int) - q + j by omega]
          have ha : accC m w q es o (j + 1) = accC m w q es o j := by rw [accC, if_neg hc2]
          simp [hw1, -Int.natCast_add]
          exact ⟨⟨j + 1, by omega, hdf, z2, z6, z7, z70, z71, z13, rfl, by rw [ha]; exact z14⟩, by omega⟩
      · obtain rfl : j = q := by omega
        simp [z74, z75, z2, z7, z13, z14, hMs', hcu]
        have hrg : -2147483648 ≤ accC m w j es o j ∧ accC m w j es o j ≤ 2147483647 := by
          have : ∀ k, -2147483648 ≤ accC m w j es o k ∧ accC m w j es o k ≤ 2147483647 := fun k => by
            induction k with
            | zero => simp [accC]
            | succ k ih =>
              rw [accC]
              split
              · exact w32_rng _
              · exact ih
          exact this j
        refine refShift_v _ _ hc1 (by omega) ?_
        have hG : max (shM (accC m w j es o j) c1) 0 = G o := by show _ = max (shM _ (gI m.cuts 1)) 0; rw [hg1]
        obtain ⟨hl2, hj2⟩ := set_upto hl ho2 hj
        have hx := fun hk => ints_get' (List.getElem?_eq_getElem (show o < l.length by omega)) hk
        have hw1 : IntKind.i64.wrap ((o : Int) + 1) = ((o + 1 : Nat) : Int) := by rw [w64 (n := (o : Int) + 1) (by omega) (by omega)]; push_cast; rfl
        have hup : upM st.length M s0.length = true := by simp [upM]; omega
        simp [hG, hl, ho2, hx, ints_set, z71, hw1, hup, -Int.natCast_add]
        exact ⟨⟨o + 1, by omega, _, hl2, hj2, rfl, hdf, z1, z6, z12, z70, rfl⟩, by omega⟩
    · obtain rfl : o = w := by omega
      have hX : l = conM m o q es := mapR_eq hl hj
      subst hX
      simp [z70, z71, hdf, z7]
      have hcl : (conM m o q es).length = o := mapR_len _ _
      have hfr := Frz.row (n := st.length) s0.length o 0 o 3 1 (ints (conM m o q es)) (by omega) (st := s0 ++ [.row 3 1 (ints (conM m o q es))]) (by simp) (by simp [hcl]) (ints_cells _)
      have hkk : Keep0 s0 (s0 ++ [.row 3 1 (ints (conM m o q es))]) := (Keep0.refl _).more _
      generalize s0 ++ [.row 3 1 (ints (conM m o q es))] = s9 at *
      rw [← hS0] at hkk
      refine ⟨_, hfr, hkk.low, ?_⟩
      rw [hkk.take, ← hH]
      simp
      rw [List.take_of_length_le (by simp [hidM_len])]
      exact hK false
end
end Go.Proofs.YtadkhechobeccaaGreatDoor.Vm
namespace Go.Proofs.YtadkhechobeccaaGreatDoor.Vm
open Go.RowKit
section
variable {T : Tbl} {M : Nat → Bool} {st : St} {K : V → St → Prop} {Kp : List PanicEntry → St → Prop}
theorem index_v {v : V} {l : List Int} (rl : Rd st v l) (hl : l.length ≤ 1000000) {F : Nat} {caps : List V} {p : Int → Bool} (hF : ∀ (M : Nat → Bool) (n : Int) (K : V → St → Prop) (Kp : List PanicEntry → St → Prop), K (Bo (p n)) st → CallV Tryz.prog T M F (I n :: caps) st K Kp) (hK : ∀ r : Int, decide (0 ≤ r) = l.any p → K (I r) st) : CallV Tryz.prog T M 55 [v, .fn F caps] st K Kp := by
  refine fun_ok hmix c_indexI (le_of rfl) ?_
  simp [F_indexI, rl.len]
  refine wp_mloop (fun fr s => ∃ k : Nat, k ≤ l.length ∧ s = st ∧ fr.df = [] ∧ fr.g 0 = v ∧ fr.g 1 = .fn F caps ∧ fr.g 7 = I l.length ∧ fr.g 8 = I k ∧ (l.take k).any p = false) (fun fr _ => l.length - nat (fr.g 8)) ⟨0, by simp⟩ ?_
  rintro fr s ⟨k, hk, rfl, hdf, g0, g1, g7, g8, hj⟩
  by_cases hlt : k < l.length
  · have ha := List.getElem?_eq_getElem hlt
    obtain ⟨q, q1, q2⟩ := rl.el ha
    simp [g7, g8, hlt]
    simp [g0, g1, q1, q2]
    refine ⟨_, _, ⟨rfl, rfl⟩, ?_⟩
    refine hF _ _ _ _ ?_
    have ht : l.take (k + 1) = l.take k ++ [l[k]] := by rw [List.take_add_one, ha]; rfl
    cases hp : p l[k] with
    | true =>
      simp [hdf]
      refine hK k ?_
      have : l.any p = true := List.any_eq_true.2 ⟨l[k], List.getElem_mem hlt, hp⟩
      rw [this]
      simp
    | false =>
      have hw1 : IntKind.i64.wrap ((k : Int) + 1) = ((k + 1 : Nat) : Int) := by rw [w64 (n := (k : Int) + 1) (by omega) (by omega)]; push_cast; rfl
      simp [hw1, -Int.natCast_add]
      refine ⟨⟨k + 1, hlt, hdf, rfl, fun x hx => ?_⟩, by omega⟩
      rw [ht] at hx
      rcases List.mem_append.1 hx with h | h
      · simpa using List.any_eq_false.1 hj x h
      · simp at h; subst h; exact hp
  · obtain rfl : k = l.length := by omega
    simp [g7, g8, hdf]
    rw [List.take_length] at hj
    exact hK (-1) (by rw [hj]; rfl)
theorem contains_v {v : V} {l : List Int} (rl : Rd st v l) (hl : l.length ≤ 1000000) {F : Nat} {caps : List V} {p : Int → Bool} (hF : ∀ (M : Nat → Bool) (n : Int) (K : V → St → Prop) (Kp : List PanicEntry → St → Prop), K (Bo (p n)) st → CallV Tryz.prog T M F (I n :: caps) st K Kp) (hK : K (Bo (l.any p)) st) : CallV Tryz.prog T M 24 [v, .fn F caps] st K Kp := by
  refine fun_ok hmix c_containsI (le_of rfl) ?_
  simp [F_containsI]
  refine index_v rl hl hF fun r hr => ?_
  simp [hr]
  exact hK
theorem all1_v (n lo hi : Int) {b1 b2 t1 t2 : Nat} (h1 : st[b1]? = some (.row t1 1 [I lo])) (h2 : st[b2]? = some (.row t2 1 [I hi])) (hK : K (Bo (!inB lo hi n)) st) : CallV Tryz.prog T M 64 [I n, .ptr b1 1 0 0, .ptr b2 1 0 0] st K Kp := by
  refine fun_ok hmix c_mall1 (le_of rfl) ?_
  simp [F_mall1, h1, h2]
  refine within_v _ _ _ ?_
  simpa using hK
theorem all_v {v : V} {l : List Int} (rl : Rd st v l) (hl : l.length ≤ 1000000) (lo hi : Int) (hK : K (Bo (l.all (inB lo hi))) st) : CallV Tryz.prog T M 31 [v, I lo, I hi] st K Kp := by
  refine CallV.give (fun_ok hmix c_mall (le_of rfl) ?_)
  simp [F_mall]
  refine contains_v (rl.more _) hl (p := fun n => !inB lo hi n) (fun M n K Kp h => all1_v n lo hi (t1 := 3) (t2 := 3) (by simp) (by simp) h) ?_
  simp
  have e : (l.any fun n => !inB lo hi n) = !l.all (inB lo hi) := by rw [List.all_eq_not_any_not]; simp
  exact ⟨_, .same _ rfl, Keep0.low (Keep0.refl _), by simpa [e] using hK⟩
end
end Go.Proofs.YtadkhechobeccaaGreatDoor.Vm
namespace Go.Proofs.YtadkhechobeccaaGreatDoor.Vm
open Go.RowKit
def bef (sc : List Int) (x y : Int) : Prop := gI sc y.toNat < gI sc x.toNat ∨ (gI sc x.toNat = gI sc y.toNat ∧ x < y)
theorem bef_irrefl (sc : List Int) (x : Int) : ¬ bef sc x x := fun h => by unfold bef at h; omega
theorem bef_trans {sc : List Int} {x y z : Int} (h : bef sc x y) (k : bef sc y z) : bef sc x z := by unfold bef at *; omega
def Ord (sc : List Int) (l : List Int) : Prop := l.Pairwise (bef sc)
theorem ord_unique {sc : List Int} : ∀ {l l' : List Int}, l.Perm l' → Ord sc l → Ord sc l' → l = l'
  | [], _, h, _, _ => (List.nil_perm.1 h).symm
  | x :: l, [], h, _, _ => absurd h.length_eq (by simp)
  | x :: l, y :: l', h, h1, h2 => by
    obtain ⟨a1, a2⟩ := List.pairwise_cons.1 h1
    obtain ⟨b1, b2⟩ := List.pairwise_cons.1 h2
    by_cases e : x = y
    · subst e
      rw [ord_unique (List.Perm.cons_inv h) a2 b2]
    · have hy : y ∈ l := by
        rcases List.mem_cons.1 (h.symm.subset List.mem_cons_self) with hh | hh
        · exact absurd hh.symm e
        · exact hh
      have hx : x ∈ l' := by
        rcases List.mem_cons.1 (h.subset List.mem_cons_self) with hh | hh
        · exact absurd hh e
        · exact hh
      exact absurd (bef_trans (a1 y hy) (b1 x hx)) (bef_irrefl sc x)
def idxs (n : Nat) : List Int := mapR n fun i => ((i : Nat) : Int)
theorem idxs_succ (n : Nat) : idxs (n + 1) = idxs n ++ [(n : Int)] := mapR_succ n _
@[simp] theorem idxs_len (n : Nat) : (idxs n).length = n := by simp [idxs]
theorem idxs_mem {n : Nat} {x : Int} : x ∈ idxs n ↔ 0 ≤ x ∧ x < n := by
  simp only [idxs, mapR, List.mem_map, List.mem_range]
  constructor
  · rintro ⟨i, hi, rfl⟩; omega
  · rintro ⟨h1, h2⟩; exact ⟨x.toNat, by omega, by omega⟩
structure IsRank (sc : List Int) (n : Nat) (l : List Int) : Prop where
  ord : Ord sc l
  perm : l.Perm (idxs n)
theorem IsRank.unique {sc : List Int} {n : Nat} {l l' : List Int} (h : IsRank sc n l) (h' : IsRank sc n l') : l = l' := ord_unique (h.perm.trans h'.perm.symm) h.ord h'.ord
theorem IsRank.len {sc : List Int} {n : Nat} {l : List Int} (h : IsRank sc n l) : l.length = n := by rw [h.perm.length_eq, idxs_len]
theorem IsRank.rng {sc : List Int} {n : Nat} {l : List Int} (h : IsRank sc n l) : ∀ x ∈ l, 0 ≤ x ∧ x < n := fun _x hx => idxs_mem.1 (h.perm.subset hx)
end Go.Proofs.YtadkhechobeccaaGreatDoor.Vm
namespace Go.Proofs.YtadkhechobeccaaGreatDoor.Vm
open Go.RowKit Go.Sort
section
variable {m : Nat}
def refC (sc : List Int) (x y : _root_.Fin (m + 1)) : Int := orV (cmpV (gI sc y.val) (gI sc x.val)) ((x.val : Int) - y.val)
def proC (sc : List Int) (x y : _root_.Fin (m + 1)) : Int := cmpV (gI sc y.val) (gI sc x.val)
def encN (x : _root_.Fin (m + 1)) : Value := .int .i64 (x.val : Int)
def row0 (m : Nat) : Array (_root_.Fin (m + 1)) := Array.ofFn fun i => i
theorem lt_ref (sc : List Int) (x y : _root_.Fin (m + 1)) : ltOf (refC sc) x y = decide (gI sc y.val < gI sc x.val ∨ (gI sc x.val = gI sc y.val ∧ x.val < y.val)) := by
  unfold ltOf refC orV cmpV
  refine decide_eq_decide.2 ?_
  repeat' split
  all_goals omega
theorem lt_pro (sc : List Int) (x y : _root_.Fin (m + 1)) : ltOf (proC sc) x y = decide (gI sc y.val < gI sc x.val) := by
  unfold ltOf proC cmpV
  refine decide_eq_decide.2 ?_
  repeat' split
  all_goals omega
theorem swo_ref (sc : List Int) : SWO (ltOf (refC (m := m) sc)) where
  irrefl x := by rw [lt_ref, decide_eq_false_iff_not]; omega
  trans x y z := by simp only [lt_ref, decide_eq_true_eq]; omega
  ntrans x y z := by simp only [lt_ref, decide_eq_false_iff_not]; omega
theorem row0_size : (row0 m).size = m + 1 := by simp [row0]
theorem row0_nums : (row0 m).toList.map (fun i => (i.val : Int)) = idxs (m + 1) := by
  refine List.ext_getElem (by simp [row0]) fun i h1 h2 => ?_
  rw [List.getElem_map, Array.getElem_toList]
  simp only [row0, idxs, mapR, Array.getElem_ofFn, List.getElem_map, List.getElem_range]
theorem idxs_nodup (n : Nat) : (idxs n).Nodup := by
  unfold idxs mapR
  exact List.pairwise_map.2 (List.Pairwise.imp (fun h => by omega) (List.nodup_range (n := n)))
theorem rank_of {sc : List Int} {d' : Array (_root_.Fin (m + 1))} (hP : PermIn 0 (m + 1) (row0 m) d') (hS : SortedIn (ltOf (refC sc)) 0 (m + 1) d') : IsRank sc (m + 1) (d'.toList.map fun i => (i.val : Int)) := by
  obtain ⟨h1, -, h2⟩ := hP
  have hs : d'.size = m + 1 := h1.trans row0_size
  rw [Array.extract_eq_self_of_le (by omega), Array.extract_eq_self_of_le (by rw [row0_size]; omega)] at h2
  have hp : (d'.toList.map fun i => (i.val : Int)).Perm (idxs (m + 1)) := by rw [← row0_nums]; exact h2.map _
  have hn := hp.nodup_iff.2 (idxs_nodup _)
  refine ⟨?_, hp⟩
  refine List.pairwise_iff_getElem.2 fun i j hi hj hij => ?_
  have hi' : i < d'.size := by simpa using hi
  have hj' : j < d'.size := by simpa using hj
  have h := hS i j (Nat.zero_le _) hij (by omega)
  have hne := List.pairwise_iff_getElem.1 hn i j hi hj hij
  rw [lt_ref, decide_eq_false_iff_not] at h
  simp only [List.getElem_map, Array.getElem_toList] at hne ⊢
  simp only [getElem!_pos d' i hi', getElem!_pos d' j hj'] at h
  unfold bef
  simp only [Int.toNat_natCast]
  omega
theorem inner_perm (lt : _root_.Fin (m + 1) → _root_.Fin (m + 1) → Bool) (b : Nat) : ∀ (j : Nat) (d : Array (_root_.Fin (m + 1))), j < b → b ≤ d.size → PermIn 0 b d (insInner lt 0 j d)
  | 0, d, _, _ => by unfold insInner; exact permIn_refl d 0 b
  | j + 1, d, hj, hb => by
    unfold insInner
    split
    · exact permIn_trans _ _ _ 0 b (swp_permIn d 0 b (j + 1) j (by omega) hj (by omega) (by omega) hb) (inner_perm lt b j _ (by omega) (by rw [swp_size]; exact hb))
    · exact permIn_refl d 0 b
theorem inner_congr (sc : List Int) : ∀ (j : Nat) (d : Array (_root_.Fin (m + 1))), j < d.size → (∀ k, k < j → (d[k]!).val < (d[j]!).val) → insInner (ltOf (proC sc)) 0 j d = insInner (ltOf (refC sc)) 0 j d
  | 0, _, _, _ => rfl
  | j + 1, d, hj, h => by
    have hlt : ltOf (proC sc) d[j + 1]! d[j]! = ltOf (refC sc) d[j + 1]! d[j]! := by
      have := h j (by omega)
      rw [lt_pro, lt_ref]
      exact decide_eq_decide.2 (by omega)
    unfold insInner
    rw [hlt, inner_congr sc j (swp d (j + 1) j) (by rw [swp_size]; omega) fun k hk => by
      rw [swp_right d (j + 1) j (by omega), swp_other d (j + 1) j k (by omega) (by omega)]
      exact h k (by omega)]
theorem outer_congr (sc : List Int) (b : Nat) : ∀ (n i : Nat) (d : Array (_root_.Fin (m + 1))), b - i = n → b ≤ d.size → (∀ k, k < i → k < b → (d[k]!).val < i) → (∀ k, i ≤ k → k < b → (d[k]!).val = k) → insOuter (ltOf (proC sc)) 0 b i d = insOuter (ltOf (refC sc)) 0 b i d
  | 0, i, d, hn, hb, _, _ => by rw [insOuter_stop _ _ _ _ _ (by omega), insOuter_stop _ _ _ _ _ (by omega)]
  | n + 1, i, d, hn, hb, h1, h2 => by
    have hi : i < b := by omega
    have hp := inner_perm (ltOf (refC sc)) (i + 1) i d (by omega) (by omega)
    rw [insOuter_go _ _ _ _ _ hi, insOuter_go _ _ _ _ _ hi, inner_congr sc i d (by omega) fun k hk => by rw [h2 i (Nat.le_refl _) hi]; exact h1 k hk (by omega)]
    refine outer_congr sc b n (i + 1) _ (by omega) (by rw [hp.1]; exact hb) (fun k hk hkb => ?_) fun k hk hkb => ?_
    · refine permIn_all d _ 0 (i + 1) (fun x => x.val < i + 1) (by omega) hp (fun q _ hq => ?_) k (by omega) hk
      by_cases e : q = i
      · subst e; rw [h2 q (Nat.le_refl _) hi]; omega
      · have := h1 q (by omega) (by omega); omega
    · rw [hp.2.1 k (Or.inr hk)]
      exact h2 k (by omega) hkb
theorem sort_congr (sc : List Int) : insertionSort (ltOf (proC sc)) (row0 m) 0 (m + 1) = insertionSort (ltOf (refC sc)) (row0 m) 0 (m + 1) := by
  have hg : ∀ k, k < m + 1 → ((row0 m)[k]!).val = k := fun k hk => by
    rw [getElem!_pos (row0 m) k (by rw [row0_size]; exact hk)]
    simp [row0]
  unfold insertionSort
  exact outer_congr sc (m + 1) _ (0 + 1) _ rfl (by rw [row0_size]; omega) (fun k hk hkb => by rw [hg k hkb]; omega) fun k _ hkb => hg k hkb
theorem rank_pro (sc : List Int) : IsRank sc (m + 1) ((insertionSort (ltOf (proC sc)) (row0 m) 0 (m + 1)).toList.map fun i => (i.val : Int)) := by
  rw [sort_congr]
  have h := insertionSort_holds (lt := ltOf (refC (m := m) sc)) (swo_ref sc) (row0 m) 0 (m + 1) (Nat.zero_le _) (by rw [row0_size]; omega)
  exact rank_of h.1 h.2
end
end Go.Proofs.YtadkhechobeccaaGreatDoor.Vm
