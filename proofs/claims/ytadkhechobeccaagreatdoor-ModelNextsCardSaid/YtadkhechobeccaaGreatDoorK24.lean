/-
  Entries are checked and drawn, run by the value machine.
  ModelWeights: the law, walked by the value machine.
  ModelNexts: the law, walked by the value machine.
-/
import Derived.Test.YtadkhechobeccaaGreatDoorK13
import Derived.Test.YtadkhechobeccaaGreatDoorK23
import Derived.Test.YtadkhechobeccaaGreatDoorK07
namespace Go.Proofs.YtadkhechobeccaaGreatDoor.Vm
open Go.RowKit
/-- no word -/
def badW (n : Int) : Bool := decide (n < -2147483648) || decide (2147483647 < n)
/-- the first fault of entries that are to have L numbers -/
def efL (L : Nat) : List (List Int) → Int
  | [] => 0
  | e :: t => if e.length ≠ L then 3 else if e.any badW = true then 9 else efL L t
def efM (L : Nat) (es : List (List Int)) : Int := if es.length = 0 then 11 else if 64 < es.length then 2 else efL L es
/-- vs stand for es -/
structure EsL (vs : List V) (es : List (List Int)) : Prop where
  len : vs.length = es.length
  get : ∀ (i : Nat) (e : List Int), es[i]? = some e → ∃ g, vs[i]? = some (V.lst g (ints e))
  low : es.length ≤ 1000 ∧ ∀ e ∈ es, e.length ≤ 1000
theorem efL_each {L : Nat} : ∀ {es : List (List Int)}, efL L es = 0 → ∀ e ∈ es, e.length = L
  | [], _, e, he => by simp at he
  | x :: t, h, e, he => by
    unfold efL at h
    split at h
    · cases h
    · rename_i h1
      split at h
      · cases h
      · rcases List.mem_cons.1 he with rfl | he
        · omega
        · exact efL_each h e he
theorem EsL.esV {vs : List V} {es : List (List Int)} {L : Nat} (h : EsL vs es) (he : efM L es = 0) : EsV vs es L := by
  unfold efM at he
  split at he
  · cases he
  · split at he
    · cases he
    · exact ⟨h.len, h.get, efL_each he, by omega⟩
section
variable {T : Tbl} {M : Nat → Bool} {st : St} {K : V → St → Prop} {Kp : List PanicEntry → St → Prop}
theorem eFault1_v (n : Int) (hK : K (Bo (badW n)) st) : CallV Tryz.prog T M 42 [I n] st K Kp := by
  refine fun_ok hmix c_entryFault1 (le_of rfl) ?_
  by_cases h : n < -2147483648
  · simp [F_entryFault1, h]
    simpa [badW, h] using hK
  · simp [F_entryFault1, h]
    simpa [badW, h] using hK
theorem isWord_v (n : Int) (hK : K (Bo (!badW n)) st) : CallV Tryz.prog T M 57 [I n] st K Kp := by
  have e : inB (-2147483648) 2147483647 n = !badW n := by
    unfold inB badW
    by_cases h1 : n < -2147483648 <;> by_cases h2 : 2147483647 < n <;> simp [h1, h2] <;> omega
  refine fun_ok hmix c_isWord (le_of rfl) ?_
  simp [F_isWord]
  refine within_v _ _ _ ?_
  rw [e]
  exact hK
theorem eOK1_v (n : Int) (hK : K (Bo (badW n)) st) : CallV Tryz.prog T M 77 [I n] st K Kp := by
  refine fun_ok hmix c_entriesOK1 (le_of rfl) ?_
  simp [F_entriesOK1]
  refine isWord_v _ ?_
  simp
  exact hK
theorem mlen_v {m : LModel} {w : Nat} {fl : Nat → Bool} {x : V} (hx : encM fl m = x) (hw : m.width = (w : Int)) (w2 : w ≤ 5) (hK : K (I (lenW m w : Nat)) st) : CallV Tryz.prog T M 76 [x] st K Kp := by
  subst hx
  refine CallV.give (fun_ok hmix c_mlen (le_of rfl) ?_)
  by_cases hk : m.kind = 1
  · have hl : lenW m w = 3 * w := if_pos hk
    rw [hl] at hK
    simp [F_mlen, encM, hk, hw, w64 (n := 3 * (w : Int)) (by omega) (by omega)]
    exact ⟨_, .same _ rfl, Keep0.low (Keep0.refl _), by simpa using hK⟩
  · have hl : lenW m w = w := if_neg hk
    rw [hl] at hK
    have hkb : (m.kind == 1) = false := by simpa using hk
    simp [F_mlen, encM, hkb, hw]
    exact ⟨_, .same _ rfl, Keep0.low (Keep0.refl _), by simpa using hK⟩
theorem elen_v {m : LModel} {w : Nat} {fl : Nat → Bool} {x : V} (hx : encM fl m = x) (hw : m.width = (w : Int)) (w2 : w ≤ 5) (hK : K (I (lenW m w : Nat)) st) : CallV Tryz.prog T M 41 [x] st K Kp := by
  subst hx
  refine CallV.give (fun_ok hmix c_elen (le_of rfl) ?_)
  by_cases hk : m.kind = 1
  · have hl : lenW m w = 3 * w := if_pos hk
    rw [hl] at hK
    simp [F_elen, encM, hk, hw, w64 (n := 3 * (w : Int)) (by omega) (by omega)]
    exact ⟨_, .same _ rfl, Keep0.low (Keep0.refl _), by simpa using hK⟩
  · have hl : lenW m w = w := if_neg hk
    rw [hl] at hK
    have hkb : (m.kind == 1) = false := by simpa using hk
    simp [F_elen, encM, hkb, hw]
    exact ⟨_, .same _ rfl, Keep0.low (Keep0.refl _), by simpa using hK⟩
theorem efL_drop {L : Nat} {es : List (List Int)} {k : Nat} {e : List Int} (h : es[k]? = some e) : efL L (es.drop k) = if e.length ≠ L then 3 else if e.any badW = true then 9 else efL L (es.drop (k + 1)) := by
  have hk : k < es.length := (List.getElem?_eq_some_iff.1 h).1
  rw [List.drop_eq_getElem_cons hk]
  have : es[k] = e := by rw [List.getElem?_eq_getElem hk] at h; exact Option.some.inj h
  rw [this]
  rfl
set_option maxRecDepth 10000 in
theorem entriesOK_v {m : LModel} {w : Nat} (fl : Nat → Bool) (hw : m.width = (w : Int)) (w2 : w ≤ 5) {vs : List V} {es : List (List Int)} {f : Bool} (hE : EsL vs es) (hK : K (I (efM (lenW m w) es)) st) : CallV Tryz.prog T M 43 [encM fl m, .lst f vs] st K Kp := by
  have hvl := hE.len
  have hlo := hE.low.1
  refine CallV.give (fun_ok hmix c_entriesOK (le_of rfl) ?_)
  have fin : ∀ (n : Int), n = efM (lenW m w) es → ∃ v', Frz st.length (st ++ [mdl m.kind m.vocab m.width m.top (fun i => .lst (fl i) (ints (mls m i)))]) (I n) v' ∧ LowSt st (st ++ [mdl m.kind m.vocab m.width m.top (fun i => .lst (fl i) (ints (mls m i)))]) ∧ K v' st := fun n hn => ⟨_, .same _ rfl, Keep0.low (Keep0.refl _), by rw [hn]; exact hK⟩
  simp only [mdl] at fin
  by_cases h0 : es.length = 0
  · have hz : vs = [] := List.eq_nil_of_length_eq_zero (by omega)
    have := fin 11 (by unfold efM; rw [if_pos h0])
    simp [F_entriesOK, encM, hz]
    exact this
  · have hb0 : ((es.length : Int) == 0) = false := by simpa using h0
    by_cases h1 : 64 < es.length
    · have := fin 2 (by unfold efM; rw [if_neg h0, if_pos h1])
      simp [F_entriesOK, encM, hvl, hb0, show (64 : Int) < (es.length : Int) by omega]
      exact this
    · have hef : efM (lenW m w) es = efL (lenW m w) es := by unfold efM; rw [if_neg h0, if_neg h1]
      rw [hef] at fin
      simp [F_entriesOK, encM, hvl, hb0, show ¬ (64 : Int) < (es.length : Int) by omega]
      refine wp_mloop (fun fr s => ∃ k : Nat, k ≤ es.length ∧ s = st ++ [mdl m.kind m.vocab m.width m.top (fun i => .lst (fl i) (ints (mls m i)))] ∧ fr.df = [] ∧ fr.g 2 = .ptr st.length 1 0 0 ∧ fr.g 13 = .lst f vs ∧ fr.g 14 = I es.length ∧ fr.g 15 = I k ∧ efL (lenW m w) es = efL (lenW m w) (es.drop k)) (fun fr _ => es.length - nat (fr.g 15))
        ⟨0, by omega, rfl, by simp, by simp, by simp, by simp, by simp, rfl⟩ ?_
      rintro fr s ⟨k, hk, rfl, hdf, z2, z13, z14, z15, hd⟩
      by_cases hlt : k < es.length
      · have he := List.getElem?_eq_getElem hlt
        obtain ⟨g, hg⟩ := hE.get k _ he
        have hd2 := efL_drop (L := lenW m w) he
        have hel := hE.low.2 _ (List.getElem_mem hlt)
        generalize es[k] = e at *
        simp [z13, z14, z15, hlt]
        simp [hg, z2, mdl]
        refine mlen_v (fl := fl) (m := m) rfl hw w2 ?_
        by_cases hl : e.length = lenW m w
        · rw [if_neg (by omega)] at hd2
          simp [hl]
          refine contains_v (Rd.lst _ _ _) (by omega) (p := badW) (fun M n K Kp h => eOK1_v n h) ?_
          cases hb : e.any badW with
          | true =>
            rw [if_pos hb] at hd2
            simp [hdf]
            exact fin 9 (by rw [hd, hd2])
          | false =>
            rw [if_neg (by rw [hb]; simp)] at hd2
            have hw1 : IntKind.i64.wrap ((k : Int) + 1) = ((k + 1 : Nat) : Int) := by rw [w64 (n := (k : Int) + 1) (by omega) (by omega)]; push_cast; rfl
            simp [hw1, -Int.natCast_add]
            exact ⟨⟨k + 1, hlt, hdf, rfl, by rw [hd, hd2]⟩, by omega⟩
        · rw [if_pos hl] at hd2
          have hb1 : ((e.length : Int) != ((lenW m w : Nat) : Int)) = true := by simp; omega
          simp [hb1, hdf]
          exact fin 3 (by rw [hd, hd2])
      · obtain rfl : k = es.length := by omega
        simp [z14, z15, hdf]
        rw [List.drop_length] at hd
        exact fin 0 (by rw [hd]; rfl)
set_option maxRecDepth 10000 in
theorem entryFault_v {m : LModel} {w : Nat} (fl : Nat → Bool) (hw : m.width = (w : Int)) (w2 : w ≤ 5) {vs : List V} {es : List (List Int)} {f : Bool} (hE : EsL vs es) (hK : K (I (efM (lenW m w) es)) st) : CallV Tryz.prog T M 17 [encM fl m, .lst f vs] st K Kp := by
  have hvl := hE.len
  have hlo := hE.low.1
  refine CallV.give (fun_ok hmix c_entryFault (le_of rfl) ?_)
  have fin : ∀ (n : Int), n = efM (lenW m w) es → ∃ v', Frz st.length (st ++ [mdl m.kind m.vocab m.width m.top (fun i => .lst (fl i) (ints (mls m i)))]) (I n) v' ∧ LowSt st (st ++ [mdl m.kind m.vocab m.width m.top (fun i => .lst (fl i) (ints (mls m i)))]) ∧ K v' st := fun n hn => ⟨_, .same _ rfl, Keep0.low (Keep0.refl _), by rw [hn]; exact hK⟩
  simp only [mdl] at fin
  by_cases h0 : es.length = 0
  · have hz : vs = [] := List.eq_nil_of_length_eq_zero (by omega)
    have := fin 11 (by unfold efM; rw [if_pos h0])
    simp [F_entryFault, encM, hz]
    exact this
  · have hb0 : ((es.length : Int) == 0) = false := by simpa using h0
    by_cases h1 : 64 < es.length
    · have := fin 2 (by unfold efM; rw [if_neg h0, if_pos h1])
      simp [F_entryFault, encM, hvl, hb0, show (64 : Int) < (es.length : Int) by omega]
      exact this
    · have hef : efM (lenW m w) es = efL (lenW m w) es := by unfold efM; rw [if_neg h0, if_neg h1]
      rw [hef] at fin
      simp [F_entryFault, encM, hvl, hb0, show ¬ (64 : Int) < (es.length : Int) by omega]
      refine wp_mloop (fun fr s => ∃ k : Nat, k ≤ es.length ∧ s = st ++ [mdl m.kind m.vocab m.width m.top (fun i => .lst (fl i) (ints (mls m i)))] ∧ fr.df = [] ∧ fr.g 2 = .ptr st.length 1 0 0 ∧ fr.g 15 = .lst f vs ∧ fr.g 16 = I es.length ∧ fr.g 17 = I k ∧ efL (lenW m w) es = efL (lenW m w) (es.drop k)) (fun fr _ => es.length - nat (fr.g 17))
        ⟨0, by omega, rfl, by simp, by simp, by simp, by simp, by simp, rfl⟩ ?_
      rintro fr s ⟨k, hk, rfl, hdf, z2, z15, z16, z17, hd⟩
      by_cases hlt : k < es.length
      · have he := List.getElem?_eq_getElem hlt
        obtain ⟨g, hg⟩ := hE.get k _ he
        have hd2 := efL_drop (L := lenW m w) he
        have hel := hE.low.2 _ (List.getElem_mem hlt)
        generalize es[k] = e at *
        simp [z15, z16, z17, hlt]
        simp [hg, z2, mdl]
        refine elen_v (fl := fl) (m := m) rfl hw w2 ?_
        by_cases hl : e.length = lenW m w
        · rw [if_neg (by omega)] at hd2
          simp [hl]
          refine contains_v (Rd.lst _ _ _) (by omega) (p := badW) (fun M n K Kp h => eFault1_v n h) ?_
          cases hb : e.any badW with
          | true =>
            rw [if_pos hb] at hd2
            simp [hdf]
            exact fin 9 (by rw [hd, hd2])
          | false =>
            rw [if_neg (by rw [hb]; simp)] at hd2
            have hw1 : IntKind.i64.wrap ((k : Int) + 1) = ((k + 1 : Nat) : Int) := by rw [w64 (n := (k : Int) + 1) (by omega) (by omega)]; push_cast; rfl
            simp [hw1, -Int.natCast_add]
            exact ⟨⟨k + 1, hlt, hdf, rfl, by rw [hd, hd2]⟩, by omega⟩
        · rw [if_pos hl] at hd2
          have hb1 : ((e.length : Int) != ((lenW m w : Nat) : Int)) = true := by simp; omega
          simp [hb1, hdf]
          exact fin 3 (by rw [hd, hd2])
      · obtain rfl : k = es.length := by omega
        simp [z16, z17, hdf]
        rw [List.drop_length] at hd
        exact fin 0 (by rw [hd]; rfl)
end
end Go.Proofs.YtadkhechobeccaaGreatDoor.Vm
namespace Go.Proofs.YtadkhechobeccaaGreatDoor.Vm
open Go.RowKit
theorem But.trans {sb : Nat} {s s1 s2 : St} (h : But sb s s1) (k : But sb s1 s2) : But sb s s2 := ⟨k.1.trans h.1, fun b hb => (k.2 b hb).trans (h.2 b hb)⟩
def isW (x : Int) : Prop := -2147483648 ≤ x ∧ x ≤ 2147483647
section
variable {n sb : Nat} {st s : St} {f : Bool} {xs : List Int} {a : Int} {T : Tbl} {M : Nat → Bool} {K : V → St → Prop} {Kp : List PanicEntry → St → Prop}
theorem next_g2 (g : GS n sb st s f xs a) (hM : M sb = true) (ha : 0 ≤ a ∧ a ≤ 1000000000) (k : Int) (hk : 1 ≤ k ∧ k ≤ 9223372036854775807) (hK : ∀ r s', 0 ≤ r → r < k → GS n sb st s' f xs (a + 1) → But sb s s' → K (I r) s') : CallV Tryz.prog T M 10 [.ptr sb 1 0 0, I k] s K Kp :=
  next_v sb f xs a k g.str hM g.src.1 g.src.2 ha (by omega) fun r _ h2 => hK r _ (h2 hk.1).1 (h2 hk.1).2 (g.next _) (But.set _ _ _)
theorem word_g (g : GS n sb st s f xs a) (hM : M sb = true) (ha : 0 ≤ a ∧ a ≤ 100000000) (hK : ∀ r s' a', isW r → a ≤ a' → a' ≤ a + 3 → GS n sb st s' f xs a' → But sb s s' → K (I r) s') : CallV Tryz.prog T M 8 [.ptr sb 1 0 0] s K Kp := by
  refine fun_ok hmix c_sWord (le_of rfl) ?_
  have hup : upM s.length M sb = true := upM_of hM
  simp [F_sWord]
  refine next_g g hup (by omega) 6 (by omega) fun z s1 z0 z6 g1 b1 => ?_
  by_cases h0 : z = 0
  · simp [h0]
    refine next_g g1 hup (by omega) 3 (by omega) fun r s2 r0 r3 g2 b2 => ?_
    simp [w64 (n := -2147483648 + r) (by omega) (by omega)]
    exact hK _ s2 (a + 1 + 1) ⟨by omega, by omega⟩ (by omega) (by omega) g2 (b1.trans b2)
  · have hb0 : (z == 0) = false := by simpa using h0
    by_cases h1 : z = 1
    · simp [h1]
      refine next_g g1 hup (by omega) 3 (by omega) fun r s2 r0 r3 g2 b2 => ?_
      simp [w64 (n := 2147483647 - r) (by omega) (by omega)]
      exact hK _ s2 (a + 1 + 1) ⟨by omega, by omega⟩ (by omega) (by omega) g2 (b1.trans b2)
    · have hb1 : (z == 1) = false := by simpa using h1
      by_cases h2 : z = 2
      · simp [h2]
        refine next_g2 g1 hup (by omega) 1073741824 (by omega) fun r s2 r0 r3 g2 b2 => ?_
        simp [w64 (n := r * 4) (by omega) (by omega)]
        refine next_g g2 hup (by omega) 4 (by omega) fun r' s3 q0 q3 g3 b3 => ?_
        simp [w64 (n := r * 4 + r') (by omega) (by omega), w64 (n := r * 4 + r' + -2147483648) (by omega) (by omega)]
        exact hK _ s3 (a + 1 + 1 + 1) ⟨by omega, by omega⟩ (by omega) (by omega) g3 ((b1.trans b2).trans b3)
      · have hb2 : (z == 2) = false := by simpa using h2
        simp [hb0, hb1, hb2]
        refine range_g g1 hup (by omega) (-9) 9 (by omega) (by omega) (by omega) fun r s2 r0 r3 g2 b2 => ?_
        exact hK _ s2 (a + 1 + 1) ⟨by omega, by omega⟩ (by omega) (by omega) g2 (b1.trans b2)
end
def WInv (n s0 m : Nat) (st : St) (f : Bool) (xs : List Int) (a : Int) (fr : Fr) (s : St) : Prop :=
  ∃ (k : Nat) (l : List Int) (a' : Int), k ≤ m ∧ l.length = k ∧ (∀ x ∈ l, isW x) ∧ a ≤ a' ∧ a' ≤ a + 3 * k ∧ GS n s0 st s f xs a' ∧ OutS n 3 1 s (fr.g 5) (ints l) ∧ fr.df = [] ∧ fr.g 0 = .ptr s0 1 0 0 ∧ fr.g 6 = I m ∧ fr.g 7 = I k
section
variable {st : St} {f : Bool} {xs : List Int} {a : Int} {T : Tbl} {M : Nat → Bool} {K : V → St → Prop} {Kp : List PanicEntry → St → Prop}
theorem words_v (s0 : Nat) (m : Nat) (hm : m ≤ 400) (hs : st[s0]? = some (strm f xs a)) (hM : M s0 = true) (src : xs.length ≤ 9223372036854775807 ∧ ∀ x ∈ xs, -9223372036854775808 ≤ x ∧ x ≤ 9223372036854775807) (ha : 0 ≤ a ∧ a ≤ 10000000)
    (hK : ∀ g l a', l.length = m → (∀ x ∈ l, isW x) → a ≤ a' → a' ≤ a + 3 * m → K (.lst g (ints l)) (st.set s0 (strm f xs a'))) : CallV Tryz.prog T M 75 [.ptr s0 1 0 0, I m] st K Kp := by
  have hlt : s0 < st.length := (List.getElem?_eq_some_iff.1 hs).1
  refine CallV.give (fun_ok hmix c_sWords (le_of rfl) ?_)
  simp [F_sWords]
  refine wp_mloop (WInv st.length s0 m st f xs a) (fun fr _ => m - nat (fr.g 7))
    ⟨0, [], a, by simp, rfl, by simp, by simp, by simp, ⟨Same.refl (Nat.le_refl _), hs, hlt, src⟩, by simpa [ints] using OutS.nil _ _ _ _, by simp, by simp, by simp, by simp⟩ ?_
  rintro fr s ⟨k, l, a', hk, hl, hr, ha1, ha2, g, o, hdf, g0, g6, g7⟩
  have hup : upM st.length M s0 = true := upM_of hM
  by_cases hlt2 : k < m
  · simp [g6, g7, g0, hlt2]
    refine word_g g hup (by omega) fun x s1 a2 hx h1 h2 g1 b1 => ?_
    have o1 := o.but b1 hlt
    simp
    refine app_out (o1.more _) (by have := g1.same.len; simp; omega) (news := [I x]) (by simp) (by simp) (Or.inl (by simp)) (fun b L hb _ j => by simp [upM, hb]) (by simp; omega) (by simp; omega) fun v s3 o3 hl3 hb3 _ _ => ?_
    have g3 := (g1.more [.row 3 1 [I x]]).to hl3 hb3
    have hw1 : IntKind.i64.wrap ((k : Int) + 1) = ((k + 1 : Nat) : Int) := by rw [w64 (n := (k : Int) + 1) (by omega) (by omega)]; push_cast; rfl
    simp [hw1, -Int.natCast_add]
    exact ⟨⟨k + 1, l ++ [x], a2, hlt2, by simp [hl], fun y hy => by
      rcases List.mem_append.1 hy with hy | hy
      · exact hr y hy
      · simp at hy; subst hy; exact hx, by omega, by push_cast; omega, g3, by simp [ints_append]; simpa [ints] using o3, by simp [hdf], by simp [g0], by simp [g6], by simp⟩, by omega⟩
  · obtain rfl : k = m := by omega
    simp [g6, g7, hdf]
    obtain ⟨gg, hfr⟩ := o.frz (ints_cells l)
    refine ⟨_, hfr, g.same.low g.str (by simp [V.low]), ?_⟩
    rw [g.same.take g.str]
    exact hK gg l a' hl hr ha1 ha2
end
section
variable {n sb : Nat} {st s : St} {f : Bool} {xs : List Int} {a : Int} {T : Tbl} {M : Nat → Bool} {K : V → St → Prop} {Kp : List PanicEntry → St → Prop}
theorem words_g (g : GS n sb st s f xs a) (hM : M sb = true) (ha : 0 ≤ a ∧ a ≤ 10000000) (m : Nat) (hm : m ≤ 400) (hK : ∀ b l s' a', l.length = m → (∀ x ∈ l, isW x) → a ≤ a' → a' ≤ a + 3 * m → GS n sb st s' f xs a' → But sb s s' → K (.lst b (ints l)) s') : CallV Tryz.prog T M 75 [.ptr sb 1 0 0, I m] s K Kp :=
  words_v sb m hm g.str hM g.src ha fun b l a' h0 h1 h2 h3 => hK b l _ a' h0 h1 h2 h3 (g.next _) (But.set _ _ _)
/-- one more element -/
theorem app_el {M2 : Nat → Nat → Bool} {n t : Nat} {s : St} {v x : V} {l : List V} {k2 : V → St → Prop} (hx : x.cells.length = 1) (h : OutS n t 1 s v l) (hn : n ≤ s.length) (hM : ∀ b ∈ ownL v, ∀ j, M2 b j = true) (hl : l.length ≤ 1000000)
    (hK : ∀ v' s', OutS n t 1 s' v' (l ++ [x]) → s.length ≤ s'.length → (∀ b, b < n → s'[b]? = s[b]?) → k2 v' s') : obind2 (mApp M2 t 1 24 (s ++ [.row t 1 [x]]) v (.own s.length 1 0 1)) k2 := by
  refine app_out (h.more _) (by simp; omega) (news := [x]) (by simp) (by simp [hx]) (Or.inl (by simp)) (fun b L _ e j => hM b (by rw [e]; simp [ownL]) j) (by simp; omega) (by simp; omega) fun v' s' o hl' hb' _ _ => ?_
  exact hK v' s' o (by simp at hl'; omega) fun b hb => (hb' b hb).trans (List.getElem?_append_left (by omega))
theorem ESnoc {vs : List V} {es : List (List Int)} (hl : vs.length = es.length) (h : ∀ (i : Nat) (e : List Int), es[i]? = some e → ∃ g, vs[i]? = some (V.lst g (ints e))) (g : Bool) (e : List Int) : (vs ++ [V.lst g (ints e)]).length = (es ++ [e]).length ∧ ∀ (i : Nat) (e' : List Int), (es ++ [e])[i]? = some e' → ∃ g', (vs ++ [V.lst g (ints e)])[i]? = some (V.lst g' (ints e')) := by
  refine ⟨by simp [hl], fun i e' he => ?_⟩
  by_cases hi : i < es.length
  · rw [List.getElem?_append_left hi] at he
    rw [List.getElem?_append_left (by omega)]
    exact h i e' he
  · rw [List.getElem?_append_right (by omega)] at he
    rw [List.getElem?_append_right (by omega), hl]
    have : i - es.length = 0 := by
      have := (List.getElem?_eq_some_iff.1 he).1
      simp at this
      omega
    rw [this] at he ⊢
    simp at he
    subst he
    exact ⟨g, rfl⟩
def EInv (n0 sb N : Nat) (stB : St) (f : Bool) (xs : List Int) (a : Int) (b : Bool) (L : Nat) (fr : Fr) (s : St) : Prop :=
  ∃ (k : Nat) (vs : List V) (es : List (List Int)) (a' : Int), k ≤ N ∧ es.length = k ∧ vs.length = es.length ∧ (∀ (i : Nat) (e : List Int), es[i]? = some e → ∃ g, vs[i]? = some (V.lst g (ints e))) ∧ (∀ e ∈ es, e.length = L) ∧ a ≤ a' ∧ a' ≤ a + 50 * k ∧ GS (n0 + 1) sb stB s f xs a' ∧ OutS (n0 + 1) 22 1 s (fr.g 7) vs ∧ fr.df = [] ∧ fr.g 0 = .ptr sb 1 0 0 ∧ fr.g 4 = .ptr n0 1 0 0 ∧ fr.g 8 = Bo b ∧ fr.g 14 = I N ∧ fr.g 15 = I k
set_option maxRecDepth 10000 in
theorem entries_g {m : LModel} {w r vo : Nat} (fl : Nat → Bool) (e : EntS m w r vo) (g : GS n sb st s f xs a) (hM : M sb = true) (ha : 0 ≤ a ∧ a ≤ 1000000) (N : Nat) (hN : 1 ≤ N ∧ N ≤ 16)
    (hK : ∀ v vs es s' a', 1 ≤ es.length → es.length ≤ 16 → (∀ x ∈ es, x.length = lenW m w) → EsL vs es → a ≤ a' → a' ≤ a + 1000 → GS n sb st s' f xs a' → OutS s.length 22 1 s' v vs → s.length ≤ s'.length → (∀ b, b < s.length → b ≠ sb → s'[b]? = s[b]?) → K v s') : CallV Tryz.prog T M 39 [.ptr sb 1 0 0, encM fl m, I N] s K Kp := by
  have hw := e.hw
  have hv := e.hv
  have hup : upM s.length M sb = true := upM_of hM
  have hsl : sb < s.length := Nat.lt_of_lt_of_le g.hsb g.same.len
  have hL : lenW m w ≤ 15 := by unfold lenW; have := e.w1; split <;> omega
  refine fun_ok hmix c_sEntries (le_of rfl) ?_
  simp [F_sEntries, encM]
  have hMB : Blk.row 27 11 [V.agg [I m.kind, I m.vocab, I m.width, I m.top, .lst (fl 0) (ints m.cuts), .lst (fl 1) (ints m.embed), .lst (fl 2) (ints m.place), .lst (fl 3) (ints m.mix), .lst (fl 4) (ints m.out), .lst (fl 5) (ints m.soft), .lst (fl 6) (ints m.odds)]] = mdl m.kind m.vocab m.width m.top (fun i => .lst (fl i) (ints (mls m i))) := rfl
  rw [hMB]
  have hBb : (s ++ [mdl m.kind m.vocab m.width m.top (fun i => .lst (fl i) (ints (mls m i)))])[s.length]? = some (mdl m.kind m.vocab m.width m.top (fun i => .lst (fl i) (ints (mls m i)))) := by simp
  have hBl : (s ++ [mdl m.kind m.vocab m.width m.top (fun i => .lst (fl i) (ints (mls m i)))]).length = s.length + 1 := by simp
  have hBs := get_more g.str [mdl m.kind m.vocab m.width m.top (fun i => .lst (fl i) (ints (mls m i)))]
  have hBo : ∀ b, b < s.length → (s ++ [mdl m.kind m.vocab m.width m.top (fun i => .lst (fl i) (ints (mls m i)))])[b]? = s[b]? := fun b hb => List.getElem?_append_left hb
  generalize s ++ [mdl m.kind m.vocab m.width m.top (fun i => .lst (fl i) (ints (mls m i)))] = stB at *
  have g0 : GS (s.length + 1) sb stB stB f xs a := ⟨Same.refl (by omega), hBs, by omega, g.src⟩
  refine flip_g g0 hup (by omega) 3 (by omega) fun b s1 g1 b1 => ?_
  refine range_g g1 hup (by omega) 1 N (by omega) (by omega) (by omega) fun N2 s2 n1 n2 g2 b2 => ?_
  obtain ⟨N2, rfl⟩ : ∃ k : Nat, N2 = (k : Int) := ⟨N2.toNat, by omega⟩
  refine wp_mloop (EInv s.length sb N2 stB f xs (a + 1 + 1) b (lenW m w)) (fun fr _ => N2 - nat (fr.g 15))
    ⟨0, [], [], a + 1 + 1, by omega, rfl, rfl, fun i e he => by simp at he, fun e he => by simp at he, by omega, by omega, g2, by simpa using OutS.nil _ _ _ _, by simp, by simp, by simp, by simp, by simp, by simp⟩ ?_
  rintro fr s3 ⟨k, vs, es, a', hk, hel, hvl, hget, heach, ha1, ha2, g3, o, hdf, z0, z4, z8, z14, z15⟩
  have hMs : s3[s.length]? = some (mdl m.kind m.vocab m.width m.top (fun i => .lst (fl i) (ints (mls m i)))) := (g3.same.get _ (by omega) (by omega)).trans hBb
  have hw1 : IntKind.i64.wrap ((k : Int) + 1) = ((k + 1 : Nat) : Int) := by rw [w64 (n := (k : Int) + 1) (by omega) (by omega)]; push_cast; rfl
  by_cases hlt : k < N2
  · have hMs' := hMs
    simp only [mdl] at hMs'
    have fin : ∀ (e : List Int) (gg : Bool) (a4 : Int) (s4 : St) (v : V) (fr' : Fr), e.length = lenW m w → a' ≤ a4 → a4 ≤ a' + 50 → GS (s.length + 1) sb stB s4 f xs a4 → OutS (s.length + 1) 22 1 s4 v (vs ++ [.lst gg (ints e)]) → fr'.g 7 = v → fr'.df = [] → fr'.g 0 = .ptr sb 1 0 0 → fr'.g 4 = .ptr s.length 1 0 0 → fr'.g 8 = Bo b → fr'.g 14 = I N2 → fr'.g 15 = I ((k + 1 : Nat) : Int) → EInv s.length sb N2 stB f xs (a + 1 + 1) b (lenW m w) fr' s4 := fun e gg a4 s4 v fr' he h1 h2 g4 o4 e7 edf e0 e4 e8 e14 e15 => by
      obtain ⟨q1, q2⟩ := ESnoc hvl hget gg e
      refine ⟨k + 1, vs ++ [.lst gg (ints e)], es ++ [e], a4, hlt, by simp [hel], q1, q2, fun x hx => ?_, by omega, by push_cast; omega, g4, by rw [e7]; exact o4, edf, e0, e4, e8, e14, e15⟩
      rcases List.mem_append.1 hx with hx | hx
      · exact heach x hx
      · simp at hx; subst hx; exact he
    cases b with
    | true =>
      simp [z14, z15, z8, hlt, z0, z4, hMs']
      refine elen_v (fl := fl) (m := m) rfl hw e.w1.2 ?_
      refine words_g g3 hup (by omega) (lenW m w) (by omega) fun gg l s4 a4 hl hlw h1 h2 g4 b4 => ?_
      simp
      have o4 := o.but b4 (by omega)
      refine app_el rfl o4 (by have := g4.same.len; omega) (up_own o4 (by omega) _) (by omega) fun v s5 o5 l5 b5 => ?_
      rw [hw1]
      exact ⟨fin l gg a4 s5 v _ hl h1 (by omega) (g4.to l5 b5) o5 (by simp) (by simp [hdf]) (by simp [z0]) (by simp [z4]) (by simp [z8]) (by simp [z14]) (by simp), by simp; omega⟩
    | false =>
      simp [z14, z15, z8, hlt]
      have hnm : s.length ∉ ownL (fr.g 7) := fun hh => by have := (o.lt _ hh).1; omega
      have hrd := rd_ne (s0 := sb) (v := fr.g 7) (m := s.length) (by omega) hnm
      refine wp_mflat (sb :: ownL (fr.g 7)) [] ?_
      simp [z0, z4, hMs', hrd]
      refine next_g g3 (inW_hd hup) (by omega) m.vocab (by have := e.v1; omega) fun t s4 t0 t1 g4 b4 => ?_
      obtain ⟨t, rfl⟩ : ∃ k : Nat, t = (k : Int) := ⟨t.toNat, by omega⟩
      refine refEntry_v fl e t k (by omega) (by omega) fun gg => ?_
      simp
      have o4 := o.but b4 (by omega)
      have hel4 : (entM m w t (k % r)).length = lenW m w := by
        unfold entM lenW
        split <;> simp [xM]
      refine app_el rfl o4 (by have := g4.same.len; omega) (fun b hb j => inW_mem (by have := (o.lt b hb).1; simp [upM]; omega) (by simp [hb]) j) (by omega) fun v s5 o5 l5 b5 => ?_
      simp [z15, hw1, -Int.natCast_add]
      exact ⟨fin _ gg (a' + 1) s5 v _ hel4 (by omega) (by omega) (g4.to l5 b5) o5 (by simp) (by simp [hdf]) (by simp [z0]) (by simp [z4]) (by simp [z8]) (by simp [z14]) (by simp), by omega⟩
  · obtain rfl : k = N2 := by omega
    simp [z14, z15, hdf]
    have hns := g.same.len
    refine hK (fr.g 7) vs es s3 a' (by omega) (by omega) heach ⟨hvl, hget, by omega, fun e he => by rw [heach e he]; omega⟩ (by omega) (by omega) ⟨⟨by have := g3.same.len; omega, fun b hb hne => (g3.same.get b (by omega) hne).trans ((hBo b (by omega)).trans (g.same.get b hb hne))⟩, g3.str, g.hsb, g.src⟩ (o.down (by omega)) (by have := g3.same.len; omega) fun b hb hne => (g3.same.get b (by omega) hne).trans (hBo b hb)
end
end Go.Proofs.YtadkhechobeccaaGreatDoor.Vm
namespace Go.Proofs.YtadkhechobeccaaGreatDoor.Vm
open Go.RowKit
theorem frz_rows {n b L r t : Nat} {s : St} {zs ys : List V} (hb : n ≤ b) (hst : s[b]? = some (.row t 1 zs)) (hL : zs.length = L) (hy : ys.length = zs.length) (h : ∀ (i : Nat) (x y : V), zs[i]? = some x → ys[i]? = some y → x.cells = [x] ∧ y.cells = [y] ∧ y.leaf = true ∧ y.pl = true ∧ Frz n s x y) : Frz n s (.own b L 0 r) (.lst false (ys.take r)) := by
  have one : ∀ {x : V} {j : Nat} {c : V}, x.cells = [x] → x.cells[j]? = some c → c = x := fun {x j c} h1 h2 => by
    rw [h1] at h2
    match j with
    | 0 => exact (Option.some.inj h2).symm
    | j + 1 => simp at h2
  have := Frz.own (n := n) (st := s) b L 0 r t 1 zs ys hb hst hL hy (fun i x y hx hy => by
    obtain ⟨h1, h2, -⟩ := h i x y hx hy
    rw [h1, h2]; rfl) (fun i x y hx hy j a c ha hc => by
    obtain ⟨h1, h2, h3, h4, h5⟩ := h i x y hx hy
    obtain rfl := one h2 hc
    exact ⟨h3, h4⟩) (fun i x y hx hy j a c ha hc => by
    obtain ⟨h1, h2, h3, h4, h5⟩ := h i x y hx hy
    obtain rfl := one h2 hc
    obtain rfl := one h1 ha
    exact h5)
  simpa using this
theorem EsL.take {vs : List V} {es : List (List Int)} (h : EsL vs es) (r : Nat) : EsL (vs.take r) (es.take r) := by
  refine ⟨by simp [h.len], fun i e he => ?_, by simp; have := h.low.1; omega, fun e he => h.low.2 e (List.mem_of_mem_take he)⟩
  have hi : i < r := by
    have := (List.getElem?_eq_some_iff.1 he).1
    simp at this
    omega
  rw [List.getElem?_take_of_lt hi] at he ⊢
  exact h.get i e he
theorem EsL.set {vs : List V} {es : List (List Int)} (h : EsL vs es) (k : Nat) (g : Bool) (e : List Int) (he : e.length ≤ 1000) : EsL (vs.set k (.lst g (ints e))) (es.set k e) := by
  refine ⟨by simp [h.len], fun i e' hi => ?_, by simp; exact h.low.1, fun x hx => ?_⟩
  · by_cases hik : k = i
    · subst hik
      have hlt : k < es.length := by have := (List.getElem?_eq_some_iff.1 hi).1; simpa using this
      rw [List.getElem?_set_self hlt] at hi
      rw [List.getElem?_set_self (by rw [h.len]; exact hlt)]
      cases hi
      exact ⟨g, rfl⟩
    · rw [List.getElem?_set_ne hik] at hi ⊢
      exact h.get i e' hi
  · rcases List.mem_or_eq_of_mem_set hx with h1 | rfl
    · exact h.low.2 x h1
    · exact he
theorem EsL.el {vs : List V} {es : List (List Int)} (h : EsL vs es) {i : Nat} {x : V} (hx : vs[i]? = some x) : x.cells = [x] ∧ x.leaf = true ∧ x.pl = true := by
  have hi : i < es.length := by rw [← h.len]; exact (List.getElem?_eq_some_iff.1 hx).1
  obtain ⟨g, hg⟩ := h.get i _ (List.getElem?_eq_getElem hi)
  rw [hx] at hg
  cases hg
  exact ⟨rfl, rfl, rfl⟩
def ownN : V → Nat
  | .own _ L _ _ => L
  | _ => 0
@[simp] theorem ownN_own (b L i n : Nat) : ownN (.own b L i n) = L := nr rfl
section
variable {st : St} {f : Bool} {xs : List Int} {a : Int} {T : Tbl} {M : Nat → Bool} {K : V → St → Prop} {Kp : List PanicEntry → St → Prop}
set_option maxRecDepth 10000 in
theorem listed_v {m : LModel} {w r vo : Nat} (fl : Nat → Bool) (e : EntS m w r vo) (sb : Nat) (hs : st[sb]? = some (strm f xs a)) (hM : M sb = true) (src : xs.length ≤ 9223372036854775807 ∧ ∀ x ∈ xs, -9223372036854775808 ≤ x ∧ x ≤ 9223372036854775807) (ha : 0 ≤ a ∧ a ≤ 100000)
    (hK : ∀ b vs es a', EsL vs es → a ≤ a' → a' ≤ a + 2000 → K (.lst b vs) (st.set sb (strm f xs a'))) : CallV Tryz.prog T M 15 [.ptr sb 1 0 0, encM fl m] st K Kp := by
  have hlt : sb < st.length := (List.getElem?_eq_some_iff.1 hs).1
  have hup : upM st.length M sb = true := upM_of hM
  have hL : 1 ≤ lenW m w ∧ lenW m w ≤ 15 := by unfold lenW; have := e.w1; split <;> omega
  refine CallV.give (fun_ok hmix c_listed (le_of rfl) ?_)
  have tail : ∀ (fr : Fr) (s : St) (a1 : Int) (b k : Nat) (vs : List V) (es : List (List Int)), GS st.length sb st s f xs a1 → a ≤ a1 → a1 ≤ a + 1005 → st.length ≤ b → s[b]? = some (.row 22 1 vs) → EsL vs es → 1 ≤ es.length → es.length ≤ 16 → (∀ x ∈ es, x.length = lenW m w) → k < es.length → fr.g 0 = .ptr sb 1 0 0 → fr.g 5 = .own b vs.length 0 vs.length → fr.g 6 = I k → fr.df = [] →
      wpM Tryz.prog T (liftM (upM st.length M)) F_listed.code.r.r.r (Fin F_listed.res (fun v st' => ∃ v', Frz st.length st' v v' ∧ LowSt st st' ∧ K v' (st'.take st.length)) (fun c st' => LowSt st st' ∧ Kp c (st'.take st.length))) fr s := by
    intro fr s a1 b k vs es g ha1 ha2 hb hst hE n1 n16 heach hk z0 z5 z6 hdf
    have fin : ∀ (s' : St) (a' : Int) (v v' : V) (vs' : List V) (es' : List (List Int)) (bb : Bool), GS st.length sb st s' f xs a' → a ≤ a' → a' ≤ a + 2000 → Frz st.length s' v (.lst bb vs') → EsL vs' es' → ∃ v', Frz st.length s' v v' ∧ LowSt st s' ∧ K v' (s'.take st.length) := fun s' a' v v' vs' es' bb g' h1 h2 hf hE' =>
      ⟨_, hf, g'.same.low g'.str (by simp [V.low]), by rw [g'.same.take g'.str]; exact hK bb vs' es' a' hE' h1 h2⟩
    simp [F_listed, MC.r, z0]
    refine next_g g hup (by omega) 14 (by omega) fun z s1 z0' z14 g1 b1 => ?_
    have hst1 := get_but hst b1 (by omega)
    by_cases h0 : z = 0
    · simp [h0, hdf]
      exact fin s1 _ _ (.lst true []) [] [] true g1 (by omega) (by omega) (.same _ rfl) ⟨rfl, fun i e he => by simp at he, by simp, fun e he => by simp at he⟩
    · have hb0 : (z == 0) = false := by simpa using h0
      by_cases h1 : z = 1
      · obtain ⟨gk, hgk⟩ := hE.get k _ (List.getElem?_eq_getElem hk)
        generalize es[k] = ek at hgk
        simp [h1]
        refine wp_mloop (fun fr s' => ∃ (vs' : List V) (es' : List (List Int)) (b' : Nat), GS st.length sb st s' f xs (a1 + 1) ∧ EsL vs' es' ∧ k < es'.length ∧ es'.length ≤ 65 ∧ vs'[k]? = some (.lst gk (ints ek)) ∧ (∀ x ∈ es', x.length ≤ 15) ∧ st.length ≤ b' ∧ s'[b']? = some (.row 22 1 vs') ∧ fr.g 5 = .own b' vs'.length 0 vs'.length ∧ fr.g 0 = .ptr sb 1 0 0 ∧ fr.g 6 = I k ∧ fr.df = []) (fun fr _ => 65 - ownN (fr.g 5))
          ⟨vs, es, b, g1, hE, hk, by omega, hgk, fun x hx => by rw [heach x hx]; omega, hb, hst1, by simp [z5], by simp [z0], by simp [z6], by simp [hdf]⟩ ?_
        clear hst hst1 z0 z5 z6 hdf
        rintro fr s' ⟨vs', es', b', g', hE', hk', hle, hgk', hea', hb', hst', z5, z0, z6, hdf⟩
        have hvl := hE'.len
        by_cases h65 : vs'.length < 65
        · simp [z5, z6, hst', show (vs'.length : Int) < 65 by omega]
          have hgx := (List.getElem?_eq_some_iff.1 hgk').2
          simp [hgx, show k < vs'.length by omega]
          have o : OutS st.length 22 1 s' (.own b' vs'.length 0 vs'.length) vs' := Or.inr ⟨b', hb', hst', rfl⟩
          refine app_el rfl o (by have := g'.same.len; omega) (up_own o (Nat.le_refl _) _) (by omega) fun v s5 o5 l5 b5 => ?_
          rcases o5 with ⟨h5, -⟩ | ⟨b9, hb9, hst9, rfl⟩
          · simp at h5
          · obtain ⟨q1, q2⟩ := ESnoc hE'.len hE'.get gk ek
            have hek : ek.length ≤ 15 := by
              have hlk : k < es'.length := hk'
              obtain ⟨g4, hg4⟩ := hE'.get k _ (List.getElem?_eq_getElem hlk)
              rw [hgk'] at hg4
              have h7 := hea' _ (List.getElem_mem hlk)
              injection (Option.some.inj hg4) with h8 h9
              have h10 : (ints ek).length = (ints es'[k]).length := by rw [h9]
              simp at h10
              omega
            refine ⟨⟨g'.to l5 b5, vs' ++ [.lst gk (ints ek)], es' ++ [ek], ⟨q1, q2, by simp; omega, fun x hx => ?_⟩, by simp; omega, by simp; omega, by rw [List.getElem?_append_left (by omega)]; exact hgk', fun x hx => ?_, b9, hb9, hst9, rfl, z0, hdf⟩, by simp; omega⟩
            · rcases List.mem_append.1 hx with hx | hx
              · have := hea' x hx; omega
              · simp at hx; subst hx; omega
            · rcases List.mem_append.1 hx with hx | hx
              · exact hea' x hx
              · simp at hx; subst hx; exact hek
        · simp [z5, z0, hst', show ¬ (vs'.length : Int) < 65 by omega]
          have e5 : (s' ++ [Blk.row 3 1 [I 64, I 65]])[s'.length]? = some (.row 3 1 (ints [64, 65])) := by simp [ints]
          have hsl := g'.same.len
          refine pick_g (g'.more _) hup (by omega) e5 (by omega) rfl (by simp) fun x s4 hx g4 b4 => ?_
          have hx' : x = 64 ∨ x = 65 := by simpa using hx
          have hst4 := get_but (get_more hst' [Blk.row 3 1 [I 64, I 65]]) b4 (by omega)
          have hx0 : 0 ≤ x := by omega
          simp [hst4, hx0, hdf]
          refine ⟨by omega, ?_⟩
          refine fin s4 _ _ (.lst true []) (vs'.take x.toNat) (es'.take x.toNat) false g4 (by omega) (by omega) (frz_rows (by omega) hst4 rfl rfl fun i x y hx hy => ?_) (hE'.take _)
          rw [hx] at hy
          cases hy
          obtain ⟨q1, q2, q3⟩ := hE'.el hx
          exact ⟨q1, q1, q2, q3, .same _ (V.leaf_pure q3 _)⟩
      · have hb1 : (z == 1) = false := by simpa using h1
        have hs1 := g1.same.len
        have hbl : b < s1.length := (List.getElem?_eq_some_iff.1 hst1).1
        have hup1 : upM st.length M s1.length = true := by simp [upM]; omega
        have hup2 : upM st.length M b = true := by simp [upM]; omega
        have hvl := hE.len
        have fin2 : ∀ (S : St) (a' : Int) (e' : List Int), GS st.length sb st S f xs a' → a ≤ a' → a' ≤ a + 2000 → S[b]? = some (.row 22 1 (vs.set k (.own s1.length e'.length 0 e'.length))) → S[s1.length]? = some (.row 3 1 (ints e')) → e'.length ≤ 1000 → ∃ v', Frz st.length S (.own b vs.length 0 vs.length) v' ∧ LowSt st S ∧ K v' (S.take st.length) := fun S a' e' g' q1 q2 q3 q4 q5 => by
          refine fin S a' _ (.lst true []) ((vs.set k (.lst false (ints e'))).take vs.length) ((es.set k e').take vs.length) false g' q1 q2 (frz_rows hb q3 (by simp) (by simp) fun i x y hx hy => ?_) ((hE.set k false e' q5).take _)
          by_cases hik : k = i
          · subst hik
            rw [List.getElem?_set_self (by omega)] at hx hy
            cases hx
            cases hy
            have hfr := Frz.row (n := st.length) s1.length e'.length 0 e'.length 3 1 (ints e') (by omega) q4 (by simp) (ints_cells _)
            refine ⟨rfl, rfl, rfl, rfl, ?_⟩
            have ht : List.take e'.length (List.drop 0 (ints e')) = ints e' := by rw [List.drop_zero]; exact List.take_of_length_le (by simp)
            rw [ht] at hfr
            exact hfr
          · rw [List.getElem?_set_ne hik] at hx hy
            rw [hx] at hy
            cases hy
            obtain ⟨r1, r2, r3⟩ := hE.el hx
            exact ⟨r1, r1, r2, r3, .same _ (V.leaf_pure r3 _)⟩
        by_cases h2 : z = 2
        · obtain ⟨gk, hgk⟩ := hE.get k _ (List.getElem?_eq_getElem hk)
          have hek := heach _ (List.getElem_mem hk)
          generalize es[k] = ek at hgk hek
          have hgx := (List.getElem?_eq_some_iff.1 hgk).2
          simp [h2, z5, z6, hst1, hgx, show k < vs.length by omega]
          refine clone_v gk ek (by intro h; rw [h] at hek; simp at hek; omega) (by omega) ?_
          have hst2 := fun x => get_more hst1 [x]
          have hea : ints ek ++ [V.val (Value.int IntKind.i64 0)] = ints (ek ++ [0]) := by rw [ints_append]; rfl
          have hupd : ∀ u, upd (V.lst gk (ints ek)) 0 u = u := fun u => rfl
          simp [app_eq, hup1, hea, hst2, hup2, hgx, hdf, show k < vs.length by omega, hupd]
          refine ⟨⟨by omega, by omega⟩, ?_⟩
          have hl1 : (ek ++ [(0 : Int)]).length = ek.length + 1 := by simp
          exact fin2 _ (a1 + 1) (ek ++ [0]) ((g1.more _).set hb _) (by omega) (by omega) (by rw [hl1]; exact get_set (hst2 _) _) (get_ne (by simp) (by omega) _) (by simp; omega)
        · have hb2 : (z == 2) = false := by simpa using h2
          by_cases h3 : z = 3
          · obtain ⟨gk, hgk⟩ := hE.get k _ (List.getElem?_eq_getElem hk)
            have hek := heach _ (List.getElem_mem hk)
            generalize es[k] = ek at hgk hek
            have hgx := (List.getElem?_eq_some_iff.1 hgk).2
            simp [h3, z5, z6, hst1, hgx, show k < vs.length by omega]
            refine clone_v gk ek (by intro h; rw [h] at hek; simp at hek; omega) (by omega) ?_
            have hst2 := fun x => get_more hst1 [x]
            have hupd : ∀ u, upd (V.lst gk (ints ek)) 0 u = u := fun u => rfl
            simp [hst2, hup2, hgx, show k < vs.length by omega, hupd]
            have hgs := (g1.more [.row 3 1 (ints ek)]).set hb (.row 22 1 (vs.set k (.own s1.length ek.length 0 ek.length)))
            have hSb : ((s1 ++ [Blk.row 3 1 (ints ek)]).set b (.row 22 1 (vs.set k (.own s1.length ek.length 0 ek.length))))[b]? = some (.row 22 1 (vs.set k (.own s1.length ek.length 0 ek.length))) := get_set (hst2 _) _
            have hSe : ((s1 ++ [Blk.row 3 1 (ints ek)]).set b (.row 22 1 (vs.set k (.own s1.length ek.length 0 ek.length))))[s1.length]? = some (.row 3 1 (ints ek)) := get_ne (by simp) (by omega) _
            generalize (s1 ++ [Blk.row 3 1 (ints ek)]).set b (.row 22 1 (vs.set k (.own s1.length ek.length 0 ek.length))) = S3 at *
            refine wp_mtail [sb] [] ?_
            have hrd : ∀ j, rdW [sb] [] b j = true := fun j => by simp [rdW]; omega
            have hvs : (vs.set k (V.own s1.length ek.length 0 ek.length))[k]? = some (V.own s1.length ek.length 0 ek.length) := List.getElem?_set_self (by omega)
            simp [z0, z5, z6, hSb, hrd]
            rw [hvs]
            have hSl : sb < S3.length := (List.getElem?_eq_some_iff.1 hgs.str).1
            simp [hSe, show 0 < ek.length by omega, show k < vs.length by omega]
            have e5 : (S3 ++ [Blk.row 3 1 [I 2147483648, I (-2147483649)]])[S3.length]? = some (.row 3 1 (ints [2147483648, -2147483649])) := by simp [ints]
            refine pick_g (hgs.more _) (inW_hd hup) (by omega) e5 (by omega) rfl (by simp) fun x s4 hx g4 b4 => ?_
            have hSb4 := get_but (get_more hSb [Blk.row 3 1 [I 2147483648, I (-2147483649)]]) b4 (by omega)
            have hSe4 := get_but (get_more hSe [Blk.row 3 1 [I 2147483648, I (-2147483649)]]) b4 (by omega)
            obtain ⟨e0, t0, rfl⟩ : ∃ e0 t0, ek = e0 :: t0 := by
              cases ek with
              | nil => simp at hek; omega
              | cons e0 t0 => exact ⟨e0, t0, rfl⟩
            have hin : ints (e0 :: t0) = I e0 :: ints t0 := rfl
            rw [hin] at hSe4
            simp [hSe4, hup1, hdf]
            exact fin2 _ (a1 + 1 + 1) (x :: t0) (g4.set (by omega) _) (by omega) (by omega) (get_ne hSb4 (by omega) _) (get_set hSe4 _) (by simp at hek ⊢; omega)
          · have hb3 : (z == 3) = false := by simpa using h3
            simp [hb0, hb1, hb2, hb3, z5, hdf]
            refine fin s1 _ _ (.lst true []) (vs.take vs.length) (es.take vs.length) false g1 (by omega) (by omega) (frz_rows (by omega) hst1 rfl rfl fun i x y hx hy => ?_) (hE.take _)
            rw [hx] at hy
            cases hy
            obtain ⟨q1, q2, q3⟩ := hE.el hx
            exact ⟨q1, q1, q2, q3, .same _ (V.leaf_pure q3 _)⟩
  have e3 : F_listed.code = .seq F_listed.code.l (.seq F_listed.code.r.l (.seq F_listed.code.r.r.l F_listed.code.r.r.r)) := rfl
  generalize F_listed.code.r.r.r = c3 at e3 tail
  generalize Fin F_listed.res _ _ = QQ at tail ⊢
  rw [e3]
  have hMB : Blk.row 27 11 [V.agg [I m.kind, I m.vocab, I m.width, I m.top, .lst (fl 0) (ints m.cuts), .lst (fl 1) (ints m.embed), .lst (fl 2) (ints m.place), .lst (fl 3) (ints m.mix), .lst (fl 4) (ints m.out), .lst (fl 5) (ints m.soft), .lst (fl 6) (ints m.odds)]] = mdl m.kind m.vocab m.width m.top (fun i => .lst (fl i) (ints (mls m i))) := rfl
  have g00 : GS st.length sb st st f xs a := ⟨Same.refl (Nat.le_refl _), hs, hlt, src⟩
  simp [F_listed, MC.l, MC.r, encM]
  rw [hMB]
  have hMb : (st ++ [mdl m.kind m.vocab m.width m.top (fun i => .lst (fl i) (ints (mls m i)))])[st.length]? = some (mdl m.kind m.vocab m.width m.top (fun i => .lst (fl i) (ints (mls m i)))) := by simp
  have g1 := g00.more [mdl m.kind m.vocab m.width m.top (fun i => .lst (fl i) (ints (mls m i)))]
  have hl1 : (st ++ [mdl m.kind m.vocab m.width m.top (fun i => .lst (fl i) (ints (mls m i)))]).length = st.length + 1 := by simp
  generalize st ++ [mdl m.kind m.vocab m.width m.top (fun i => .lst (fl i) (ints (mls m i)))] = s1 at *
  have hMs := hMb
  simp only [mdl] at hMs
  refine wp_mflat [sb] [] ?_
  have hrd : ∀ j, rdW [sb] [] st.length j = true := fun j => by simp [rdW]; omega
  simp [hMs, hrd]
  have e5 : (s1 ++ [Blk.row 3 1 [I 3, I 8, I 16]])[s1.length]? = some (.row 3 1 (ints [3, 8, 16])) := by simp [ints]
  refine pick_g (g1.more _) (inW_hd hup) (by omega) e5 (by omega) rfl (by simp) fun N s2 hN g2 b2 => ?_
  have hN' : N = 3 ∨ N = 8 ∨ N = 16 := by simpa using hN
  obtain ⟨N, rfl⟩ : ∃ k : Nat, N = (k : Int) := ⟨N.toNat, by omega⟩
  have hl2 : s2.length = st.length + 2 := by rw [b2.1]; simp; omega
  refine entries_g fl e g2 (inW_hd hup) (by omega) N (by omega) fun v vs es s3 a3 n1 n16 heach hE ha3 ha4 g3 o3 hl3 hk3 => ?_
  rcases o3 with ⟨h5, -⟩ | ⟨b, hb, hst, rfl⟩
  · have := hE.len
    rw [h5] at this
    simp at this
    omega
  · simp [hst]
    have hvl := hE.len
    refine next_g g3 hup (by omega) vs.length (by omega) fun k s4 k0 k1 g4 b4 => ?_
    obtain ⟨k, rfl⟩ : ∃ x : Nat, k = (x : Int) := ⟨k.toNat, by omega⟩
    exact tail _ s4 (a3 + 1) b k vs es g4 (by omega) (by omega) (by omega) (get_but hst b4 (by omega)) hE n1 n16 heach (by omega) (by simp) (by simp) (by simp) (by simp)
end
end Go.Proofs.YtadkhechobeccaaGreatDoor.Vm
namespace Go.Proofs.YtadkhechobeccaaGreatDoor.Vm
open Go.RowKit
theorem chk_ok {m : LModel} (fl : Nat → Bool) (hg : GenM m) : ChkOk fl m := fun _T _M _s _K _Kp h => check_m fl m (GenM.lb hg) (by omega) (by rw [GenM.ok hg]; exact h)
theorem wgL_len (m : LModel) (sc : List Int) (vo : Nat) : (wgL m sc vo).length = vo := wgtM_len _ _ _ _ _
end Go.Proofs.YtadkhechobeccaaGreatDoor.Vm
namespace Go.Proofs.YtadkhechobeccaaGreatDoor.Vm
open Go.RowKit
section
variable {n sb : Nat} {st s : St} {f : Bool} {xs : List Int} {a : Int} {T : Tbl} {M : Nat → Bool} {K : V → St → Prop} {Kp : List PanicEntry → St → Prop}
theorem listed_g {m : LModel} {w r vo : Nat} (fl : Nat → Bool) (e : EntS m w r vo) (g : GS n sb st s f xs a) (hM : M sb = true) (ha : 0 ≤ a ∧ a ≤ 100000) (hK : ∀ b vs es s' a', EsL vs es → a ≤ a' → a' ≤ a + 2000 → GS n sb st s' f xs a' → But sb s s' → K (.lst b vs) s') : CallV Tryz.prog T M 15 [.ptr sb 1 0 0, encM fl m] s K Kp :=
  listed_v fl e sb g.str hM g.src ha fun b vs es a' h1 h2 h3 => hK b vs es _ a' h1 h2 h3 (g.next _) (But.set _ _ _)
end
section
variable {M : Nat → Bool}
set_option maxRecDepth 10000 in
theorem nextsL_v (f : Bool) (xs : List Int) (src : xs.length ≤ 9223372036854775807 ∧ ∀ x ∈ xs, -9223372036854775808 ≤ x ∧ x ≤ 9223372036854775807) (draw : Int) (hdr : -9223372036854775808 ≤ draw ∧ draw ≤ 9223372036854775807) : CallV Tryz.prog TW M 4 [.lst f (ints xs), I draw] [] (fun v _ => v = Bo true) (fun _ _ => False) := by
  refine fun_ok hmix c_lawNexts (le_of rfl) ?_
  have last : ∀ (draw : Int) (m : LModel) (fl : Nat → Bool) (s : St) (p : Nat) (fr : Fr) (w r vo q : Nat) (b : Bool) (vs : List V) (es : List (List Int)), GenM m → m.vocab = (vo : Int) → ScS m w r vo q → EsV vs es (lenW m w) → 0 ≤ draw ∧ draw < 4294967296 → s[p]? = some (mdl m.kind m.vocab m.width m.top (fun i => .lst (fl i) (ints (mls m i)))) → fr.g 1 = I draw → fr.g 6 = .ptr p 1 0 0 → fr.g 7 = .lst b vs → fr.df = [] → fr.g 9 = I (nxtM m w q vo es draw) → fr.g 10 = I 0 →
      wpM Tryz.prog TW (liftM (upM 0 M)) F_lawNexts.code.r.r.r.r.r.r.r.r.r (Fin F_lawNexts.res (fun v _ => v = Bo true) (fun _ _ => False)) fr s := fun draw m fl s p fr w r vo q b vs es hg hv e hE hd hs z1 z6 z7 zdf z9 z10 => by
    simp only [mdl] at hs
    have hv2 := hg.vocab
    simp [F_lawNexts, MC.r]
    refine wp_mflat [] [] ?_
    refine steps_cut 6 fun L hL => ?_
    simp
    refine works_m ?_
    simp [z10]
    rw [hL]
    simp [z6, z7, z9, z1, hs]
    refine refScores_v fl e hE fun g2 => ?_
    refine refWeights_v2 fl hg hv _ (Rd.lst _ _ _) (sco_len _ _ _ _ _) (sco_word _ _ _ _ _) fun g3 => ?_
    refine sampled_v _ _ _ (wgt_rng hg _ _ _ _) (by rw [wgL_len]; omega) hd ?_
    simp [nxtM, zdf]
  have tail8 : ∀ (F draw : Int) (m : LModel) (fl : Nat → Bool) (s : St) (p : Nat) (fr : Fr) (w r vo q : Nat) (b : Bool) (vs : List V) (es : List (List Int)), GenM m → m.vocab = (vo : Int) → ScS m w r vo q → s[p]? = some (mdl m.kind m.vocab m.width m.top (fun i => .lst (fl i) (ints (mls m i)))) → fr.g 1 = I draw → fr.g 6 = .ptr p 1 0 0 → fr.g 7 = .lst b vs → fr.df = [] → fr.g 8 = I F → fr.g 10 = I F →
      ((F ≠ 0 ∧ fr.g 9 = I 0) ∨ (F = 0 ∧ EsV vs es (lenW m w) ∧ (0 ≤ draw ∧ draw < 4294967296) ∧ fr.g 9 = I (nxtM m w q vo es draw))) →
      wpM Tryz.prog TW (liftM (upM 0 M)) F_lawNexts.code.r.r.r.r.r.r.r.r (Fin F_lawNexts.res (fun v _ => v = Bo true) (fun _ _ => False)) fr s := fun F draw m fl s p fr w r vo q b vs es hg hv e hs z1 z6 z7 zdf z8 z10 hc => by
    have e1 : F_lawNexts.code.r.r.r.r.r.r.r.r = .seq F_lawNexts.code.r.r.r.r.r.r.r.r.l F_lawNexts.code.r.r.r.r.r.r.r.r.r := rfl
    rw [e1, wp_mseq]
    generalize F_lawNexts.code.r.r.r.r.r.r.r.r.r = c9 at last ⊢
    rcases hc with ⟨hF, z9⟩ | ⟨rfl, hE, hd, z9⟩
    · have hb1 : (F != 0) = true := by simpa using hF
      simp [F_lawNexts, MC.l, MC.r, z8, hb1]
      refine works_m ?_
      simp [z10, z9, zdf]
    · simp [F_lawNexts, MC.l, MC.r, z8]
      exact last draw m fl s p _ w r vo q b vs es hg hv e hE hd hs (by simp [z1]) (by simp [z6]) (by simp [z7]) (by simp [zdf]) (by simp [z9]) (by simp [z10])
  clear last
  have tail7 : ∀ (F draw : Int) (m : LModel) (fl : Nat → Bool) (s : St) (p : Nat) (fr : Fr) (w r vo q : Nat) (b : Bool) (vs : List V) (es : List (List Int)), GenM m → m.vocab = (vo : Int) → ScS m w r vo q → EsL vs es → s[p]? = some (mdl m.kind m.vocab m.width m.top (fun i => .lst (fl i) (ints (mls m i)))) → fr.g 1 = I draw → fr.g 6 = .ptr p 1 0 0 → fr.g 7 = .lst b vs → fr.df = [] → fr.g 8 = I F →
      ((efM (lenW m w) es ≠ 0 ∧ F = efM (lenW m w) es) ∨ (efM (lenW m w) es = 0 ∧ F = 1 ∧ inB 0 4294967295 draw = false) ∨ (efM (lenW m w) es = 0 ∧ F = 0 ∧ inB 0 4294967295 draw = true)) →
      wpM Tryz.prog TW (liftM (upM 0 M)) F_lawNexts.code.r.r.r.r.r.r.r (Fin F_lawNexts.res (fun v _ => v = Bo true) (fun _ _ => False)) fr s := fun F draw m fl s p fr w r vo q b vs es hg hv e hE hs z1 z6 z7 zdf z8 hc => by
    have e1 : F_lawNexts.code.r.r.r.r.r.r.r = .seq F_lawNexts.code.r.r.r.r.r.r.r.l F_lawNexts.code.r.r.r.r.r.r.r.r := rfl
    rw [e1, wp_mseq]
    generalize F_lawNexts.code.r.r.r.r.r.r.r.r = c8 at tail8 ⊢
    have hs' := hs
    simp only [mdl] at hs'
    have hZ : EntOk fl m b vs (efM (lenW m w) es) := fun T M s K Kp h => entriesOK_v fl e.hw e.w1.2 hE h
    simp [F_lawNexts, MC.l, MC.r, z6, z7, z1, hs']
    refine mNext_v (z := efM (lenW m w) es) fl (chk_ok fl hg) hg e hv hZ (fun h => hE.esV h) (fun h => ?_) (fun h h2 => ?_) (fun h h2 l hl => ?_)
    · rcases hc with ⟨-, rfl⟩ | ⟨h0, -⟩ | ⟨h0, -⟩
      · simp
        exact tail8 _ draw m fl s p _ w r vo q b vs es hg hv e hs (by simp [z1]) (by simp [z6]) (by simp [z7]) (by simp [zdf]) (by simp [z8]) (by simp) (Or.inl ⟨h, by simp⟩)
      · exact absurd h0 h
      · exact absurd h0 h
    · rcases hc with ⟨h0, -⟩ | ⟨-, rfl, -⟩ | ⟨-, -, h3⟩
      · exact absurd h h0
      · simp
        exact tail8 1 draw m fl s p _ w r vo q b vs es hg hv e hs (by simp [z1]) (by simp [z6]) (by simp [z7]) (by simp [zdf]) (by simp [z8]) (by simp) (Or.inl ⟨by omega, by simp⟩)
      · rw [h3] at h2; cases h2
    · rcases hc with ⟨h0, -⟩ | ⟨-, -, h3⟩ | ⟨-, rfl, -⟩
      · exact absurd h h0
      · rw [h3] at h2; cases h2
      · simp
        rw [hl.eq]
        have hd : 0 ≤ draw ∧ draw < 4294967296 := by simp [inB] at h2; omega
        exact tail8 0 draw m fl s p _ w r vo q b vs es hg hv e hs (by simp [z1]) (by simp [z6]) (by simp [z7]) (by simp [zdf]) (by simp [z8]) (by simp) (Or.inr ⟨rfl, hE.esV h, hd, by simp [nxtM, wgL]⟩)
  clear tail8
  have tail5 : ∀ (draw : Int) (m : LModel) (fl : Nat → Bool) (s : St) (p : Nat) (fr : Fr) (w r vo q : Nat) (b : Bool) (vs : List V) (es : List (List Int)), GenM m → m.vocab = (vo : Int) → ScS m w r vo q → EsL vs es → s[p]? = some (mdl m.kind m.vocab m.width m.top (fun i => .lst (fl i) (ints (mls m i)))) → fr.g 1 = I draw → fr.g 6 = .ptr p 1 0 0 → fr.g 7 = .lst b vs → fr.df = [] →
      wpM Tryz.prog TW (liftM (upM 0 M)) F_lawNexts.code.r.r.r.r.r (Fin F_lawNexts.res (fun v _ => v = Bo true) (fun _ _ => False)) fr s := fun draw m fl s p fr w r vo q b vs es hg hv e hE hs z1 z6 z7 zdf => by
    have e1 : F_lawNexts.code.r.r.r.r.r = .seq F_lawNexts.code.r.r.r.r.r.l (.seq F_lawNexts.code.r.r.r.r.r.r.l F_lawNexts.code.r.r.r.r.r.r.r) := rfl
    rw [e1, wp_mseq]
    generalize F_lawNexts.code.r.r.r.r.r.r.r = c7 at tail7 ⊢
    have hs' := hs
    simp only [mdl] at hs'
    simp [F_lawNexts, MC.l, MC.r, z6, z7, hs']
    refine entryFault_v fl e.hw e.w1.2 hE ?_
    by_cases h0 : efM (lenW m w) es = 0
    · by_cases h1 : draw < 0
      · simp [h0, z1, h1]
        exact tail7 1 draw m fl s p _ w r vo q b vs es hg hv e hE hs (by simp [z1]) (by simp [z6]) (by simp [z7]) (by simp [zdf]) (by simp) (Or.inr (Or.inl ⟨h0, rfl, by simp [inB]; omega⟩))
      · by_cases h2 : 4294967296 ≤ draw
        · simp [h0, z1, h1, h2]
          exact tail7 1 draw m fl s p _ w r vo q b vs es hg hv e hE hs (by simp [z1]) (by simp [z6]) (by simp [z7]) (by simp [zdf]) (by simp) (Or.inr (Or.inl ⟨h0, rfl, by simp [inB]; omega⟩))
        · simp [h0, z1, h1, h2]
          exact tail7 0 draw m fl s p _ w r vo q b vs es hg hv e hE hs (by simp [z1]) (by simp [z6]) (by simp [z7]) (by simp [zdf]) (by simp) (Or.inr (Or.inr ⟨h0, rfl, by simp [inB]; omega⟩))
    · have hb : (efM (lenW m w) es == 0) = false := by simpa using h0
      simp [hb]
      exact tail7 _ draw m fl s p _ w r vo q b vs es hg hv e hE hs (by simp [z1]) (by simp [z6]) (by simp [z7]) (by simp [zdf]) (by simp) (Or.inl ⟨h0, rfl⟩)
  clear tail7
  have e0 : F_lawNexts.code = .seq F_lawNexts.code.l (.seq F_lawNexts.code.r.l (.seq F_lawNexts.code.r.r.l (.seq F_lawNexts.code.r.r.r.l (.seq F_lawNexts.code.r.r.r.r.l F_lawNexts.code.r.r.r.r.r)))) := rfl
  generalize F_lawNexts.code.r.r.r.r.r = c5 at tail5 e0
  rw [e0]
  simp [F_lawNexts, MC.l, MC.r]
  have g0 : GS 1 0 [strm f xs 0] [strm f xs 0] f xs 0 := ⟨Same.refl (Nat.le_refl _), rfl, by omega, src⟩
  refine gmodel_g g0 (by simp [upM]) (by omega) fun fl m s1 a1 hg e1 e2 g1 b1 => ?_
  have hl1 : s1.length = 1 := b1.1
  have hv2 := hg.vocab
  obtain ⟨w, r, vo, q, e⟩ := GenM.scS hg
  simp [encM]
  refine ⟨by simp [upM], ?_⟩
  have m2 : (s1 ++ [mdl m.kind m.vocab m.width m.top (fun i => .lst (fl i) (ints (mls m i)))])[s1.length]? = some (mdl m.kind m.vocab m.width m.top (fun i => .lst (fl i) (ints (mls m i)))) := by simp
  refine listed_g fl e.toEntS (g1.more [mdl m.kind m.vocab m.width m.top (fun i => .lst (fl i) (ints (mls m i)))]) (by simp [upM]) (by omega) fun b vs es s3 a3 hE h1 h2 g3 b3 => ?_
  have m3 := get_but m2 b3 (by omega)
  refine flip_g g3 (by simp [upM]) (by omega) 8 (by omega) fun c s4 g4 b4 => ?_
  have m4 := get_but m3 b4 (by omega)
  cases c with
  | true =>
    simp
    exact tail5 draw m fl s4 s1.length _ w r vo q b vs es hg e.hv e hE m4 (by simp) (by simp) (by simp) (by simp)
  | false =>
    simp
    refine below_v _ _ hdr (by omega) fun d _ _ => ?_
    exact tail5 d m fl s4 s1.length _ w r vo q b vs es hg e.hv e hE m4 (by simp) (by simp) (by simp) (by simp)
theorem nexts_law (v : Value) (xs : List Int) (d : Int) (w : World) (h : LI w v xs) (hd : -9223372036854775808 ≤ d ∧ d ≤ 9223372036854775807) (ht : Tabs w) : Calls Tryz.prog 4 #[v, .int .i64 d] w fun e w' => e = .returned (.bool true) ∧ Below w.heap.size w w' :=
  law_of (us := [v, .int .i64 d]) (M := fun _ => true) (nextsL_v false xs ⟨h.2.1, h.2.2⟩ d hd) ⟨fun g x hx => (by cases hx), ht.1, ht⟩ (Pw.cons (.pure (prel_li h)) (Pw.cons (.pure (.val _)) Pw.nil))
end
end Go.Proofs.YtadkhechobeccaaGreatDoor.Vm
