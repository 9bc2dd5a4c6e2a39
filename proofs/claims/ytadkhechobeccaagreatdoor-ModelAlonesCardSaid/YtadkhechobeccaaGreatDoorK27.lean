/-
  The reference's AloneOf, run by the value machine.
  Requests are drawn, run by the value machine.
  maybe, run by the value machine; the reference's check of a model as its call.
  ModelAlones: the law, walked by the value machine.
-/
import Derived.Test.YtadkhechobeccaaGreatDoorK25
import Derived.Test.YtadkhechobeccaaGreatDoorK08
import Derived.Test.YtadkhechobeccaaGreatDoorK26
import Derived.Test.YtadkhechobeccaaGreatDoorK07
namespace Go.Proofs.YtadkhechobeccaaGreatDoor.Vm
open Go.RowKit
section
variable {M : Nat → Bool} {st : St} {K : V → St → Prop} {Kp : List PanicEntry → St → Prop}
set_option maxHeartbeats 4000000 in
set_option maxRecDepth 10000 in
theorem refAlone_v {w r vo q mo : Nat} {m : LModel} (fl : Nat → Bool) (f : Bool) (p : List Int) (id dl seed : Int) (e : ScS m w r vo q) (hgm : GenM m) (hm1 : 1 ≤ mo ∧ mo ≤ 32) (hp1 : 1 ≤ p.length ∧ p.length ≤ 32) (hpe : ∀ (j : Nat) (x : Int), p[j]? = some x → 0 ≤ x ∧ x < vo)
    (hK : ∀ g N, RunN (aT m w q r vo seed p) mo N → K (.lst g (ints (mapR N (aT m w q r vo seed p)))) st) : CallV Tryz.prog TW M 27 [encM fl m, encR f p id dl mo seed] st K Kp := by
  refine CallV.give (fun_ok hmix c_refAlone (le_of rfl) ?_)
  have hvv := e.v1
  have hr1 := e.r1
  have hS0l : (st ++ [mdl m.kind m.vocab m.width m.top (fun i => .lst (fl i) (ints (mls m i))), .row 51 5 [.agg [I id, I dl, .lst f (ints p), I (mo : Int), I seed]]]).length = st.length + 2 := by simp
  have hMb0 : (st ++ [mdl m.kind m.vocab m.width m.top (fun i => .lst (fl i) (ints (mls m i))), .row 51 5 [.agg [I id, I dl, .lst f (ints p), I (mo : Int), I seed]]])[st.length]? = some (mdl m.kind m.vocab m.width m.top (fun i => .lst (fl i) (ints (mls m i)))) := by simp
  have hRb0 : (st ++ [mdl m.kind m.vocab m.width m.top (fun i => .lst (fl i) (ints (mls m i))), .row 51 5 [.agg [I id, I dl, .lst f (ints p), I (mo : Int), I seed]]])[st.length + 1]? = some (.row 51 5 [.agg [I id, I dl, .lst f (ints p), I (mo : Int), I seed]]) := by simp
  generalize hS0 : st ++ [mdl m.kind m.vocab m.width m.top (fun i => .lst (fl i) (ints (mls m i))), .row 51 5 [.agg [I id, I dl, .lst f (ints p), I (mo : Int), I seed]]] = s0 at *
  generalize hA : aT m w q r vo seed p = A at *
  have fin : ∀ (fr : Fr) (s : St) (N : Nat), Keep0 s0 s → OutS s0.length 3 1 s (fr.g 8) (ints (mapR N A)) → RunN A mo N → fr.df = [] → wpM Tryz.prog TW (liftM (upM st.length M)) F_refAlone.code.r.r.r.r.r (Fin F_refAlone.res (fun v st' => ∃ v', Frz st.length st' v v' ∧ LowSt st st' ∧ K v' (st'.take st.length)) (fun c st' => LowSt st st' ∧ Kp c (st'.take st.length))) fr s := fun fr s N hkp o hN hdf => by
    simp [F_refAlone, MC.r, hdf]
    obtain ⟨g, hfr⟩ := (o.down (show st.length ≤ s0.length by omega)).frz (ints_cells _)
    rw [← hS0] at hkp
    exact ⟨_, hfr, hkp.low, by rw [hkp.take]; exact hK g N hN⟩
  clear hK
  have two : ∀ (fr : Fr) (s : St) (vs : List V), Keep0 s0 s → OutS s0.length 22 1 s (fr.g 5) vs → EsP vs (aE m w q r vo seed p 0) → fr.df = [] → fr.g 2 = .ptr st.length 1 0 0 → fr.g 3 = .ptr (st.length + 1) 1 0 0 → wpM Tryz.prog TW (liftM (upM st.length M)) F_refAlone.code.r.r.r (Fin F_refAlone.res (fun v st' => ∃ v', Frz st.length st' v v' ∧ LowSt st st' ∧ K v' (st'.take st.length)) (fun c st' => LowSt st st' ∧ Kp c (st'.take st.length))) fr s := fun fr s vs hkp o7 hE hdf z2 z3 => by
    have e2 : F_refAlone.code.r.r.r = .seq F_refAlone.code.r.r.r.l (.seq F_refAlone.code.r.r.r.r.l F_refAlone.code.r.r.r.r.r) := rfl
    generalize F_refAlone.code.r.r.r.r.r = c6 at fin e2
    rw [e2]
    have hRs := hkp.at_ hRb0
    simp [F_refAlone, MC.l, MC.r, z3, hRs]
    refine wp_mloop (fun fr s => ∃ (k : Nat) (vs : List V), k ≤ mo ∧ Keep0 s0 s ∧ OutS s0.length 22 1 s (fr.g 5) vs ∧ EsP vs (aE m w q r vo seed p k) ∧ OutS s0.length 3 1 s (fr.g 8) (ints (mapR k A)) ∧ (∀ j, j < k → A j ≠ 0) ∧ fr.df = [] ∧ fr.g 2 = .ptr st.length 1 0 0 ∧ fr.g 3 = .ptr (st.length + 1) 1 0 0 ∧ fr.g 28 = I mo ∧ fr.g 29 = I k) (fun fr _ => mo - nat (fr.g 29))
      ⟨0, vs, by omega, hkp, by simpa using o7, hE, by simpa [mapR, ints] using OutS.nil _ _ _ _, by simp, by simp [hdf], by simp [z2], by simp [z3], by simp, by simp⟩ ?_
    clear hRs hkp o7 hE hdf z2 z3
    rintro fr s ⟨k, vs, hk, hkp, o7, hE, o10, hpre, hdf, z2, z3, z28, z29⟩
    by_cases hlt : k < mo
    · have hMs := hkp.at_ hMb0
      have hRs := hkp.at_ hRb0
      simp only [mdl] at hMs
      have hlen := hE.len
      rw [aE_len] at hlen
      have hsl := hkp.len
      obtain ⟨b7, hb7, hst7, z5⟩ : ∃ b7, s0.length ≤ b7 ∧ s[b7]? = some (.row 22 1 vs) ∧ fr.g 5 = .own b7 vs.length 0 vs.length := by
        rcases o7 with ⟨h5, -⟩ | h
        · rw [h5] at hlen; simp at hlen; omega
        · exact h
      have hV : EsV vs (aE m w q r vo seed p k) (lenW m w) := ⟨hE.len, hE.get, aE_each _ _ _ _ _ _ _ _, by rw [aE_len]; omega⟩
      simp [z28, z29, hlt]
      refine wp_mflat [] [] ?_
      simp [z2, z3, z5, hMs, hRs]
      refine refScores_o fl e hst7 hV ?_
      refine refWeights_v ranked_ok fl hgm e.hv (scoM m w q vo (aE m w q r vo seed p k)) (Rd.lst _ _ _) (sco_len _ _ _ _ _) (sco_word _ _ _ _ _) fun g2 l hl => ?_
      refine drawn_v _ _ ?_
      have hrg := smpM_rng (ws := wgtM m (scoM m w q vo (aE m w q r vo seed p k)) vo m.top.toNat l) (wgt_rng hgm _ _ _ _) (wgt_pos hgm (sco_len _ _ _ _ _) (by omega) (by have := hgm.top; omega) hl) (drawV_rng seed k)
      rw [wgtM_len] at hrg
      refine sampled_v _ _ _ (wgt_rng hgm _ _ _ _) (by rw [wgtM_len]; omega) (drawV_rng _ _) ?_
      have hT : smpM (wgtM m (scoM m w q vo (aE m w q r vo seed p k)) vo m.top.toNat l) (drawV seed k) = A k := by rw [← hA, hl.eq]; rfl
      rw [hT] at hrg ⊢
      obtain ⟨h1, h2⟩ := hrg
      simp
      refine app_out (o10.more [.row 3 1 [I (A k)]]) (by simp; omega) (news := [I (A k)]) (by simp) (by simp) (Or.inl (by simp)) (fun b L hb _ j => by simp [upM]; omega) (by simp; omega) (by simp; omega) fun v' s' o' hl' hb' hk' hn' => ?_
      have hkp' : Keep0 s0 s' := (hkp.more _).trans hl' hb'
      have hst7' : s'[b7]? = some (.row 22 1 vs) := by
        rw [hk' b7 (by have := (List.getElem?_eq_some_iff.1 hst7).1; simp; omega) ((o7.two o10 (by decide)) b7 (by rw [z5]; simp [ownL]))]
        exact get_more hst7 _
      have o10' : OutS s0.length 3 1 s' v' (ints (mapR (k + 1) A)) := by rw [mapR_succ, ints_append]; exact o'
      have hMs' := hkp'.at_ hMb0
      have hRs' := hkp'.at_ hRb0
      simp only [mdl] at hMs'
      have hw1 : IntKind.i64.wrap ((k : Int) + 1) = ((k + 1 : Nat) : Int) := by rw [w64 (n := (k : Int) + 1) (by omega) (by omega)]; push_cast; rfl
      by_cases hz : A k = 0
      · simp [hz]
        exact fin _ s' (k + 1) hkp' (by simpa using o10') ⟨by omega, by omega, fun j hj => hpre j (by omega), Or.inr hz⟩ (by simp [hdf])
      · have hzb : (A k == 0) = false := by simpa using hz
        obtain ⟨t, ht⟩ : ∃ t : Nat, A k = (t : Int) := ⟨(A k).toNat, by omega⟩
        have h0t : ¬ t = 0 := by omega
        have hzt : ((t : Int) == 0) = false := by rw [← ht]; exact hzb
        have hws : IntKind.i64.wrap ((p.length : Int) + (k : Int)) = ((vs.length : Nat) : Int) := by rw [w64 (n := (p.length : Int) + (k : Int)) (by omega) (by omega), hlen]; push_cast; rfl
        simp [hzt, hRs', hMs', ht, hws, -Int.natCast_add]
        refine refEntry_v fl e.toEntS t vs.length (by omega) (by omega) fun g => ?_
        simp
        have o7' : OutS s0.length 22 1 s' (.own b7 vs.length 0 vs.length) vs := Or.inr ⟨b7, hb7, hst7', rfl⟩
        refine app_out (o7'.more [.row 22 1 [.lst g (ints (entM m w t (vs.length % r)))]]) (by simp; have := hkp'.len; omega) (news := [.lst g (ints (entM m w t (vs.length % r)))]) (by simp) (by simp) (Or.inl (by simp)) (fun b L hb _ j => by simp [upM]; omega) (by simp; omega) (by simp; omega) fun v5 s5 o5 l5 b5 k5 n5 => ?_
        have hkp5 : Keep0 s0 s5 := (hkp'.more _).trans l5 b5
        have o105 : OutS s0.length 3 1 s5 v' (ints (mapR (k + 1) A)) := (o10'.more [.row 22 1 [.lst g (ints (entM m w t (vs.length % r)))]]).keep2 fun b hb => k5 b (by have := (o10'.lt b hb).2; simp; omega) ((o10'.two o7' (by decide)) b hb)
        have hE5 : EsP (vs ++ [.lst g (ints (entM m w t (vs.length % r)))]) (aE m w q r vo seed p (k + 1)) := by
          rw [aE_succ, hA, ht, Int.toNat_natCast, ← hlen]
          exact hE.snoc g _
        simp [z29, hw1, -Int.natCast_add]
        exact ⟨⟨k + 1, hlt, hkp5, vs ++ [.lst g (ints (entM m w t (vs.length % r)))], o5, hE5, o105, fun j hj => by
          by_cases hjk : j = k
          · subst hjk; exact hz
          · exact hpre j (by omega), hdf, z28, rfl⟩, by omega⟩
    · obtain rfl : k = mo := by omega
      simp [z28, z29]
      exact fin _ s k hkp (by simpa using o10) ⟨by omega, by omega, fun j hj => hpre j (by omega), Or.inl rfl⟩ (by simp [hdf])
  clear fin
  have e1 : F_refAlone.code = .seq F_refAlone.code.l (.seq F_refAlone.code.r.l (.seq F_refAlone.code.r.r.l F_refAlone.code.r.r.r)) := rfl
  generalize F_refAlone.code.r.r.r = c4 at two e1
  rw [e1]
  have hMB : Blk.row 27 11 [V.agg [I m.kind, I m.vocab, I m.width, I m.top, .lst (fl 0) (ints m.cuts), .lst (fl 1) (ints m.embed), .lst (fl 2) (ints m.place), .lst (fl 3) (ints m.mix), .lst (fl 4) (ints m.out), .lst (fl 5) (ints m.soft), .lst (fl 6) (ints m.odds)]] = mdl m.kind m.vocab m.width m.top (fun i => .lst (fl i) (ints (mls m i))) := rfl
  simp [F_refAlone, MC.l, MC.r, encM, encR]
  rw [hMB, hS0]
  refine wp_mloop (fun fr s => ∃ (i : Nat) (vs : List V), i ≤ p.length ∧ Keep0 s0 s ∧ OutS s0.length 22 1 s (fr.g 5) vs ∧ EsP vs ((List.range i).map fun j => entM m w (gI p j).toNat (j % r)) ∧ fr.df = [] ∧ fr.g 2 = .ptr st.length 1 0 0 ∧ fr.g 3 = .ptr (st.length + 1) 1 0 0 ∧ fr.g 12 = .lst f (ints p) ∧ fr.g 13 = I p.length ∧ fr.g 14 = I i) (fun fr _ => p.length - nat (fr.g 14))
    ⟨0, [], by omega, Keep0.refl _, by simpa using OutS.nil _ _ _ _, ⟨rfl, fun i e h => by simp at h⟩, by simp, by simp, by simp, by simp, by simp, by simp⟩ ?_
  rintro fr s ⟨i, vs, hi, hkp, o7, hE, hdf, z2, z3, z12, z13, z14⟩
  have hsl := hkp.len
  by_cases hlt : i < p.length
  · have hMs := hkp.at_ hMb0
    simp only [mdl] at hMs
    have hx := List.getElem?_eq_getElem hlt
    have hxr := hpe i _ hx
    have hgi := gI_of hx
    generalize p[i] = x at *
    obtain ⟨t, rfl⟩ : ∃ t : Nat, x = (t : Int) := ⟨x.toNat, by omega⟩
    have hlen := hE.len
    simp at hlen
    simp [z13, z14, hlt]
    simp [z12, ints_get hx, z2, hMs]
    refine refEntry_v fl e.toEntS t i (by omega) (by omega) fun g => ?_
    simp
    refine app_out (o7.more [.row 22 1 [.lst g (ints (entM m w t (i % r)))]]) (by simp; omega) (news := [.lst g (ints (entM m w t (i % r)))]) (by simp) (by simp) (Or.inl (by simp)) (fun b L hb _ j => by simp [upM]; omega) (by simp; omega) (by simp; omega) fun v5 s5 o5 l5 b5 k5 n5 => ?_
    have hw1 : IntKind.i64.wrap ((i : Int) + 1) = ((i + 1 : Nat) : Int) := by rw [w64 (n := (i : Int) + 1) (by omega) (by omega)]; push_cast; rfl
    simp [hw1, -Int.natCast_add]
    exact ⟨⟨i + 1, hlt, (hkp.more _).trans l5 b5, vs ++ [.lst g (ints (entM m w t (i % r)))], o5, by
      rw [List.range_succ, List.map_append]
      have := hE.snoc g (entM m w t (i % r))
      simpa [hgi] using this, hdf, z3, rfl⟩, by omega⟩
  · obtain rfl : i = p.length := by omega
    simp [z13, z14]
    exact two _ s vs hkp (by simpa using o7) hE (by simp [hdf]) (by simp [z2]) (by simp [z3])
end
end Go.Proofs.YtadkhechobeccaaGreatDoor.Vm
namespace Go.Proofs.YtadkhechobeccaaGreatDoor.Vm
open Go.RowKit
section
variable {st : St} {f : Bool} {xs : List Int} {a : Int} {T : Tbl} {M : Nat → Bool} {K : V → St → Prop} {Kp : List PanicEntry → St → Prop}
theorem sInt_v (s0 : Nat) (hs : st[s0]? = some (strm f xs a)) (hM : M s0 = true) (src : xs.length ≤ 9223372036854775807 ∧ ∀ x ∈ xs, -9223372036854775808 ≤ x ∧ x ≤ 9223372036854775807) (ha : 0 ≤ a ∧ a ≤ 10000000)
    (hK : ∀ r a', -1099511627776 ≤ r ∧ r ≤ 1099511627777 → a ≤ a' → a' ≤ a + 4 → K (I r) (st.set s0 (strm f xs a'))) : CallV Tryz.prog T M 54 [.ptr s0 1 0 0] st K Kp := by
  have hlt : s0 < st.length := (List.getElem?_eq_some_iff.1 hs).1
  have hup : upM st.length M s0 = true := upM_of hM
  have g0 : GS st.length s0 st st f xs a := ⟨Same.refl (Nat.le_refl _), hs, hlt, src⟩
  have fin : ∀ (r a' : Int) (s : St), -1099511627776 ≤ r ∧ r ≤ 1099511627777 → a ≤ a' → a' ≤ a + 4 → GS st.length s0 st s f xs a' → ∃ v', Frz st.length s (I r) v' ∧ LowSt st s ∧ K v' (s.take st.length) := fun r a' s h1 h2 h3 g =>
    ⟨_, .same _ rfl, g.same.low g.str (by simp [V.low]), by rw [g.same.take g.str]; exact hK r a' h1 h2 h3⟩
  refine CallV.give (fun_ok hmix c_sInt (le_of rfl) ?_)
  simp [F_sInt]
  refine flip_g g0 hup (by omega) 8 (by omega) fun b s1 g1 b1 => ?_
  cases b with
  | true =>
    simp
    have e5 : (s1 ++ [Blk.row 3 1 [I 2147483648, I (-2147483649), I 4294967296, I 1099511627777, I (-1099511627776)]])[s1.length]? = some (.row 3 1 (ints [2147483648, -2147483649, 4294967296, 1099511627777, -1099511627776])) := by simp [ints]
    refine pick_g (g1.more _) hup (by omega) e5 (by have := g1.same.len; omega) rfl (by simp) fun x s2 hx g2 b2 => ?_
    have hx' : x = 2147483648 ∨ x = -2147483649 ∨ x = 4294967296 ∨ x = 1099511627777 ∨ x = -1099511627776 := by simpa using hx
    exact fin x _ s2 (by omega) (by omega) (by omega) g2
  | false =>
    simp
    refine word_g g1 hup (by omega) fun r s2 a2 hr h1 h2 g2 b2 => ?_
    obtain ⟨r1, r2⟩ := hr
    exact fin r _ s2 (by omega) (by omega) (by omega) g2
end
section
variable {n sb : Nat} {st s : St} {f : Bool} {xs : List Int} {a : Int} {T : Tbl} {M : Nat → Bool} {K : V → St → Prop} {Kp : List PanicEntry → St → Prop}
theorem sInt_g (g : GS n sb st s f xs a) (hM : M sb = true) (ha : 0 ≤ a ∧ a ≤ 10000000) (hK : ∀ r s' a', -1099511627776 ≤ r ∧ r ≤ 1099511627777 → a ≤ a' → a' ≤ a + 4 → GS n sb st s' f xs a' → But sb s s' → K (I r) s') : CallV Tryz.prog T M 54 [.ptr sb 1 0 0] s K Kp :=
  sInt_v sb g.str hM g.src ha fun r a' h1 h2 h3 => hK r _ a' h1 h2 h3 (g.next _) (But.set _ _ _)
end
def Pz (n : Nat) (s : St) (v : V) (p : List Int) : Prop := (p = [] ∧ v = .lst true []) ∨ ∃ b l r, n ≤ b ∧ s[b]? = some (.row 3 1 (ints l)) ∧ r ≤ l.length ∧ v = .own b l.length 0 r ∧ p = l.take r
theorem Pz.of_out {n : Nat} {s : St} {v : V} {p : List Int} (h : OutS n 3 1 s v (ints p)) : Pz n s v p := by
  rcases h with ⟨h1, rfl⟩ | ⟨b, h1, h2, rfl⟩
  · exact Or.inl ⟨by simpa [ints] using h1, rfl⟩
  · exact Or.inr ⟨b, p, p.length, h1, h2, Nat.le_refl _, by rw [ints_len], by rw [List.take_of_length_le (Nat.le_refl _)]⟩
theorem Pz.frz {n m : Nat} {s : St} {v : V} {p : List Int} (h : Pz n s v p) (hm : m ≤ n) : ∃ g, Frz m s v (.lst g (ints p)) := by
  rcases h with ⟨rfl, rfl⟩ | ⟨b, l, r, h1, h2, h3, rfl, rfl⟩
  · exact ⟨true, .same _ rfl⟩
  · have := Frz.row (n := m) b l.length 0 r 3 1 (ints l) (by omega) h2 (by simp) (ints_cells _)
    rw [List.drop_zero, ints_take] at this
    exact ⟨false, this⟩
theorem Pz.leaf {n : Nat} {s : St} {v : V} {p : List Int} (h : Pz n s v p) : v.leaf = true ∧ v.cells = [v] := by
  rcases h with ⟨-, rfl⟩ | ⟨b, l, r, -, -, -, rfl, -⟩ <;> exact ⟨rfl, rfl⟩
def rqb (v : V) (id dl most seed : Int) : Blk := .row 51 5 [.agg [I id, I dl, v, I most, I seed]]
def rqN : Option Blk → Nat
  | some (.row _ _ [.agg [_, _, .own _ L _ _, _, _]]) => L
  | _ => 0
theorem rqN_out {n : Nat} {s : St} {v : V} {l : List Int} (h : OutS n 3 1 s v (ints l)) (id dl most seed : Int) : rqN (some (rqb v id dl most seed)) = l.length := by
  rcases h with ⟨h1, rfl⟩ | ⟨b, -, -, rfl⟩
  · have : l = [] := by simpa [ints] using h1
    subst this
    rfl
  · simp [rqb, rqN]
section
variable {st : St} {f : Bool} {xs : List Int} {a : Int} {T : Tbl} {M : Nat → Bool} {K : V → St → Prop} {Kp : List PanicEntry → St → Prop}
set_option maxHeartbeats 1000000 in
set_option maxRecDepth 10000 in
theorem request_v {m : LModel} (fl : Nat → Bool) (hg : GenM m) (s0 : Nat) (hs : st[s0]? = some (strm f xs a)) (hM : M s0 = true) (src : xs.length ≤ 9223372036854775807 ∧ ∀ x ∈ xs, -9223372036854775808 ≤ x ∧ x ≤ 9223372036854775807) (ha : 0 ≤ a ∧ a ≤ 1000000)
    (hK : ∀ g p id dl most seed a', p.length ≤ 40 → (∀ x ∈ p, -1 ≤ x ∧ x ≤ 16) → -1 ≤ most ∧ most ≤ 33 → -1099511627776 ≤ seed ∧ seed ≤ 1099511627777 → a ≤ a' → a' ≤ a + 100 → K (encR g p id dl most seed) (st.set s0 (strm f xs a'))) : CallV Tryz.prog T M 23 [.ptr s0 1 0 0, encM fl m] st K Kp := by
  have hlt : s0 < st.length := (List.getElem?_eq_some_iff.1 hs).1
  have hup : upM st.length M s0 = true := upM_of hM
  have hv2 := hg.vocab
  have g00 : GS st.length s0 st st f xs a := ⟨Same.refl (Nat.le_refl _), hs, hlt, src⟩
  refine CallV.give (fun_ok hmix c_request (le_of rfl) ?_)
  have fin : ∀ (fr : Fr) (s : St) (a' : Int) (v : V) (p : List Int) (id dl most seed : Int), GS st.length s0 st s f xs a' → a ≤ a' → a' ≤ a + 100 → s[st.length + 1]? = some (rqb (.lst true []) 0 0 0 0) → s[st.length + 2]? = some (rqb v id dl most seed) → Pz (st.length + 3) s v p → p.length ≤ 40 → (∀ x ∈ p, -1 ≤ x ∧ x ≤ 16) → -1 ≤ most ∧ most ≤ 33 → -1099511627776 ≤ seed ∧ seed ≤ 1099511627777 → fr.g 4 = .ptr (st.length + 1) 1 0 0 → fr.g 5 = .ptr (st.length + 2) 1 0 0 → fr.df = [] →
      wpM Tryz.prog T (liftM (upM st.length M)) F_request.code.r.r.r.r (Fin F_request.res (fun v st' => ∃ v', Frz st.length st' v v' ∧ LowSt st st' ∧ K v' (st'.take st.length)) (fun c st' => LowSt st st' ∧ Kp c (st'.take st.length))) fr s := fun fr s a' v p id dl most seed g a1 a2 h4 h5 hv p1 p2 p3 p4 z4 z5 zdf => by
    obtain ⟨lv, cv⟩ := hv.leaf
    simp only [rqb] at h4 h5
    have rb : ∀ x, (s.set (st.length + 1) x)[st.length + 1]? = some x := fun x => get_set h4 x
    simp [F_request, MC.r, z4, z5, zdf, h4, h5, rb, lv]
    have g' := g.set (b := st.length + 1) (by omega) (rqb v id dl most seed)
    have hv' : Pz (st.length + 3) (s.set (st.length + 1) (rqb v id dl most seed)) v p := by
      rcases hv with h | ⟨b, l, r, h1, h2, h3, h4, h5⟩
      · exact Or.inl h
      · exact Or.inr ⟨b, l, r, h1, get_ne h2 (by omega) _, h3, h4, h5⟩
    obtain ⟨gg, hfr⟩ := hv'.frz (m := st.length) (by omega)
    have hlow := g'.same.low g'.str (by simp [V.low])
    have ht := g'.same.take g'.str
    simp only [rqb] at hfr hlow ht
    refine ⟨encR gg p id dl most seed, .agg _ _ rfl fun i x y hx hy => ?_, hlow, by rw [ht]; exact hK gg p id dl most seed a' p1 p2 p3 p4 a1 a2⟩
    match i, hx, hy with
    | 0, hx, hy => cases hx; cases hy; exact .same _ rfl
    | 1, hx, hy => cases hx; cases hy; exact .same _ rfl
    | 2, hx, hy => cases hx; cases hy; exact hfr
    | 3, hx, hy => cases hx; cases hy; exact .same _ rfl
    | 4, hx, hy => cases hx; cases hy; exact .same _ rfl
    | i + 5, hx, hy => cases hx
  have sw : ∀ (fr : Fr) (s : St) (a' : Int) (v : V) (l : List Int) (id dl most seed : Int), GS st.length s0 st s f xs a' → a ≤ a' → a' ≤ a + 40 → s[st.length]? = some (mdl m.kind m.vocab m.width m.top (fun i => .lst (fl i) (ints (mls m i)))) → s[st.length + 1]? = some (rqb (.lst true []) 0 0 0 0) → s[st.length + 2]? = some (rqb v id dl most seed) → OutS (st.length + 3) 3 1 s v (ints l) → l.length ≤ 10 → (∀ x ∈ l, -1 ≤ x ∧ x ≤ 16) → -1 ≤ most ∧ most ≤ 33 → -1099511627776 ≤ seed ∧ seed ≤ 1099511627777 → fr.g 0 = .ptr s0 1 0 0 → fr.g 3 = .ptr st.length 1 0 0 → fr.g 4 = .ptr (st.length + 1) 1 0 0 → fr.g 5 = .ptr (st.length + 2) 1 0 0 → fr.df = [] →
      wpM Tryz.prog T (liftM (upM st.length M)) F_request.code.r.r.r (Fin F_request.res (fun v st' => ∃ v', Frz st.length st' v v' ∧ LowSt st st' ∧ K v' (st'.take st.length)) (fun c st' => LowSt st st' ∧ Kp c (st'.take st.length))) fr s := fun fr s a' v l id dl most seed g a1 a2 hm h4 h5 o p1 p2 p3 p4 z0 z3 z4 z5 zdf => by
    have e1 : F_request.code.r.r.r = .seq F_request.code.r.r.r.l F_request.code.r.r.r.r := rfl
    generalize F_request.code.r.r.r.r = c4 at fin e1
    rw [e1]
    simp [F_request, MC.l, MC.r, z0]
    refine next_g g hup (by omega) 14 (by omega) fun z s1 z0' z14 g1 b1 => ?_
    have hm1 := get_but hm b1 (by omega)
    have h41 := get_but h4 b1 (by omega)
    have h51 := get_but h5 b1 (by omega)
    have o1 := o.but b1 (by omega)
    have hl1 := b1.1
    have hsl := g1.same.len
    have hmv : ∀ b, b < st.length + 3 → b ∉ ownL v := fun b hb hm => by have := (o1.lt b hm).1; omega
    have lt5 : st.length + 2 < s1.length := (List.getElem?_eq_some_iff.1 h51).1
    have h51' := h51
    have hm1' := hm1
    simp only [rqb] at h51'
    simp only [mdl] at hm1'
    by_cases c0 : z = 0
    · simp [c0]
      have e5 : (s1 ++ [Blk.row 3 1 [I 0, I 32, I 33, I (-1)]])[s1.length]? = some (.row 3 1 (ints [0, 32, 33, -1])) := by simp [ints]
      refine pick_g (g1.more _) hup (by omega) e5 (by omega) rfl (by simp) fun x s2 hx g2 b2 => ?_
      have hx' : x = 0 ∨ x = 32 ∨ x = 33 ∨ x = -1 := by simpa using hx
      have h52 := get_but (get_more h51' [Blk.row 3 1 [I 0, I 32, I 33, I (-1)]]) b2 (by omega)
      have h42 := get_but (get_more h41 [Blk.row 3 1 [I 0, I 32, I 33, I (-1)]]) b2 (by omega)
      have o2 := (o1.more [Blk.row 3 1 [I 0, I 32, I 33, I (-1)]]).but b2 (by omega)
      simp [z5, h52, upM]
      exact fin _ _ _ v l id dl x seed (g2.set (b := st.length + 2) (by omega) (rqb v id dl x seed)) (by omega) (by omega) (get_ne h42 (by omega) _) (get_set h52 _) (Pz.of_out (o2.set (by omega) _)) (by omega) p2 (by omega) p4 (by simp [z4]) (by simp [z5]) (by simp [zdf])
    have b0 : (z == 0) = false := by simpa using c0
    by_cases c1 : z = 1
    · simp [c1]
      refine sInt_g g1 hup (by omega) fun x s2 a3 hx q1 q2 g2 b2 => ?_
      have h52 := get_but h51' b2 (by omega)
      have h42 := get_but h41 b2 (by omega)
      have o2 := o1.but b2 (by omega)
      simp [z5, h52, upM]
      exact fin _ _ _ v l id dl most x (g2.set (b := st.length + 2) (by omega) (rqb v id dl most x)) (by omega) (by omega) (get_ne h42 (by omega) _) (get_set h52 _) (Pz.of_out (o2.set (by omega) _)) (by omega) p2 p3 hx (by simp [z4]) (by simp [z5]) (by simp [zdf])
    have b1' : (z == 1) = false := by simpa using c1
    by_cases c2 : z = 2
    · simp [c2, z5, h51', upM]
      exact fin _ _ _ (.lst true []) [] id dl most seed (g1.set (b := st.length + 2) (by omega) (rqb (.lst true []) id dl most seed)) (by omega) (by omega) (get_ne h41 (by omega) _) (get_set h51 _) (Or.inl ⟨rfl, rfl⟩) (by simp) (by simp) p3 p4 (by simp [z4]) (by simp [z5]) (by simp [zdf])
    have b2' : (z == 2) = false := by simpa using c2
    by_cases c3 : z = 3
    · simp [c3]
      refine wp_mtail (s0 :: ownL v) [] ?_
      have hrd3 := rd_ne (s0 := s0) (v := v) (show st.length ≠ s0 by omega) (hmv _ (by omega))
      have hrd5 := rd_ne (s0 := s0) (v := v) (show st.length + 2 ≠ s0 by omega) (hmv _ (by omega))
      simp [z0, z3, z5, h51', hm1', hrd3, hrd5]
      have e5 : (s1 ++ [Blk.row 3 1 [I m.vocab, I (-1)]])[s1.length]? = some (.row 3 1 (ints [m.vocab, -1])) := by simp [ints]
      refine pick_g (g1.more _) (inW_hd hup) (by omega) e5 (by omega) rfl (by simp) fun x s2 hx g2 b2 => ?_
      have hx' : x = m.vocab ∨ x = -1 := by simpa using hx
      have h52 := get_but (get_more h51 [Blk.row 3 1 [I m.vocab, I (-1)]]) b2 (by omega)
      have h42 := get_but (get_more h41 [Blk.row 3 1 [I m.vocab, I (-1)]]) b2 (by omega)
      have o2 := (o1.more [Blk.row 3 1 [I m.vocab, I (-1)]]).but b2 (by omega)
      have hl2 := b2.1
      simp at hl2
      simp
      refine app_out (o2.more [.row 3 1 [I x]]) (by simp; omega) (news := [I x]) (by simp) (by simp) (Or.inl (by simp)) (fun b3 L q1 q2 j => inW_mem (by simp [upM]; omega) (by rw [q2]; simp [ownL]) j) (by simp; omega) (by simp; omega) fun v' s3 o3 hl3 hb3 hk3 hn3 => ?_
      have h53 : s3[st.length + 2]? = some (rqb v id dl most seed) := by rw [hk3 _ (by simp; omega) (hmv _ (by omega))]; exact get_more h52 _
      have h43 : s3[st.length + 1]? = some (rqb (.lst true []) 0 0 0 0) := by rw [hk3 _ (by simp; omega) (hmv _ (by omega))]; exact get_more h42 _
      have g3 := (g2.more [.row 3 1 [I x]]).to hl3 fun b hb => hb3 b (by omega)
      have o3' : OutS (st.length + 3) 3 1 s3 v' (ints (l ++ [x])) := by rw [ints_append]; exact o3
      obtain ⟨lv, cv⟩ := (Pz.of_out o3').leaf
      have h53' := h53
      simp only [rqb] at h53'
      simp [h53', lv, cv]
      exact fin _ _ _ v' (l ++ [x]) id dl most seed (g3.set (b := st.length + 2) (by omega) (rqb v' id dl most seed)) (by omega) (by omega) (get_ne h43 (by omega) _) (get_set h53 _) (Pz.of_out (o3'.set (by omega) _)) (by simp; omega) (fun y hy => by
        rcases List.mem_append.1 hy with hy | hy
        · exact p2 y hy
        · simp at hy; subst hy; omega) p3 p4 (by simp [z4]) (by simp [z5]) (by simp [zdf])
    have b3' : (z == 3) = false := by simpa using c3
    by_cases c4 : z = 4
    · simp [c4]
      refine wp_mloop (fun fr s => ∃ (v : V) (l : List Int), GS st.length s0 st s f xs (a' + 1) ∧ s[st.length + 1]? = some (rqb (.lst true []) 0 0 0 0) ∧ s[st.length + 2]? = some (rqb v id dl most seed) ∧ OutS (st.length + 3) 3 1 s v (ints l) ∧ l.length ≤ 33 ∧ (∀ x ∈ l, -1 ≤ x ∧ x ≤ 16) ∧ fr.g 0 = .ptr s0 1 0 0 ∧ fr.g 4 = .ptr (st.length + 1) 1 0 0 ∧ fr.g 5 = .ptr (st.length + 2) 1 0 0 ∧ fr.df = []) (fun _ s => 33 - rqN (s[st.length + 2]?))
        ⟨v, l, g1, h41, h51, o1, by omega, p2, by simp [z0], by simp [z4], by simp [z5], by simp [zdf]⟩ ?_
      clear h51' hm1' h51 h41 hm1 o1 hmv o h5 h4 hm z0 z4 z5 zdf z3 p2 p1
      rintro fr s ⟨v, l, g, h4, h5, o, hl, p2, z0, z4, z5, zdf⟩
      have hmv : ∀ b, b < st.length + 3 → b ∉ ownL v := fun b hb hm => by have := (o.lt b hm).1; omega
      have hN := rqN_out o id dl most seed
      have hlen : lenV s v = some (I (l.length : Int)) := (Rd.of_out o).len
      have lt5 : st.length + 2 < s.length := (List.getElem?_eq_some_iff.1 h5).1
      have h5' := h5
      simp only [rqb] at h5'
      by_cases hlt33 : l.length < 33
      · simp [z5, h5', hlen, show (l.length : Int) < 33 by omega]
        refine app_out o (by omega) (news := [I 0]) (by simp) (by simp) (Or.inl (by simp)) (fun b3 L q1 q2 j => by simp [upM]; omega) (by simp; omega) (by simp; omega) fun v' s3 o3 hl3 hb3 hk3 hn3 => ?_
        have h53 : s3[st.length + 2]? = some (rqb v id dl most seed) := by rw [hk3 _ (by omega) (hmv _ (by omega))]; exact h5
        have h43 : s3[st.length + 1]? = some (rqb (.lst true []) 0 0 0 0) := by rw [hk3 _ (by omega) (hmv _ (by omega))]; exact h4
        have g3 := g.to hl3 fun b hb => hb3 b (by omega)
        have o3' : OutS (st.length + 3) 3 1 s3 v' (ints (l ++ [0])) := by rw [ints_append]; exact o3
        obtain ⟨lv, cv⟩ := (Pz.of_out o3').leaf
        have h53' := h53
        simp only [rqb] at h53'
        have hgs : ∀ x, (s3.set (st.length + 2) x)[st.length + 2]? = some x := fun x => get_set h53 x
        have hN3 := rqN_out o3' id dl most seed
        rw [List.length_append] at hN3
        simp only [rqb] at hN3 hN
        simp [h53', lv, cv, hgs, hN, hN3]
        exact ⟨⟨g3.set (b := st.length + 2) (by omega) (rqb v' id dl most seed), h43, v', rfl, l ++ [0], o3'.set (by omega) _, by simp; omega, fun y hy => by
          rcases List.mem_append.1 hy with hy | hy
          · exact p2 y hy
          · simp at hy; subst hy; omega, z0, z4, zdf⟩, by omega⟩
      · simp [z5, h5', hlen, show ¬ (l.length : Int) < 33 by omega]
        obtain ⟨b, hb, hst, rfl⟩ : ∃ b, st.length + 3 ≤ b ∧ s[b]? = some (.row 3 1 (ints l)) ∧ v = .own b (ints l).length 0 (ints l).length := by
          rcases o with ⟨q1, -⟩ | q
          · have : l = [] := by simpa [ints] using q1
            rw [this] at hlt33; simp at hlt33
          · exact q
        have h33 : l.length = 33 := by omega
        refine wp_mtail [s0] [] ?_
        have hrd5 : ∀ j, rdW [s0] [] (st.length + 2) j = true := fun j => by simp [rdW]; omega
        simp [z0, z5, h5', hrd5]
        have e5 : (s ++ [Blk.row 3 1 [I 32, I 33]])[s.length]? = some (.row 3 1 (ints [32, 33])) := by simp [ints]
        refine pick_g (g.more _) (inW_hd hup) (by omega) e5 (by omega) rfl (by simp) fun x s2 hx g2 b2 => ?_
        have hx' : x = 32 ∨ x = 33 := by simpa using hx
        have h52 := get_but (get_more h5 [Blk.row 3 1 [I 32, I 33]]) b2 (by omega)
        have h42 := get_but (get_more h4 [Blk.row 3 1 [I 32, I 33]]) b2 (by omega)
        have hst2 := get_but (get_more hst [Blk.row 3 1 [I 32, I 33]]) b2 (by omega)
        have h52' := h52
        simp only [rqb] at h52'
        have hx0 : 0 ≤ x := by omega
        simp [hst2, hx0, h52']
        refine ⟨by omega, ?_⟩
        have hz : Pz (st.length + 3) (s2.set (st.length + 2) (rqb (.own b l.length 0 x.toNat) id dl most seed)) (.own b l.length 0 x.toNat) (l.take x.toNat) := Or.inr ⟨b, l, x.toNat, hb, get_ne hst2 (by omega) _, by omega, rfl, rfl⟩
        exact fin _ _ _ (.own b l.length 0 x.toNat) (l.take x.toNat) id dl most seed (g2.set (b := st.length + 2) (by omega) _) (by omega) (by omega) (get_ne h42 (by omega) _) (get_set h52 _) hz (by simp; omega) (fun y hy => p2 y (List.mem_of_mem_take hy)) p3 p4 (by simp [z4]) (by simp [z5]) (by simp [zdf])
    have b4' : (z == 4) = false := by simpa using c4
    simp [b0, b1', b2', b3', b4']
    exact fin _ _ _ v l id dl most seed g1 (by omega) (by omega) h41 h51 (Pz.of_out o1) (by omega) p2 p3 p4 (by simp [z4]) (by simp [z5]) (by simp [zdf])
  clear fin
  have e0 : F_request.code = .seq F_request.code.l (.seq F_request.code.r.l (.seq F_request.code.r.r.l F_request.code.r.r.r)) := rfl
  generalize F_request.code.r.r.r = c3 at sw e0
  rw [e0]
  have hMB : Blk.row 27 11 [V.agg [I m.kind, I m.vocab, I m.width, I m.top, .lst (fl 0) (ints m.cuts), .lst (fl 1) (ints m.embed), .lst (fl 2) (ints m.place), .lst (fl 3) (ints m.mix), .lst (fl 4) (ints m.out), .lst (fl 5) (ints m.soft), .lst (fl 6) (ints m.odds)]] = mdl m.kind m.vocab m.width m.top (fun i => .lst (fl i) (ints (mls m i))) := rfl
  have hZB : Blk.row 51 5 [V.agg [I 0, I 0, .lst true [], I 0, I 0]] = rqb (.lst true []) 0 0 0 0 := rfl
  simp [F_request, MC.l, MC.r, encM]
  rw [hMB, hZB]
  have Hm : (st ++ [mdl m.kind m.vocab m.width m.top (fun i => .lst (fl i) (ints (mls m i))), rqb (.lst true []) 0 0 0 0])[st.length]? = some (mdl m.kind m.vocab m.width m.top (fun i => .lst (fl i) (ints (mls m i)))) := by simp
  have H4 : (st ++ [mdl m.kind m.vocab m.width m.top (fun i => .lst (fl i) (ints (mls m i))), rqb (.lst true []) 0 0 0 0])[st.length + 1]? = some (rqb (.lst true []) 0 0 0 0) := by simp
  have g1 := g00.more [mdl m.kind m.vocab m.width m.top (fun i => .lst (fl i) (ints (mls m i))), rqb (.lst true []) 0 0 0 0]
  have hl1 : (st ++ [mdl m.kind m.vocab m.width m.top (fun i => .lst (fl i) (ints (mls m i))), rqb (.lst true []) 0 0 0 0]).length = st.length + 2 := by simp
  generalize st ++ [mdl m.kind m.vocab m.width m.top (fun i => .lst (fl i) (ints (mls m i))), rqb (.lst true []) 0 0 0 0] = s1 at *
  refine range_g g1 hup (by omega) (-1) 9 (by omega) (by omega) (by omega) fun id s2 i1 i2 g2 b2 => ?_
  simp
  refine next_g g2 hup (by omega) 9 (by omega) fun dl s3 d1 d2 g3 b3 => ?_
  simp
  refine range_g g3 hup (by omega) 1 6 (by omega) (by omega) (by omega) fun most s4 m1 m2 g4 b4 => ?_
  simp
  refine word_g g4 hup (by omega) fun seed s5 a5 ⟨w1, w2⟩ q1 q2 g5 b5 => ?_
  have bb := ((b2.trans b3).trans b4).trans b5
  have Hm5 := get_but Hm bb (by omega)
  have H45 := get_but H4 bb (by omega)
  have hl5 : s5.length = st.length + 2 := bb.1.trans hl1
  simp [hl5, upM]
  have H5 : (s5 ++ [rqb (.lst true []) id dl most seed])[st.length + 2]? = some (rqb (.lst true []) id dl most seed) := by rw [← hl5]; simp
  have Hm6 := get_more Hm5 [rqb (.lst true []) id dl most seed]
  have H46 := get_more H45 [rqb (.lst true []) id dl most seed]
  have g6 := g5.more [rqb (.lst true []) id dl most seed]
  have hRB : Blk.row 51 5 [V.agg [I id, I dl, .lst true [], I most, I seed]] = rqb (.lst true []) id dl most seed := rfl
  rw [hRB]
  generalize s5 ++ [rqb (.lst true []) id dl most seed] = s6 at *
  refine range_g g6 hup (by omega) 1 5 (by omega) (by omega) (by omega) fun N s7 n1 n2 g7 b7 => ?_
  obtain ⟨N, rfl⟩ : ∃ k : Nat, N = (k : Int) := ⟨N.toNat, by omega⟩
  have Hm7 := get_but Hm6 b7 (by omega)
  have H47 := get_but H46 b7 (by omega)
  have H57 := get_but H5 b7 (by omega)
  refine wp_mloop (fun fr s => ∃ (k : Nat) (v : V) (l : List Int), k ≤ N ∧ l.length = k ∧ (∀ x ∈ l, -1 ≤ x ∧ x ≤ 16) ∧ GS st.length s0 st s f xs (a5 + 1 + k) ∧ s[st.length]? = some (mdl m.kind m.vocab m.width m.top (fun i => .lst (fl i) (ints (mls m i)))) ∧ s[st.length + 1]? = some (rqb (.lst true []) 0 0 0 0) ∧ s[st.length + 2]? = some (rqb v id dl most seed) ∧ OutS (st.length + 3) 3 1 s v (ints l) ∧ fr.df = [] ∧ fr.g 0 = .ptr s0 1 0 0 ∧ fr.g 3 = .ptr st.length 1 0 0 ∧ fr.g 4 = .ptr (st.length + 1) 1 0 0 ∧ fr.g 5 = .ptr (st.length + 2) 1 0 0 ∧ fr.g 16 = I N ∧ fr.g 17 = I k) (fun fr _ => N - nat (fr.g 17))
    ⟨0, .lst true [], [], by omega, rfl, by simp, by simpa using g7, Hm7, H47, H57, OutS.nil _ _ _ _, by simp, by simp, by simp, by simp, by simp, by simp, by simp⟩ ?_
  clear Hm7 H47 H57 g7 b7
  rintro fr s ⟨k, v, l, hk, hl, hr, g, hm, h4, h5, o, hdf, z0, z3, z4, z5, z16, z17⟩
  have hmv : ∀ b, b < st.length + 3 → b ∉ ownL v := fun b hb hm => by have := (o.lt b hm).1; omega
  have lt5 : st.length + 2 < s.length := (List.getElem?_eq_some_iff.1 h5).1
  by_cases hltN : k < N
  · have h5' := h5
    have hm' := hm
    simp only [rqb] at h5'
    simp only [mdl] at hm'
    simp [z16, z17, hltN]
    refine wp_mtail (s0 :: ownL v) [] ?_
    have hrd3 := rd_ne (s0 := s0) (v := v) (show st.length ≠ s0 by omega) (hmv _ (by omega))
    have hrd5 := rd_ne (s0 := s0) (v := v) (show st.length + 2 ≠ s0 by omega) (hmv _ (by omega))
    simp [z0, z3, z5, h5', hm', hrd3, hrd5]
    refine next_g g (inW_hd hup) (by omega) m.vocab (by omega) fun x s2 x0 x1 g2 b2 => ?_
    have hm2 := get_but hm b2 (by omega)
    have h52 := get_but h5 b2 (by omega)
    have h42 := get_but h4 b2 (by omega)
    have o2 := o.but b2 (by omega)
    have hl2 := b2.1
    simp
    refine app_out (o2.more [.row 3 1 [I x]]) (by simp; omega) (news := [I x]) (by simp) (by simp) (Or.inl (by simp)) (fun b3 L q1 q2 j => inW_mem (by simp [upM]; omega) (by rw [q2]; simp [ownL]) j) (by simp; omega) (by simp; omega) fun v' s3 o3 hl3 hb3 hk3 hn3 => ?_
    have hm3 : s3[st.length]? = some (mdl m.kind m.vocab m.width m.top (fun i => .lst (fl i) (ints (mls m i)))) := by rw [hk3 _ (by simp; omega) (hmv _ (by omega))]; exact get_more hm2 _
    have h53 : s3[st.length + 2]? = some (rqb v id dl most seed) := by rw [hk3 _ (by simp; omega) (hmv _ (by omega))]; exact get_more h52 _
    have h43 : s3[st.length + 1]? = some (rqb (.lst true []) 0 0 0 0) := by rw [hk3 _ (by simp; omega) (hmv _ (by omega))]; exact get_more h42 _
    have g3 := (g2.more [.row 3 1 [I x]]).to hl3 fun b hb => hb3 b (by omega)
    have o3' : OutS (st.length + 3) 3 1 s3 v' (ints (l ++ [x])) := by rw [ints_append]; exact o3
    obtain ⟨lv, cv⟩ := (Pz.of_out o3').leaf
    have h53' := h53
    simp only [rqb] at h53'
    have hw1 : IntKind.i64.wrap ((k : Int) + 1) = ((k + 1 : Nat) : Int) := by rw [w64 (n := (k : Int) + 1) (by omega) (by omega)]; push_cast; rfl
    simp [h53', lv, cv, z17, hw1, -Int.natCast_add]
    have ea : a5 + 1 + ((k + 1 : Nat) : Int) = a5 + 1 + k + 1 := by push_cast; omega
    refine ⟨⟨k + 1, hltN, v', l ++ [x], by simp [hl], fun y hy => ?_, by rw [ea]; exact g3.set (b := st.length + 2) (by omega) (rqb v' id dl most seed), hm3, h43, get_set h53 _, o3'.set (by omega) _, hdf, z4, z16, rfl⟩, by omega⟩
    rcases List.mem_append.1 hy with hy | hy
    · exact hr y hy
    · simp at hy; subst hy; omega
  · obtain rfl : k = N := by omega
    simp [z16, z17]
    exact sw _ s _ v l id dl most seed g (by omega) (by omega) hm h4 h5 o (by omega) hr (by omega) (by omega) (by simp [z0]) (by simp [z3]) (by simp [z4]) (by simp [z5]) (by simp [hdf])
end
end Go.Proofs.YtadkhechobeccaaGreatDoor.Vm
namespace Go.Proofs.YtadkhechobeccaaGreatDoor.Vm
open Go.RowKit
section
variable {n sb : Nat} {st s : St} {f : Bool} {xs : List Int} {a : Int} {T : Tbl} {M : Nat → Bool} {K : V → St → Prop} {Kp : List PanicEntry → St → Prop}
theorem tainted_g {B : Int} {k : Nat} (fl : Nat → Bool) (m : LModel) (g : GS n sb st s f xs a) (hM : M sb = true) (ha : 0 ≤ a ∧ a ≤ 10000000) (hB : 2000 ≤ B ∧ B ≤ 100000) (hn : 1 ≤ k ∧ k ≤ 100000) (hb : LB B k m) (hK : ∀ fl m s' a', LB (B + 100) (k + 1) m → a ≤ a' → a' ≤ a + 10 → GS n sb st s' f xs a' → But sb s s' → K (encM fl m) s') : CallV Tryz.prog T M 48 [.ptr sb 1 0 0, encM fl m] s K Kp :=
  tainted_v sb fl m g.str hM g.src ha hB hn hb fun fl m a' h1 h2 h3 => hK fl m _ a' h1 h2 h3 (g.next _) (But.set _ _ _)
set_option maxRecDepth 10000 in
theorem maybe_g (g : GS n sb st s f xs a) (hM : M sb = true) (ha : 0 ≤ a ∧ a ≤ 1000000) (hK : ∀ fl m s' a', LB 2100 201 m → a ≤ a' → a' ≤ a + 20000 → GS n sb st s' f xs a' → But sb s s' → K (encM fl m) s') : CallV Tryz.prog T M 21 [.ptr sb 1 0 0] s K Kp := by
  have hlt : sb < s.length := Nat.lt_of_lt_of_le g.hsb g.same.len
  have hup : upM s.length M sb = true := upM_of hM
  have g00 : GS s.length sb s s f xs a := ⟨Same.refl (Nat.le_refl _), g.str, hlt, g.src⟩
  have fin : ∀ (fl : Nat → Bool) (m : LModel) (a2 : Int) (s2 : St), LB 2100 201 m → a ≤ a2 → a2 ≤ a + 20000 → GS s.length sb s s2 f xs a2 → s2[s.length]? = some (mdl 0 0 0 0 nils) → s2[s.length + 1]? = some (mdl m.kind m.vocab m.width m.top (fun i => .lst (fl i) (ints (mls m i)))) → ∀ fr : Fr, fr.g 2 = .ptr s.length 1 0 0 → fr.g 3 = .ptr (s.length + 1) 1 0 0 → fr.df = [] → wpM Tryz.prog T (liftM (upM s.length M)) F_maybe.code.r.r.r (Fin F_maybe.res (fun v st' => ∃ v', Frz s.length st' v v' ∧ LowSt s st' ∧ K v' (st'.take s.length)) (fun c st' => LowSt s st' ∧ Kp c (st'.take s.length))) fr s2 := fun fl m a2 s2 q1 q2 q3 g2 r2 m2 fr z2 z3 zd => by
    have rb2 : ∀ x, (s2.set s.length x)[s.length]? = some x := fun x => get_set r2 x
    simp only [mdl, nils] at r2 m2
    simp [F_maybe, MC.r, z2, z3, zd, r2, m2, rb2]
    have g' := g2.set (Nat.le_refl _) (mdl m.kind m.vocab m.width m.top (fun i => .lst (fl i) (ints (mls m i))))
    have hlow := g'.same.low g'.str (by simp [V.low])
    refine ⟨encM fl m, encM_frz _ _ fl m, hlow, ?_⟩
    have ht := g'.same.take g'.str
    simp only [mdl] at ht
    rw [ht]
    exact hK fl m _ a2 q1 q2 q3 (g.next _) (But.set _ _ _)
  refine CallV.give (fun_ok hmix c_maybe (le_of rfl) ?_)
  have e : F_maybe.code = .seq F_maybe.code.l (.seq F_maybe.code.r.l (.seq F_maybe.code.r.r.l F_maybe.code.r.r.r)) := rfl
  generalize F_maybe.code.r.r.r = c4 at fin e
  rw [e]
  generalize Fin F_maybe.res _ _ = QQ at fin ⊢
  simp [F_maybe, MC.l, MC.r]
  have R0 : (s ++ [mdl 0 0 0 0 nils])[s.length]? = some (mdl 0 0 0 0 nils) := by simp
  refine gmodel_g (g00.more _) hup (by omega) fun fl m s1 a1 hm e1 e2 g1 b1 => ?_
  have R1 := get_but R0 b1 (by omega)
  have hl1 : s1.length = s.length + 1 := by rw [b1.1]; simp
  simp [encM]
  have m2 : (s1 ++ [mdl m.kind m.vocab m.width m.top (fun i => .lst (fl i) (ints (mls m i)))])[s1.length]? = some (mdl m.kind m.vocab m.width m.top (fun i => .lst (fl i) (ints (mls m i)))) := by simp
  have R2 := get_more R1 [mdl m.kind m.vocab m.width m.top (fun i => .lst (fl i) (ints (mls m i)))]
  refine ⟨by simp [upM]; omega, ?_⟩
  refine flip_g (g1.more [mdl m.kind m.vocab m.width m.top (fun i => .lst (fl i) (ints (mls m i)))]) hup (by omega) 4 (by omega) fun b s2 g2 b2 => ?_
  have m3 := get_but m2 b2 (by omega)
  have R3 := get_but R2 b2 (by omega)
  rw [hl1] at m3
  cases b with
  | false =>
    simp
    exact fin fl m _ s2 ((GenM.lb hm).wide (by omega) (by omega)) (by omega) (by omega) g2 R3 m3 _ (by simp) (by simp [hl1]) (by simp)
  | true =>
    have m3' := m3
    simp only [mdl] at m3'
    simp [hl1, m3']
    refine tainted_g fl m g2 hup (by omega) (B := 2000) (k := 200) (by omega) (by omega) (GenM.lb hm) fun fl2 m2 s4 a4 q1 q2 q3 g4 b4 => ?_
    have m4 := get_but m3 b4 (by omega)
    have R4 := get_but R3 b4 (by omega)
    have m4' := m4
    simp only [mdl] at m4'
    simp [encM, m4']
    exact fin fl2 m2 a4 _ q1 (by omega) (by omega) (g4.set (b := s.length + 1) (by omega) (mdl m2.kind m2.vocab m2.width m2.top (fun i => .lst (fl2 i) (ints (mls m2 i))))) (get_ne R4 (by omega) _) (get_set m4 _) _ (by simp) (by simp) (by simp)
end
section
variable {T : Tbl} {M : Nat → Bool} {st : St} {K : V → St → Prop} {Kp : List PanicEntry → St → Prop} {B : Int} {n : Nat} (fl : Nat → Bool) (m : LModel)
theorem fault_m (hb : LB B n m) (hn : n ≤ 2000) (hK : K (I (chkM m)) st) : CallV Tryz.prog T M 22 [encM fl m] st K Kp :=
  CallV.of_read (uV := I (chkM m)) (u := .int .i64 (chkM m)) (G := fun w us => ∃ v, us = [v] ∧ VModel w.cell? v m) (by kernel_rfl) (fun _ _ _ _ _ _ _ hu => gvm hb hn hu) (fun w us ⟨v, h1, h2⟩ => by
    subst h1; exact fault_any m v w h2 (by have := hb.sum4; omega) (by have := hb.sum2; omega)) (fun E w => .pure (.val _)) hK
end
end Go.Proofs.YtadkhechobeccaaGreatDoor.Vm
namespace Go.Proofs.YtadkhechobeccaaGreatDoor.Vm
open Go.RowKit
def MC.ca : MC → MC
  | .cond _ a _ => a
  | c => c
section
variable {n sb : Nat} {st s : St} {f : Bool} {xs : List Int} {a : Int} {T : Tbl} {M : Nat → Bool} {K : V → St → Prop} {Kp : List PanicEntry → St → Prop}
theorem request_g {m : LModel} (fl : Nat → Bool) (hg : GenM m) (g : GS n sb st s f xs a) (hM : M sb = true) (ha : 0 ≤ a ∧ a ≤ 1000000) (hK : ∀ b p id dl most seed s' a', p.length ≤ 40 → GS n sb st s' f xs a' → But sb s s' → K (encR b p id dl most seed) s') : CallV Tryz.prog T M 23 [.ptr sb 1 0 0, encM fl m] s K Kp :=
  request_v fl hg sb g.str hM g.src ha fun b p id dl most seed a' h1 _ _ _ _ _ => hK b p id dl most seed _ a' h1 (g.next _) (But.set _ _ _)
theorem inB_not (v x : Int) : (!inB 0 (v - 1) x) = (decide (x < 0) || decide (v ≤ x)) := by
  unfold inB
  by_cases h1 : x < 0 <;> by_cases h2 : v ≤ x <;> simp [h1, h2] <;> omega
theorem lawAlones1_v {m : LModel} {fl : Nat → Bool} {b : Nat} (hs : st[b]? = some (mdl m.kind m.vocab m.width m.top (fun i => .lst (fl i) (ints (mls m i))))) (x : Int) (hK : K (Bo (!inB 0 (m.vocab - 1) x)) st) : CallV Tryz.prog T M 25 [I x, .ptr b 1 0 0] st K Kp := by
  refine fun_ok hmix c_lawAlones1 (le_of rfl) ?_
  simp only [mdl] at hs
  rw [inB_not] at hK
  by_cases h : x < 0
  · simp [F_lawAlones1, h]
    simpa [h] using hK
  · simp [F_lawAlones1, h, hs]
    simpa [h] using hK
end
section
variable {M : Nat → Bool}
set_option maxHeartbeats 1000000 in
set_option maxRecDepth 10000 in
theorem alonesL_v (f : Bool) (xs : List Int) (src : xs.length ≤ 9223372036854775807 ∧ ∀ x ∈ xs, -9223372036854775808 ≤ x ∧ x ≤ 9223372036854775807) : CallV Tryz.prog TW M 5 [.lst f (ints xs)] [] (fun v _ => v = Bo true) (fun _ _ => False) := by
  refine fun_ok hmix c_lawAlones (le_of rfl) ?_
  have last : ∀ (m : LModel) (fl : Nat → Bool) (s : St) (mb rb : Nat) (fr : Fr) (w r vo q N : Nat) (b g : Bool) (p : List Int) (id dl most seed : Int), GenM m → ScS m w r vo q → reqF m p most seed = 0 → p.length ≤ 1000 → RunN (aT m w q r vo seed p) most.toNat N → s[mb]? = some (mdl m.kind m.vocab m.width m.top (fun i => .lst (fl i) (ints (mls m i)))) → s[rb]? = some (rqb (.lst b (ints p)) id dl most seed) → fr.g 4 = .ptr mb 1 0 0 → fr.g 6 = .ptr rb 1 0 0 → fr.df = [] → fr.g 7 = .lst g (ints (mapR N (aT m w q r vo seed p))) → fr.g 8 = I 0 →
      wpM Tryz.prog TW (liftM (upM 0 M)) F_lawAlones.code.r.r.r.r.r.r.r.r (Fin F_lawAlones.res (fun v _ => v = Bo true) (fun _ _ => False)) fr s := fun m fl s mb rb fr w r vo q N b g p id dl most seed hg e hF hp hN hs hq z4 z6 zdf z7 z8 => by
    simp only [mdl] at hs
    simp only [rqb] at hq
    have h1 : inB 1 32 most = true ∧ inB 1 32 (p.length : Int) = true ∧ p.all (inB 0 (m.vocab - 1)) = true := by
      unfold reqF at hF
      split at hF
      · cases hF
      · rename_i h
        split at hF
        · cases hF
        · rename_i h2
          split at hF
          · cases hF
          · rename_i h3
            simp only [not_or, Bool.not_eq_false] at h h2 h3
            exact ⟨h.1, h2, h3⟩
    obtain ⟨q1, q2, q3⟩ := h1
    have hm1 : 1 ≤ most ∧ most ≤ 32 := by simpa [inB] using q1
    have hp1 : 1 ≤ p.length ∧ p.length ≤ 32 := by simp [inB] at q2; omega
    obtain ⟨mo, rfl⟩ : ∃ k : Nat, most = (k : Int) := ⟨most.toNat, by omega⟩
    rw [Int.toNat_natCast] at hN
    have hpe : ∀ (j : Nat) (x : Int), p[j]? = some x → 0 ≤ x ∧ x < vo := fun j x hx => by
      have := List.all_eq_true.1 q3 x (List.mem_of_getElem? hx)
      rw [e.hv] at this
      simp [inB] at this
      omega
    have e1 : F_lawAlones.code.r.r.r.r.r.r.r.r = .seq (.lst F_lawAlones.code.r.r.r.r.r.r.r.r.l.ops) .ret := rfl
    rw [e1, wp_mseq, wp_mlst]
    refine seq_cut 6 fun L hL => ?_
    simp [F_lawAlones, MC.r, MC.l, MC.ops]
    refine works_m ?_
    simp [z8]
    rw [hL]
    simp [F_lawAlones, MC.r, MC.l, MC.ops, z7, z4, z6, hs, hq]
    refine refAlone_v fl b p id dl seed e hg (by omega) hp1 hpe fun g2 N2 hN2 => ?_
    rw [hN2.unique hN]
    refine equal_r (Rd.lst _ _ _) (Rd.lst _ _ _) ?_ ?_
    · have := hN.le
      simp
      omega
    · simp [zdf]
  have tail7 : ∀ (F : Int) (m : LModel) (fl : Nat → Bool) (s : St) (mb rb : Nat) (fr : Fr) (b : Bool) (p : List Int) (id dl most seed : Int), p.length ≤ 1000 → s[mb]? = some (mdl m.kind m.vocab m.width m.top (fun i => .lst (fl i) (ints (mls m i)))) → s[rb]? = some (rqb (.lst b (ints p)) id dl most seed) → fr.g 4 = .ptr mb 1 0 0 → fr.g 6 = .ptr rb 1 0 0 → fr.df = [] → fr.g 5 = I F → fr.g 8 = I F →
      ((F ≠ 0 ∧ fr.g 7 = .lst true []) ∨ (F = 0 ∧ ∃ w r vo q N g, GenM m ∧ ScS m w r vo q ∧ reqF m p most seed = 0 ∧ RunN (aT m w q r vo seed p) most.toNat N ∧ fr.g 7 = .lst g (ints (mapR N (aT m w q r vo seed p))))) →
      wpM Tryz.prog TW (liftM (upM 0 M)) F_lawAlones.code.r.r.r.r.r.r.r (Fin F_lawAlones.res (fun v _ => v = Bo true) (fun _ _ => False)) fr s := fun F m fl s mb rb fr b p id dl most seed hp hs hq z4 z6 zdf z5 z8 hc => by
    have e1 : F_lawAlones.code.r.r.r.r.r.r.r = .seq F_lawAlones.code.r.r.r.r.r.r.r.l F_lawAlones.code.r.r.r.r.r.r.r.r := rfl
    rw [e1, wp_mseq]
    generalize F_lawAlones.code.r.r.r.r.r.r.r.r = c9 at last ⊢
    rcases hc with ⟨hF, z7⟩ | ⟨rfl, w, r, vo, q, N, g, hg, e, hF, hN, z7⟩
    · have hb1 : (F != 0) = true := by simpa using hF
      simp [F_lawAlones, MC.l, MC.r, z5, hb1]
      refine works_m ?_
      simp [z8, z7, zdf]
    · simp [F_lawAlones, MC.l, MC.r, z5]
      exact last m fl s mb rb _ w r vo q N b g p id dl most seed hg e hF hp hN hs hq (by simp [z4]) (by simp [z6]) (by simp [zdf]) (by simp [z7]) (by simp [z8])
  clear last
  have tail6 : ∀ (F : Int) (m : LModel) (fl : Nat → Bool) (s : St) (mb rb : Nat) (fr : Fr) (b : Bool) (p : List Int) (id dl most seed : Int), LB 2100 201 m → p.length ≤ 1000 → s[mb]? = some (mdl m.kind m.vocab m.width m.top (fun i => .lst (fl i) (ints (mls m i)))) → s[rb]? = some (rqb (.lst b (ints p)) id dl most seed) → fr.g 4 = .ptr mb 1 0 0 → fr.g 6 = .ptr rb 1 0 0 → fr.df = [] → fr.g 5 = I F → ((chkM m ≠ 0 ∧ F = chkM m) ∨ (chkM m = 0 ∧ F = reqF m p most seed)) →
      wpM Tryz.prog TW (liftM (upM 0 M)) F_lawAlones.code.r.r.r.r.r.r (Fin F_lawAlones.res (fun v _ => v = Bo true) (fun _ _ => False)) fr s := fun F m fl s mb rb fr b p id dl most seed hb hp hs hq z4 z6 zdf z5 hc => by
    have e1 : F_lawAlones.code.r.r.r.r.r.r = .seq F_lawAlones.code.r.r.r.r.r.r.l F_lawAlones.code.r.r.r.r.r.r.r := rfl
    rw [e1, wp_mseq]
    generalize F_lawAlones.code.r.r.r.r.r.r.r = c8 at tail7 ⊢
    have hs' := hs
    have hq' := hq
    simp only [mdl] at hs'
    simp only [rqb] at hq'
    obtain ⟨w, r, vo, q, he⟩ : ∃ w r vo q, chkM m = 0 → ScS m w r vo q := by
      by_cases h : chkM m = 0
      · obtain ⟨w, r, vo, q, e⟩ := GenM.scS (GenM.of_ok h)
        exact ⟨w, r, vo, q, fun _ => e⟩
      · exact ⟨0, 0, 0, 0, fun h' => absurd h' h⟩
    simp [F_lawAlones, MC.l, MC.r, z4, z6, hs', hq']
    refine mAlone_v fl hb (by omega) b p id dl most seed hp he (fun h => GenM.of_ok h) (fun h => ?_) (fun h h2 => ?_) (fun h h2 g N hN => ?_)
    · rcases hc with ⟨-, rfl⟩ | ⟨h0, -⟩
      · simp
        exact tail7 _ m fl s mb rb _ b p id dl most seed hp hs hq (by simp [z4]) (by simp [z6]) (by simp [zdf]) (by simp [z5]) (by simp) (Or.inl ⟨h, by simp⟩)
      · exact absurd h0 h
    · rcases hc with ⟨h0, -⟩ | ⟨-, rfl⟩
      · exact absurd h h0
      · simp
        exact tail7 _ m fl s mb rb _ b p id dl most seed hp hs hq (by simp [z4]) (by simp [z6]) (by simp [zdf]) (by simp [z5]) (by simp) (Or.inl ⟨h2, by simp⟩)
    · rcases hc with ⟨h0, -⟩ | ⟨-, rfl⟩
      · exact absurd h h0
      · simp
        exact tail7 0 m fl s mb rb _ b p id dl most seed hp hs hq (by simp [z4]) (by simp [z6]) (by simp [zdf]) (by simp [z5, h2]) (by simp) (Or.inr ⟨rfl, w, r, vo, q, N, g, GenM.of_ok h, he h, h2, hN, by simp⟩)
  clear tail7
  have sw : ∀ (m : LModel) (fl : Nat → Bool) (s : St) (mb rb : Nat) (fr : Fr) (b : Bool) (p : List Int) (id dl most seed : Int) (Q : Post), p.length ≤ 1000 → s[mb]? = some (mdl m.kind m.vocab m.width m.top (fun i => .lst (fl i) (ints (mls m i)))) → s[rb]? = some (rqb (.lst b (ints p)) id dl most seed) → -9223372036854775808 ≤ m.vocab - 1 ∧ m.vocab - 1 ≤ 9223372036854775807 → fr.g 4 = .ptr mb 1 0 0 → fr.g 6 = .ptr rb 1 0 0 → fr.df = [] → fr.g 5 = I 0 → (∀ (F : Int) (fr' : Fr), reqF m p most seed = F → fr'.g 4 = .ptr mb 1 0 0 → fr'.g 6 = .ptr rb 1 0 0 → fr'.df = [] → fr'.g 5 = I F → Q .normal fr' s) →
      wpM Tryz.prog TW (liftM (upM 0 M)) F_lawAlones.code.r.r.r.r.r.l.r.ca.r Q fr s := fun m fl s mb rb fr b p id dl most seed Q hp hs hq _hv z4 z6 zdf z5 go => by
    have hq' := hq
    simp only [rqb] at hq'
    by_cases c1 : most < 1
    · simp [F_lawAlones, MC.l, MC.r, MC.ca, z6, hq', c1]
      exact go 9 _ (by simp [reqF, inB]; omega) (by simp [z4]) (by simp [z6]) (by simp [zdf]) (by simp)
    by_cases c2 : 32 < most
    · simp [F_lawAlones, MC.l, MC.r, MC.ca, z6, hq', c1, c2]
      exact go 9 _ (by simp [reqF, inB]; omega) (by simp [z4]) (by simp [z6]) (by simp [zdf]) (by simp)
    by_cases c3 : seed < -2147483648
    · simp [F_lawAlones, MC.l, MC.r, MC.ca, z6, hq', c1, c2, c3]
      exact go 9 _ (by simp [reqF, inB]; omega) (by simp [z4]) (by simp [z6]) (by simp [zdf]) (by simp)
    by_cases c4 : 2147483647 < seed
    · simp [F_lawAlones, MC.l, MC.r, MC.ca, z6, hq', c1, c2, c3, c4]
      exact go 9 _ (by simp [reqF, inB]; omega) (by simp [z4]) (by simp [z6]) (by simp [zdf]) (by simp)
    have q1 : inB 1 32 most = true := by simp [inB]; omega
    have q2 : inB (-2147483648) 2147483647 seed = true := by simp [inB]; omega
    by_cases c5 : p.length < 1
    · have : inB 1 32 (p.length : Int) = false := by simp [inB]; omega
      simp [F_lawAlones, MC.l, MC.r, MC.ca, z6, hq', c1, c2, c3, c4, show (p.length : Int) < 1 by omega]
      exact go 3 _ (by simp [reqF, q1, q2, this]) (by simp [z4]) (by simp [z6]) (by simp [zdf]) (by simp)
    by_cases c6 : 32 < p.length
    · have : inB 1 32 (p.length : Int) = false := by simp [inB]; omega
      simp [F_lawAlones, MC.l, MC.r, MC.ca, z6, hq', c1, c2, c3, c4, show ¬ (p.length : Int) < 1 by omega, show (32 : Int) < p.length by omega]
      exact go 3 _ (by simp [reqF, q1, q2, this]) (by simp [z4]) (by simp [z6]) (by simp [zdf]) (by simp)
    have q3 : inB 1 32 (p.length : Int) = true := by simp [inB]; omega
    simp [F_lawAlones, MC.l, MC.r, MC.ca, z6, hq', c1, c2, c3, c4, show ¬ (p.length : Int) < 1 by omega, show ¬ (32 : Int) < p.length by omega, z4]
    refine contains_v (Rd.lst _ _ _) (by omega) (p := fun n => !inB 0 (m.vocab - 1) n) (fun M n K Kp h => lawAlones1_v hs n h) ?_
    have e : (p.any fun n => !inB 0 (m.vocab - 1) n) = !p.all (inB 0 (m.vocab - 1)) := by rw [List.all_eq_not_any_not]; simp
    rw [e]
    cases q4 : p.all (inB 0 (m.vocab - 1)) with
    | false =>
      simp
      exact go 9 _ (by simp [reqF, q1, q2, q3, q4]) (by simp [z4]) (by simp [z6]) (by simp [zdf]) (by simp)
    | true =>
      simp
      exact go 0 _ (by simp [reqF, q1, q2, q3, q4]) (by simp [z4]) (by simp [z6]) (by simp [zdf]) (by simp [z5])
  have tail5 : ∀ (m : LModel) (fl : Nat → Bool) (s : St) (mb rb : Nat) (fr : Fr) (b : Bool) (a : Int), LB 2100 201 m → GS 1 0 [strm f xs 0] s f xs a → 0 ≤ a → a ≤ 100000 → 1 ≤ mb → 1 ≤ rb → mb ≠ rb → s[mb]? = some (mdl m.kind m.vocab m.width m.top (fun i => .lst (fl i) (ints (mls m i)))) → s[rb]? = some (rqb (.lst b (ints [0])) 0 0 1 0) → fr.g 3 = .ptr 0 1 0 0 → fr.g 4 = .ptr mb 1 0 0 → fr.g 6 = .ptr rb 1 0 0 → fr.df = [] → fr.g 5 = I (chkM m) →
      wpM Tryz.prog TW (liftM (upM 0 M)) F_lawAlones.code.r.r.r.r.r (Fin F_lawAlones.res (fun v _ => v = Bo true) (fun _ _ => False)) fr s := fun m fl s mb rb fr b a hb g a0 a1 hmb hrb hne hs hq z3 z4 z6 zdf z5 => by
    have e1 : F_lawAlones.code.r.r.r.r.r = .seq (.seq F_lawAlones.code.r.r.r.r.r.l.l (.cond (.t 19) (.seq F_lawAlones.code.r.r.r.r.r.l.r.ca.l F_lawAlones.code.r.r.r.r.r.l.r.ca.r) .skip)) F_lawAlones.code.r.r.r.r.r.r := rfl
    rw [e1, wp_mseq]
    generalize F_lawAlones.code.r.r.r.r.r.r = c6 at tail6 ⊢
    generalize F_lawAlones.code.r.r.r.r.r.l.r.ca.r = cB at sw ⊢
    have hs' := hs
    simp only [mdl] at hs'
    by_cases hc : chkM m = 0
    · have hg := GenM.of_ok hc
      have hv2 := hg.vocab
      simp [F_lawAlones, MC.l, MC.r, MC.ca, z5, hc, z3, z4, hs']
      refine request_g fl hg g (by simp [upM]) (by omega) fun b2 p id dl most seed s2 a2 hp g2 bb => ?_
      have hs2 := get_but hs bb (by omega)
      have hq2 := get_but hq bb (by omega)
      have hq2' := hq2
      simp only [rqb] at hq2'
      simp [encR, z6, hq2', upM]
      exact sw m fl (s2.set rb (rqb (.lst b2 (ints p)) id dl most seed)) mb rb _ b2 p id dl most seed _ (by omega) (get_ne hs2 (by omega) _) (get_set hq2 _) (by omega) (by simp [z4]) (by simp [z6]) (by simp [zdf]) (by simp [z5, hc]) fun F fr' hF y4 y6 ydf y5 =>
        tail6 F m fl _ mb rb fr' b2 p id dl most seed hb (by omega) (get_ne hs2 (by omega) _) (get_set hq2 _) y4 y6 ydf y5 (Or.inr ⟨hc, hF.symm⟩)
    · have hb1 : (chkM m == 0) = false := by simpa using hc
      simp [F_lawAlones, MC.l, MC.r, MC.ca, z5, hb1]
      exact tail6 (chkM m) m fl s mb rb _ b [0] 0 0 1 0 hb (by simp) hs hq (by simp [z4]) (by simp [z6]) (by simp [zdf]) (by simp [z5]) (Or.inl ⟨hc, rfl⟩)
  clear tail6 sw
  have e0 : F_lawAlones.code = .seq F_lawAlones.code.l (.seq F_lawAlones.code.r.l (.seq F_lawAlones.code.r.r.l (.seq F_lawAlones.code.r.r.r.l (.seq F_lawAlones.code.r.r.r.r.l F_lawAlones.code.r.r.r.r.r)))) := rfl
  generalize F_lawAlones.code.r.r.r.r.r = c5 at tail5 e0
  rw [e0]
  simp [F_lawAlones, MC.l, MC.r]
  have g0 : GS 1 0 [strm f xs 0] [strm f xs 0] f xs 0 := ⟨Same.refl (Nat.le_refl _), rfl, by omega, src⟩
  refine maybe_g g0 (by simp [upM]) (by omega) fun fl m s1 a1 hb e1 e2 g1 b1 => ?_
  have hl1 : s1.length = 1 := b1.1
  simp [encM]
  refine ⟨by simp [upM], ?_⟩
  have m2 : (s1 ++ [mdl m.kind m.vocab m.width m.top (fun i => .lst (fl i) (ints (mls m i)))])[1]? = some (mdl m.kind m.vocab m.width m.top (fun i => .lst (fl i) (ints (mls m i)))) := by simp [hl1]
  have g2 := g1.more [mdl m.kind m.vocab m.width m.top (fun i => .lst (fl i) (ints (mls m i)))]
  have hl2 : (s1 ++ [mdl m.kind m.vocab m.width m.top (fun i => .lst (fl i) (ints (mls m i)))]).length = 2 := by simp [hl1]
  have hMB : Blk.row 27 11 [V.agg [I m.kind, I m.vocab, I m.width, I m.top, .lst (fl 0) (ints m.cuts), .lst (fl 1) (ints m.embed), .lst (fl 2) (ints m.place), .lst (fl 3) (ints m.mix), .lst (fl 4) (ints m.out), .lst (fl 5) (ints m.soft), .lst (fl 6) (ints m.odds)]] = mdl m.kind m.vocab m.width m.top (fun i => .lst (fl i) (ints (mls m i))) := rfl
  refine fault_m fl m hb (by omega) ?_
  rw [hMB, hl1]
  generalize s1 ++ [mdl m.kind m.vocab m.width m.top (fun i => .lst (fl i) (ints (mls m i)))] = s2 at *
  simp [hl2, upM]
  have hRB : ∀ b, Blk.row 51 5 [V.agg [I 0, I 0, .lst b [I 0], I 1, I 0]] = rqb (.lst b (ints [0])) 0 0 1 0 := fun b => rfl
  rw [hRB]
  refine tail5 m fl _ 1 2 _ _ a1 hb (g2.more _) (by omega) (by omega) (by omega) (by omega) (by omega) (get_more m2 _) (by rw [← hl2]; simp; rfl) (by simp) (by simp) (by simp) (by simp) (by simp)
theorem alones_law (v : Value) (xs : List Int) (w : World) (h : LI w v xs) (ht : Tabs w) : Calls Tryz.prog 5 #[v] w fun e w' => e = .returned (.bool true) ∧ Below w.heap.size w w' :=
  law_of (us := [v]) (M := fun _ => true) (alonesL_v false xs ⟨h.2.1, h.2.2⟩) ⟨fun g x hx => (by cases hx), ht.1, ht⟩ (Pw.cons (.pure (prel_li h)) Pw.nil)
end
end Go.Proofs.YtadkhechobeccaaGreatDoor.Vm
