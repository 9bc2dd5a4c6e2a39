/-
  ModelEntries: the law, walked by the value machine.
-/
import Derived.Test.YtneabpgphjcbkaaGreatDoorE6
import Derived.Test.YtneabpgphjcbkaaGreatDoorEnt
import Derived.Test.YtneabpgphjcbkaaGreatDoorVok
namespace Go.Proofs.YtneabpgphjcbkaaGreatDoor.Vm
open Go.RowKit

/-- what models.Entry answers -/
def okTA (m : LModel) (tok at_ : Int) : Bool := decide (0 ≤ tok) && decide (tok < m.vocab) && decide (0 ≤ at_) && decide (at_ < 64)
def EntK (m : LModel) (tok at_ : Int) (st : St) (K : V → St → Prop) : Prop :=
  (chkM m ≠ 0 → K (.tup [.lst true [], I (chkM m)]) st) ∧ (chkM m = 0 → okTA m tok at_ = false → K (.tup [.lst true [], I 9]) st) ∧
  (chkM m = 0 → okTA m tok at_ = true → ∀ g w r vo, EntS m w r vo → K (.tup [.lst g (ints (entM m w tok.toNat (at_.toNat % r))), I 0]) st)
section
variable {T : Tbl} {M : Nat → Bool} {st : St} {K : V → St → Prop} {Kp : List PanicEntry → St → Prop}
theorem frz_pair {n : Nat} {s : St} {x y : V} (hx : x.pl = true) (hy : y.pl = true) : Frz n s (.tup [x, y]) (.tup [x, y]) := by
  refine .tup _ _ rfl fun i a b ha hb => ?_
  rw [ha] at hb
  cases hb
  match i with
  | 0 => cases ha; exact .same _ (V.leaf_pure hx _)
  | 1 => cases ha; exact .same _ (V.leaf_pure hy _)
  | i + 2 => cases ha
theorem mEntry_v {B : Int} {n : Nat} (fl : Nat → Bool) (m : LModel) (hb : LB B n m) (hB : B ≤ 100000) (hn : n ≤ 2000) (tok at_ : Int) (hK : EntK m tok at_ st K) : CallV Tryz.prog T M 18 [encM fl m, I tok, I at_] st K Kp := by
  obtain ⟨k1, k2, k3⟩ := hK
  have hv := hb.sc m.vocab (by simp)
  refine CallV.give (fun_ok hmix c_mEntry (le_of rfl) ?_)
  simp [F_mEntry, encM]
  refine check_m fl m hb (by omega) ?_
  by_cases h : chkM m = 0
  · simp [h]
    refine within_v _ _ _ ?_
    have hw : IntKind.i64.wrap (m.vocab - 1) = m.vocab - 1 := w64 (by omega) (by omega)
    rw [hw]
    cases h1 : inB 0 (m.vocab - 1) tok with
    | false =>
      have hf : okTA m tok at_ = false := by
        simp [inB] at h1
        simp [okTA]
        omega
      simp
      exact ⟨_, frz_pair rfl rfl, Keep0.low (Keep0.refl _), k2 h hf⟩
    | true =>
      simp
      refine within_v _ _ _ ?_
      cases h2 : inB 0 63 at_ with
      | false =>
        have hf : okTA m tok at_ = false := by
          simp [inB] at h2
          simp [okTA]
          omega
        simp
        exact ⟨_, frz_pair rfl rfl, Keep0.low (Keep0.refl _), k2 h hf⟩
      | true =>
        have ht : okTA m tok at_ = true := by
          simp [inB] at h1 h2
          simp [okTA]
          omega
        obtain ⟨w, r, vo, e⟩ := GenM.entS (GenM.of_ok h)
        have hvo := e.hv
        simp [inB] at h1 h2
        obtain ⟨t, rfl⟩ : ∃ t : Nat, tok = (t : Int) := ⟨tok.toNat, by omega⟩
        obtain ⟨a, rfl⟩ : ∃ t : Nat, at_ = (t : Int) := ⟨at_.toNat, by omega⟩
        simp
        refine entry_v fl e t a (by omega) (by omega) fun g => ?_
        simp
        exact ⟨_, frz_pair rfl rfl, Keep0.low (Keep0.refl _), by simpa using k3 h ht g w r vo e⟩
  · have hb1 : (chkM m != 0) = true := by simpa using h
    simp [hb1]
    exact ⟨_, frz_pair rfl rfl, Keep0.low (Keep0.refl _), k1 h⟩
end
section
variable {M : Nat → Bool}
set_option maxRecDepth 10000 in
theorem entries_v (f : Bool) (xs : List Int) (tok at_ : Int) (src : xs.length ≤ 9223372036854775807 ∧ ∀ x ∈ xs, -9223372036854775808 ≤ x ∧ x ≤ 9223372036854775807) (ht : -9223372036854775808 ≤ tok ∧ tok ≤ 9223372036854775807) : CallV Tryz.prog TW M 4 [.lst f (ints xs), I tok, I at_] [] (fun v _ => v = Bo true) (fun _ _ => False) := by
  refine fun_ok hmix c_lawEntries (le_of rfl) ?_
  have ok_nat : ∀ {tok : Int} {m : LModel}, okTA m tok at_ = true → 0 ≤ tok ∧ tok < m.vocab ∧ 0 ≤ at_ ∧ at_ < 64 := fun h => by simpa [okTA, and_assoc] using h
  have last : ∀ (tok : Int) (m : LModel) (fl : Nat → Bool) (s : St) (p : Nat) (fr : Fr) (w r vo : Nat) (g : Bool), EntS m w r vo → s[p]? = some (mdl m.kind m.vocab m.width m.top (fun i => .lst (fl i) (ints (mls m i)))) → fr.g 8 = .ptr p 1 0 0 → fr.g 1 = I tok → fr.g 2 = I at_ → fr.df = [] → okTA m tok at_ = true → fr.g 10 = .lst g (ints (entM m w tok.toNat (at_.toNat % r))) → fr.g 11 = I 0 →
      wpM Tryz.prog TW (liftM (upM 0 M)) F_lawEntries.code.r.r.r.r.r.r.r.r (Fin F_lawEntries.res (fun v _ => v = Bo true) (fun _ _ => False)) fr s := fun tok m fl s p fr w r vo g e hs z8 z1 z2 zdf hok z10 z11 => by
    simp only [mdl] at hs
    obtain ⟨o1, o2, o3, o4⟩ := ok_nat hok
    have hvo := e.hv
    obtain ⟨t, rfl⟩ : ∃ t : Nat, tok = (t : Int) := ⟨tok.toNat, by omega⟩
    obtain ⟨a, ha⟩ : ∃ t : Nat, at_ = (t : Int) := ⟨at_.toNat, by omega⟩
    have e1 : F_lawEntries.code.r.r.r.r.r.r.r.r = .seq (.lst F_lawEntries.code.r.r.r.r.r.r.r.r.l.ops) .ret := rfl
    rw [e1, wp_mseq, wp_mlst]
    refine seq_cut 6 fun L hL => ?_
    simp [F_lawEntries, MC.r, MC.l, MC.ops]
    refine works_m ?_
    simp [z11]
    rw [hL]
    simp [F_lawEntries, MC.r, MC.l, MC.ops, z10, z8, z1, z2, hs, ha]
    refine refEntry_v fl e t a (by omega) (by omega) fun g2 => ?_
    refine equal_r (Rd.lst _ _ _) (Rd.lst _ _ _) ?_ ?_
    · have : (entM m w t (a % r)).length ≤ 3 * w := by unfold entM; split <;> simp [xM]; omega
      have := e.w1
      simp only [Int.toNat_natCast] at *
      omega
    · simp [zdf]
  have tail4 : ∀ (tok F : Int) (m : LModel) (fl : Nat → Bool) (s : St) (p : Nat) (fr : Fr), s[p]? = some (mdl m.kind m.vocab m.width m.top (fun i => .lst (fl i) (ints (mls m i)))) → fr.g 8 = .ptr p 1 0 0 → fr.g 1 = I tok → fr.g 2 = I at_ → fr.df = [] → fr.g 9 = I F → fr.g 11 = I F →
      ((F ≠ 0 ∧ fr.g 10 = .lst true []) ∨ (F = 0 ∧ okTA m tok at_ = true ∧ ∃ g w r vo, EntS m w r vo ∧ fr.g 10 = .lst g (ints (entM m w tok.toNat (at_.toNat % r))))) →
      wpM Tryz.prog TW (liftM (upM 0 M)) F_lawEntries.code.r.r.r.r.r.r.r (Fin F_lawEntries.res (fun v _ => v = Bo true) (fun _ _ => False)) fr s := fun tok F m fl s p fr hs z8 z1 z2 zdf z9 z11 hc => by
    have e1 : F_lawEntries.code.r.r.r.r.r.r.r = .seq F_lawEntries.code.r.r.r.r.r.r.r.l F_lawEntries.code.r.r.r.r.r.r.r.r := rfl
    rw [e1, wp_mseq]
    generalize F_lawEntries.code.r.r.r.r.r.r.r.r = c8 at last ⊢
    rcases hc with ⟨hF, z10⟩ | ⟨rfl, hok, g, w, r, vo, e, z10⟩
    · have hb1 : (F != 0) = true := by simpa using hF
      simp [F_lawEntries, MC.l, MC.r, z9, hb1]
      refine works_m ?_
      simp [z11, z10, zdf]
    · simp [F_lawEntries, MC.l, MC.r, z9]
      exact last tok m fl s p _ w r vo g e hs (by simp [z8]) (by simp [z1]) (by simp [z2]) (by simp [zdf]) hok (by simp [z10]) (by simp [z11])
  have tail3 : ∀ (tok F : Int) (m : LModel) (fl : Nat → Bool) (s : St) (p : Nat) (fr : Fr), LB 2100 201 m → s[p]? = some (mdl m.kind m.vocab m.width m.top (fun i => .lst (fl i) (ints (mls m i)))) → fr.g 8 = .ptr p 1 0 0 → fr.g 1 = I tok → fr.g 2 = I at_ → fr.df = [] → fr.g 9 = I F →
      F = (if chkM m = 0 then (if okTA m tok at_ = true then 0 else 9) else chkM m) →
      wpM Tryz.prog TW (liftM (upM 0 M)) F_lawEntries.code.r.r.r.r.r.r (Fin F_lawEntries.res (fun v _ => v = Bo true) (fun _ _ => False)) fr s := fun tok F m fl s p fr hb hs z8 z1 z2 zdf z9 hF => by
    have e1 : F_lawEntries.code.r.r.r.r.r.r = .seq F_lawEntries.code.r.r.r.r.r.r.l F_lawEntries.code.r.r.r.r.r.r.r := rfl
    rw [e1, wp_mseq]
    generalize F_lawEntries.code.r.r.r.r.r.r.r = c7 at tail4 ⊢
    have hs' := hs
    simp only [mdl] at hs'
    simp [F_lawEntries, MC.l, MC.r, z8, hs', z1, z2]
    refine mEntry_v fl m hb (by omega) (by omega) tok at_ ⟨fun h => ?_, fun h h2 => ?_, fun h h2 g w r vo e => ?_⟩
    · rw [if_neg h] at hF
      simp
      exact tail4 tok F m fl s p _ hs (by simp [z8]) (by simp [z1]) (by simp [z2]) (by simp [zdf]) (by simp [z9]) (by simp [hF]) (Or.inl ⟨by rw [hF]; exact h, by simp⟩)
    · rw [if_pos h, if_neg (by rw [h2]; simp)] at hF
      simp
      exact tail4 tok F m fl s p _ hs (by simp [z8]) (by simp [z1]) (by simp [z2]) (by simp [zdf]) (by simp [z9]) (by simp [hF]) (Or.inl ⟨by omega, by simp⟩)
    · rw [if_pos h, if_pos h2] at hF
      simp
      exact tail4 tok F m fl s p _ hs (by simp [z8]) (by simp [z1]) (by simp [z2]) (by simp [zdf]) (by simp [z9]) (by simp [hF]) (Or.inr ⟨hF, h2, g, w, r, vo, e, by simp⟩)
  have tail2 : ∀ (tok : Int) (m : LModel) (fl : Nat → Bool) (s : St) (p : Nat) (fr : Fr), LB 2100 201 m → s[p]? = some (mdl m.kind m.vocab m.width m.top (fun i => .lst (fl i) (ints (mls m i)))) → fr.g 8 = .ptr p 1 0 0 → fr.g 1 = I tok → fr.g 2 = I at_ → fr.df = [] → fr.g 9 = I (chkM m) →
      wpM Tryz.prog TW (liftM (upM 0 M)) F_lawEntries.code.r.r.r.r.r (Fin F_lawEntries.res (fun v _ => v = Bo true) (fun _ _ => False)) fr s := fun tok m fl s p fr hb hs z8 z1 z2 zdf z9 => by
    have e1 : F_lawEntries.code.r.r.r.r.r = .seq F_lawEntries.code.r.r.r.r.r.l F_lawEntries.code.r.r.r.r.r.r := rfl
    rw [e1, wp_mseq]
    generalize F_lawEntries.code.r.r.r.r.r.r = c6 at tail3 ⊢
    have hs' := hs
    simp only [mdl] at hs'
    by_cases h : chkM m = 0
    · rw [h] at z9
      by_cases h1 : tok < 0
      · simp [F_lawEntries, MC.l, MC.r, z1, z9, h1]
        exact tail3 tok 9 m fl s p _ hb hs (by simp [z8]) (by simp [z1]) (by simp [z2]) (by simp [zdf]) (by simp) (by rw [if_pos h, if_neg]; simp [okTA]; omega)
      · by_cases h2 : m.vocab ≤ tok
        · simp [F_lawEntries, MC.l, MC.r, z1, z8, z9, h1, hs', h2]
          exact tail3 tok 9 m fl s p _ hb hs (by simp [z8]) (by simp [z1]) (by simp [z2]) (by simp [zdf]) (by simp) (by rw [if_pos h, if_neg]; simp [okTA]; omega)
        · by_cases h3 : at_ < 0
          · simp [F_lawEntries, MC.l, MC.r, z1, z2, z8, z9, h1, hs', h2, h3]
            exact tail3 tok 9 m fl s p _ hb hs (by simp [z8]) (by simp [z1]) (by simp [z2]) (by simp [zdf]) (by simp) (by rw [if_pos h, if_neg]; simp [okTA]; omega)
          · by_cases h4 : 64 ≤ at_
            · simp [F_lawEntries, MC.l, MC.r, z1, z2, z8, z9, h1, hs', h2, h3, h4]
              exact tail3 tok 9 m fl s p _ hb hs (by simp [z8]) (by simp [z1]) (by simp [z2]) (by simp [zdf]) (by simp) (by rw [if_pos h, if_neg]; simp [okTA]; omega)
            · simp [F_lawEntries, MC.l, MC.r, z1, z2, z8, z9, h1, hs', h2, h3, h4]
              exact tail3 tok 0 m fl s p _ hb hs (by simp [z8]) (by simp [z1]) (by simp [z2]) (by simp [zdf]) (by simp [z9]) (by rw [if_pos h, if_pos]; simp [okTA]; omega)
    · have hb0 : (chkM m == 0) = false := by simpa using h
      simp [F_lawEntries, MC.l, MC.r, z9, hb0]
      exact tail3 tok (chkM m) m fl s p _ hb hs (by simp [z8]) (by simp [z1]) (by simp [z2]) (by simp [zdf]) (by simp [z9]) (by rw [if_neg h])
  have tail : ∀ (tok : Int) (m : LModel) (fl : Nat → Bool) (s : St) (p : Nat) (fr : Fr), LB 2100 201 m → s[p]? = some (mdl m.kind m.vocab m.width m.top (fun i => .lst (fl i) (ints (mls m i)))) → fr.g 8 = .ptr p 1 0 0 → fr.g 1 = I tok → fr.g 2 = I at_ → fr.df = [] →
      wpM Tryz.prog TW (liftM (upM 0 M)) F_lawEntries.code.r.r.r.r (Fin F_lawEntries.res (fun v _ => v = Bo true) (fun _ _ => False)) fr s := fun tok m fl s p fr hb hs z8 z1 z2 zdf => by
    have e : F_lawEntries.code.r.r.r.r = .seq F_lawEntries.code.r.r.r.r.l F_lawEntries.code.r.r.r.r.r := rfl
    rw [e, wp_mseq]
    generalize F_lawEntries.code.r.r.r.r.r = c5 at tail2 ⊢
    have hs' := hs
    simp only [mdl] at hs'
    simp [F_lawEntries, MC.l, MC.r, z8, hs']
    refine fault_m fl m hb (by omega) ?_
    exact tail2 tok m fl s p _ hb hs (by simp [z8]) (by simp [z1]) (by simp [z2]) (by simp [zdf]) (by simp)
  have e0 : F_lawEntries.code = .seq F_lawEntries.code.l (.seq F_lawEntries.code.r.l (.seq F_lawEntries.code.r.r.l (.seq F_lawEntries.code.r.r.r.l F_lawEntries.code.r.r.r.r))) := rfl
  clear tail2 tail3 tail4 last
  generalize F_lawEntries.code.r.r.r.r = c4 at tail e0
  rw [e0]
  simp [F_lawEntries, MC.l, MC.r]
  have g0 : GS 1 0 [strm f xs 0] [strm f xs 0] f xs 0 := ⟨Same.refl (Nat.le_refl _), rfl, by omega, src⟩
  refine maybe_g g0 (by simp [upM]) (by omega) fun fl m s1 a1 hb e1 e2 g1 b1 => ?_
  have hl1 : s1.length = 1 := b1.1
  simp [encM]
  refine ⟨by simp [upM], ?_⟩
  have m2 : (s1 ++ [mdl m.kind m.vocab m.width m.top (fun i => .lst (fl i) (ints (mls m i)))])[s1.length]? = some (mdl m.kind m.vocab m.width m.top (fun i => .lst (fl i) (ints (mls m i)))) := by simp
  refine flip_g (g1.more [mdl m.kind m.vocab m.width m.top (fun i => .lst (fl i) (ints (mls m i)))]) (by simp [upM]) (by omega) 2 (by omega) fun b s3 g3 b3 => ?_
  have m3 := get_but m2 b3 (by omega)
  cases b with
  | false =>
    simp
    exact tail tok m fl s3 s1.length _ hb m3 (by simp) (by simp) (by simp) (by simp)
  | true =>
    simp
    refine below_v tok 16 ht (by omega) fun r _ _ => ?_
    exact tail r m fl s3 s1.length _ hb m3 (by simp) (by simp) (by simp) (by simp)
theorem entries_law (v : Value) (xs : List Int) (tok at_ : Int) (w : World) (h : LI w v xs) (h1 : -9223372036854775808 ≤ tok ∧ tok ≤ 9223372036854775807) (_h2 : -9223372036854775808 ≤ at_ ∧ at_ ≤ 9223372036854775807) (ht : Tabs w) : Calls Tryz.prog 4 #[v, .int .i64 tok, .int .i64 at_] w fun e w' => e = .returned (.bool true) ∧ Below w.heap.size w w' :=
  law_of (us := [v, .int .i64 tok, .int .i64 at_]) (M := fun _ => true) (entries_v false xs tok at_ ⟨h.2.1, h.2.2⟩ h1) ⟨fun g x hx => (by cases hx), ht.1, ht⟩ (Pw.cons (.pure (prel_li h)) (Pw.cons (.pure (.val _)) (Pw.cons (.pure (.val _)) Pw.nil)))
end
end Go.Proofs.YtneabpgphjcbkaaGreatDoor.Vm
