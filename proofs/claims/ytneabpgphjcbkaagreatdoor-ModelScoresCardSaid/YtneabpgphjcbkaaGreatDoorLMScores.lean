/-
  ModelScores: the law, walked by the value machine.
-/
import Derived.Test.YtneabpgphjcbkaaGreatDoorSel
import Derived.Test.YtneabpgphjcbkaaGreatDoorGok
namespace Go.Proofs.YtneabpgphjcbkaaGreatDoor.Vm
open Go.RowKit

section
variable {n sb : Nat} {st s : St} {f : Bool} {xs : List Int} {a : Int} {T : Tbl} {M : Nat → Bool} {K : V → St → Prop} {Kp : List PanicEntry → St → Prop}
theorem listed_g {m : LModel} {w r vo : Nat} (fl : Nat → Bool) (e : EntS m w r vo) (g : GS n sb st s f xs a) (hM : M sb = true) (ha : 0 ≤ a ∧ a ≤ 100000) (hK : ∀ b vs es s' a', EsL vs es → a ≤ a' → a' ≤ a + 2000 → GS n sb st s' f xs a' → But sb s s' → K (.lst b vs) s') : CallV Tryz.prog T M 22 [.ptr sb 1 0 0, encM fl m] s K Kp :=
  listed_v fl e sb g.str hM g.src ha fun b vs es a' h1 h2 h3 => hK b vs es _ a' h1 h2 h3 (g.next _) (But.set _ _ _)
end
section
variable {M : Nat → Bool}
set_option maxRecDepth 10000 in
theorem scoresL_v (f : Bool) (xs : List Int) (src : xs.length ≤ 9223372036854775807 ∧ ∀ x ∈ xs, -9223372036854775808 ≤ x ∧ x ≤ 9223372036854775807) : CallV Tryz.prog TW M 5 [.lst f (ints xs)] [] (fun v _ => v = Bo true) (fun _ _ => False) := by
  refine fun_ok hmix c_lawScores (le_of rfl) ?_
  have last : ∀ (m : LModel) (fl : Nat → Bool) (s : St) (p : Nat) (fr : Fr) (w r vo q : Nat) (g b : Bool) (vs : List V) (es : List (List Int)), ScS m w r vo q → EsV vs es (lenW m w) → s[p]? = some (mdl m.kind m.vocab m.width m.top (fun i => .lst (fl i) (ints (mls m i)))) → fr.g 4 = .ptr p 1 0 0 → fr.g 5 = .lst b vs → fr.df = [] → fr.g 7 = .lst g (ints (scoM m w q vo es)) → fr.g 8 = I 0 →
      wpM Tryz.prog TW (liftM (upM 0 M)) F_lawScores.code.r.r.r.r.r.r.r (Fin F_lawScores.res (fun v _ => v = Bo true) (fun _ _ => False)) fr s := fun m fl s p fr w r vo q g b vs es e hE hs z4 z5 zdf z7 z8 => by
    simp only [mdl] at hs
    have e1 : F_lawScores.code.r.r.r.r.r.r.r = .seq (.lst F_lawScores.code.r.r.r.r.r.r.r.l.ops) .ret := rfl
    rw [e1, wp_mseq, wp_mlst]
    refine seq_cut 6 fun L hL => ?_
    simp [F_lawScores, MC.r, MC.l, MC.ops]
    refine works_m ?_
    simp [z8]
    rw [hL]
    simp [F_lawScores, MC.r, MC.l, MC.ops, z7, z4, z5, hs]
    refine refScores_v fl e hE fun g2 => ?_
    refine equal_r (Rd.lst _ _ _) (Rd.lst _ _ _) ?_ ?_
    · have := e.v1
      simp [scoM]
      omega
    · simp [zdf]
  have tail4 : ∀ (F : Int) (m : LModel) (fl : Nat → Bool) (s : St) (p : Nat) (fr : Fr) (b : Bool) (vs : List V) (es : List (List Int)) (w r vo q : Nat), ScS m w r vo q → s[p]? = some (mdl m.kind m.vocab m.width m.top (fun i => .lst (fl i) (ints (mls m i)))) → fr.g 4 = .ptr p 1 0 0 → fr.g 5 = .lst b vs → fr.df = [] → fr.g 6 = I F → fr.g 8 = I F →
      ((F ≠ 0 ∧ fr.g 7 = .lst true []) ∨ (F = 0 ∧ EsV vs es (lenW m w) ∧ ∃ g, fr.g 7 = .lst g (ints (scoM m w q vo es)))) →
      wpM Tryz.prog TW (liftM (upM 0 M)) F_lawScores.code.r.r.r.r.r.r (Fin F_lawScores.res (fun v _ => v = Bo true) (fun _ _ => False)) fr s := fun F m fl s p fr b vs es w r vo q e hs z4 z5 zdf z6 z8 hc => by
    have e1 : F_lawScores.code.r.r.r.r.r.r = .seq F_lawScores.code.r.r.r.r.r.r.l F_lawScores.code.r.r.r.r.r.r.r := rfl
    rw [e1, wp_mseq]
    generalize F_lawScores.code.r.r.r.r.r.r.r = c8 at last ⊢
    rcases hc with ⟨hF, z7⟩ | ⟨rfl, hE, g, z7⟩
    · have hb1 : (F != 0) = true := by simpa using hF
      simp [F_lawScores, MC.l, MC.r, z6, hb1]
      refine works_m ?_
      simp [z8, z7, zdf]
    · simp [F_lawScores, MC.l, MC.r, z6]
      exact last m fl s p _ w r vo q g b vs es e hE hs (by simp [z4]) (by simp [z5]) (by simp [zdf]) (by simp [z7]) (by simp [z8])
  have tail2 : ∀ (m : LModel) (fl : Nat → Bool) (s : St) (p : Nat) (fr : Fr) (b : Bool) (vs : List V) (es : List (List Int)), GenM m → EsL vs es → s[p]? = some (mdl m.kind m.vocab m.width m.top (fun i => .lst (fl i) (ints (mls m i)))) → fr.g 4 = .ptr p 1 0 0 → fr.g 5 = .lst b vs → fr.df = [] →
      wpM Tryz.prog TW (liftM (upM 0 M)) F_lawScores.code.r.r.r.r (Fin F_lawScores.res (fun v _ => v = Bo true) (fun _ _ => False)) fr s := fun m fl s p fr b vs es hg hE hs z4 z5 zdf => by
    obtain ⟨w, r, vo, q, e⟩ := GenM.scS hg
    have e1 : F_lawScores.code.r.r.r.r = .seq F_lawScores.code.r.r.r.r.l (.seq F_lawScores.code.r.r.r.r.r.l F_lawScores.code.r.r.r.r.r.r) := rfl
    rw [e1, wp_mseq]
    generalize F_lawScores.code.r.r.r.r.r.r = c6 at tail4 ⊢
    have hs' := hs
    simp only [mdl] at hs'
    simp [F_lawScores, MC.l, MC.r, z4, z5, hs']
    refine entryFault_v fl e.hw e.w1.2 hE ?_
    simp [hs']
    refine mScores_v fl e (GenM.lb hg) (by omega) (GenM.ok hg) hE (fun hF => ?_) (fun hF g => ?_)
    · simp
      exact tail4 (efM (lenW m w) es) m fl s p _ b vs es w r vo q e hs (by simp [z4]) (by simp [z5]) (by simp [zdf]) (by simp) (by simp) (Or.inl ⟨hF, by simp⟩)
    · simp
      exact tail4 (efM (lenW m w) es) m fl s p _ b vs es w r vo q e hs (by simp [z4]) (by simp [z5]) (by simp [zdf]) (by simp) (by simp [hF]) (Or.inr ⟨hF, hE.esV hF, g, by simp⟩)
  have e0 : F_lawScores.code = .seq F_lawScores.code.l (.seq F_lawScores.code.r.l (.seq F_lawScores.code.r.r.l (.seq F_lawScores.code.r.r.r.l F_lawScores.code.r.r.r.r))) := rfl
  clear tail4 last
  generalize F_lawScores.code.r.r.r.r = c4 at tail2 e0
  rw [e0]
  simp [F_lawScores, MC.l, MC.r]
  have g0 : GS 1 0 [strm f xs 0] [strm f xs 0] f xs 0 := ⟨Same.refl (Nat.le_refl _), rfl, by omega, src⟩
  refine gmodel_g g0 (by simp [upM]) (by omega) fun fl m s1 a1 hg e1 e2 g1 b1 => ?_
  have hl1 : s1.length = 1 := b1.1
  obtain ⟨w, r, vo, e⟩ := GenM.entS hg
  simp [encM]
  refine ⟨by simp [upM], ?_⟩
  have m2 : (s1 ++ [mdl m.kind m.vocab m.width m.top (fun i => .lst (fl i) (ints (mls m i)))])[s1.length]? = some (mdl m.kind m.vocab m.width m.top (fun i => .lst (fl i) (ints (mls m i)))) := by simp
  refine listed_g fl e (g1.more [mdl m.kind m.vocab m.width m.top (fun i => .lst (fl i) (ints (mls m i)))]) (by simp [upM]) (by omega) fun b vs es s3 a3 hE h1 h2 g3 b3 => ?_
  have m3 := get_but m2 b3 (by omega)
  exact tail2 m fl s3 s1.length _ b vs es hg hE m3 (by simp) (by simp) (by simp)
theorem scores_law (v : Value) (xs : List Int) (w : World) (h : LI w v xs) (ht : Tabs w) : Calls Tryz.prog 5 #[v] w fun e w' => e = .returned (.bool true) ∧ Below w.heap.size w w' :=
  law_of (us := [v]) (M := fun _ => true) (scoresL_v false xs ⟨h.2.1, h.2.2⟩) ⟨fun g x hx => (by cases hx), ht.1, ht⟩ (Pw.cons (.pure (prel_li h)) Pw.nil)
end
end Go.Proofs.YtneabpgphjcbkaaGreatDoor.Vm
