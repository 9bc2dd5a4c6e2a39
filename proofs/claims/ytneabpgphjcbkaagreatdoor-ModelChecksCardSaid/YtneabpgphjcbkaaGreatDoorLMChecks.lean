/-
  ModelChecks: the law, walked by the value machine.
-/
import Derived.Test.YtneabpgphjcbkaaGreatDoorE6
namespace Go.Proofs.YtneabpgphjcbkaaGreatDoor.Vm
open Go.RowKit

section
variable {M : Nat → Bool}
/-- the first n operations, then the rest -/
theorem steps_cut {P : Program} {T : Tbl} {M rd : Nat → Nat → Bool} {st0 st : St} {Q : Post} {K : Fr → St → Prop} {D : List Nat} {fr : Fr} {ms : List MO} (n : Nat) (h : ∀ L, L = ms.drop n → stepsV P T M rd st0 Q K (ms.take n ++ L) D fr st) : stepsV P T M rd st0 Q K ms D fr st := by
  have := h _ rfl
  rwa [List.take_append_drop] at this
theorem seq_cut {P : Program} {T : Tbl} {M : Nat → Nat → Bool} {st : St} {Q : Post} {K : Fr → St → Prop} {fr : Fr} {ms : List MO} (n : Nat) (h : ∀ L, L = ms.drop n → seqV P T M Q K (ms.take n ++ L) fr st) : seqV P T M Q K ms fr st := by
  have := h _ rfl
  rwa [List.take_append_drop] at this
theorem eqM_refl (m : LModel) : eqM m m = true := (eqM_iff m m).2 rfl
set_option maxRecDepth 10000 in
theorem checks_v (f : Bool) (xs : List Int) (src : xs.length ≤ 9223372036854775807 ∧ ∀ x ∈ xs, -9223372036854775808 ≤ x ∧ x ≤ 9223372036854775807) : CallV Tryz.prog TW M 3 [.lst f (ints xs)] [] (fun v _ => v = Bo true) (fun _ _ => False) := by
  refine fun_ok hmix c_lawChecks (le_of rfl) ?_
  simp [F_lawChecks]
  have g0 : GS 1 0 [strm f xs 0] [strm f xs 0] f xs 0 := ⟨Same.refl (Nat.le_refl _), rfl, by omega, src⟩
  refine maybe_g g0 (by simp [upM]) (by omega) fun fl m s1 a1 hb e1 e2 g1 b1 => ?_
  have hl1 : s1.length = 1 := b1.1
  simp [encM]
  refine ⟨by simp [upM], ?_⟩
  have m2 : (s1 ++ [mdl m.kind m.vocab m.width m.top (fun i => .lst (fl i) (ints (mls m i)))])[s1.length]? = some (mdl m.kind m.vocab m.width m.top (fun i => .lst (fl i) (ints (mls m i)))) := by simp
  refine tainted_g fl m (g1.more [mdl m.kind m.vocab m.width m.top (fun i => .lst (fl i) (ints (mls m i)))]) (by simp [upM]) (by omega) (B := 2100) (k := 201) (by omega) (by omega) hb fun fk k s3 a3 q1 q2 q3 g3 b3 => ?_
  have hl3 : s3.length = 2 := by rw [b3.1]; simp [hl1]
  have m3 := get_but m2 b3 (by omega)
  simp only [mdl] at m3
  simp [encM]
  refine ⟨by simp [upM], ?_⟩
  generalize hs4 : s3 ++ [Blk.row 27 11 [V.agg [I k.kind, I k.vocab, I k.width, I k.top, .lst (fk 0) (ints k.cuts), .lst (fk 1) (ints k.embed), .lst (fk 2) (ints k.place), .lst (fk 3) (ints k.mix), .lst (fk 4) (ints k.out), .lst (fk 5) (ints k.soft), .lst (fk 6) (ints k.odds)]]] = s4
  have m4 : s4[s1.length]? = some (.row 27 11 [V.agg [I m.kind, I m.vocab, I m.width, I m.top, .lst (fl 0) (ints m.cuts), .lst (fl 1) (ints m.embed), .lst (fl 2) (ints m.place), .lst (fl 3) (ints m.mix), .lst (fl 4) (ints m.out), .lst (fl 5) (ints m.soft), .lst (fl 6) (ints m.odds)]]) := by rw [← hs4]; exact get_more m3 _
  have k4 : s4[s3.length]? = some (.row 27 11 [V.agg [I k.kind, I k.vocab, I k.width, I k.top, .lst (fk 0) (ints k.cuts), .lst (fk 1) (ints k.embed), .lst (fk 2) (ints k.place), .lst (fk 3) (ints k.mix), .lst (fk 4) (ints k.out), .lst (fk 5) (ints k.soft), .lst (fk 6) (ints k.odds)]]) := by rw [← hs4]; simp
  clear hs4 m2 m3
  simp [m4]
  refine fault_m fl m hb (by omega) ?_
  simp [m4]
  refine vocab_m fl m hb (by omega) ?_
  simp [m4]
  refine length_m fl m hb (by omega) (by omega) ?_
  simp
  have tail : ∀ (X Y : Int) (fr : Fr), fr.g 4 = .ptr s1.length 1 0 0 → fr.g 5 = .ptr s3.length 1 0 0 → fr.g 6 = I (chkM m) → fr.g 7 = I X → fr.g 8 = I (chkM m) → fr.g 9 = I Y → fr.g 10 = I (chkM m) → fr.g 11 = I X → fr.g 12 = I Y → fr.df = [] →
      wpM Tryz.prog TW (liftM (upM 0 M)) F_lawChecks.code.r.r.r.r.r.r.r.r.r (Fin F_lawChecks.res (fun v _ => v = Bo true) (fun _ _ => False)) fr s4 := fun X Y fr z4 z5 z6 z7 z8 z9 z10 z11 z12 zdf => by
    simp [F_lawChecks, MC.r]
    refine wp_mflat [] [] ?_
    refine steps_cut 8 fun L hL => ?_
    simp
    refine works_m ?_
    simp [z4, m4]
    refine check_m fl m hb (by omega) ?_
    simp [z6]
    rw [hL]
    refine steps_cut 7 fun L hL => ?_
    simp [z5, k4]
    refine check_m fk k q1 (by omega) ?_
    refine fault_m fk k q1 (by omega) ?_
    simp
    rw [hL]
    refine steps_cut 5 fun L hL => ?_
    simp [z4, m4]
    refine equal_m fl m fl m hb hb (by omega) ?_
    simp [eqM_refl]
    rw [hL]
    refine steps_cut 9 fun L hL => ?_
    simp [z4, z5, m4, k4]
    refine equal_m fl m fk k (hb.wide (by omega) (by omega)) q1 (by omega) ?_
    refine same_m fl m fk k (hb.wide (by omega) (by omega)) q1 (by omega) (by omega) ?_
    simp
    rw [hL]
    simp [z6, z7, z8, z9, z10, z11, z12, zdf]
  by_cases h : chkM m = 0
  · simp [h]
    refine wp_mflat [] [] ?_
    simp [m4]
    refine elen_m fl m hb (by omega) (by omega) ?_
    refine tail m.vocab (lenM m) _ ?_ ?_ ?_ ?_ ?_ ?_ ?_ ?_ ?_ ?_ <;> simp [h]
  · simp [show (chkM m == 0) = false by simpa using h]
    refine tail 0 0 _ ?_ ?_ ?_ ?_ ?_ ?_ ?_ ?_ ?_ ?_ <;> simp [h]
theorem checks_law (v : Value) (xs : List Int) (w : World) (h : LI w v xs) (ht : Tabs w) : Calls Tryz.prog 3 #[v] w fun e w' => e = .returned (.bool true) ∧ Below w.heap.size w w' :=
  law_of (us := [v]) (M := fun _ => true) (checks_v false xs ⟨h.2.1, h.2.2⟩) ⟨fun g x hx => (by cases hx), ht.1, ht⟩ (Pw.cons (.pure (prel_li h)) Pw.nil)
end
end Go.Proofs.YtneabpgphjcbkaaGreatDoor.Vm
