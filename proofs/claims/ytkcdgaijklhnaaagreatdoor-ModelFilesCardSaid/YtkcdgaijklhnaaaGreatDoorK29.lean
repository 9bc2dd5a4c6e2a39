/-
  ModelFiles: the law, walked by the value machine.
-/
import Derived.Test.YtkcdgaijklhnaaaGreatDoorK28
import Derived.Test.YtkcdgaijklhnaaaGreatDoorK26
namespace Go.Proofs.YtkcdgaijklhnaaaGreatDoor.Vm
open Go.RowKit
theorem fileM_isB (m : LModel) (v : Int) : isB (fileM m v) := isB.app (low4_isB _) (isB.app (fun x hx => by
 simp at hx
 have := u8_rng v
 rcases hx with rfl | rfl | rfl <;> omega) (mbytes_isB _))
theorem fileM_len (m : LModel) (v : Int) (h : ∀ x ∈ listsM m, x.length <= 2000) : (fileM m v).length <= 200007 := by
 have h1 := mbytes_len (topM m v) (by rw [topM_lists]; exact h)
 have h4 : (low4 (codeB ([119, 109, IntKind.u8.wrap v] ++ mbytes (topM m v)))).length = 4 := rfl
 rw [fileM, sealB, List.length_append, h4]
 simp
 omega
theorem opM_lb (l : List Int) : LB 2000 200 (opM l).1 := by
 unfold opM
 have ok : ∀ m : LModel, ¬ chkM m ≠ 0 -> LB 2000 200 m := fun m h => GenM.lb (GenM.of_ok (Decidable.not_not.1 h))
 split
 ·exact zM_lb
 split
 ·exact zM_lb
 split
 ·exact zM_lb
 split
 ·exact zM_lb
 split
 ·split
  ·exact zM_lb
  ·split
   ·exact zM_lb
   ·rename_i h; exact ok _ h
 ·split
  ·exact zM_lb
  ·rename_i h; exact ok _ h
section
variable {M : Nat -> Bool}
abbrev endR (res : List RV) : Post := Fin res (fun v _ => v = Bo true) (fun _ _ => False)
set_option maxHeartbeats 4000000 in
set_option maxRecDepth 10000 in
theorem files_v (f : Bool) (xs : List Int) (v0 : Int) (src : xs.length <= 9223372036854775807 /\ ∀ x ∈ xs, -9223372036854775808 <= x /\ x <= 9223372036854775807) : CallV Tryz.prog TW M 4 [.lst f (ints xs), I v0] [] (fun v _ => v = Bo true) (fun _ _ => False) := by
 refine fun_ok hmix c_lawFiles (le_of rfl) ?_
 have tC : ∀ (fr : Fr) (s : St) (c : List Int) (g : Bool), isB c -> c.length <= 300000 -> fr.g 10 = .lst g (bys c) -> fr.df = [] -> wpM Tryz.prog TW (liftM (upM 0 M)) F_lawFiles.code.r.r.r.r.r.r.r.r.r.r (endR F_lawFiles.res) fr s := fun fr s c g hb hl z10 zdf => by
  simp [F_lawFiles, MC.r, z10]
  refine mOpen_v hb (by omega) fun fk => ?_
  simp [encM]
  refine ⟨by simp [upM], ?_⟩
  refine rOpen_v hb (by omega) fun fj => ?_
  simp [encM]
  refine ⟨by simp [upM], ?_⟩
  refine works_m ?_
  simp
  rw [<- encM]
  refine sameM_v (fa := fk) (fb := fj) (opM_lb c) ?_
  exact ⟨zdf, rfl⟩
 have tB : ∀ (fr : Fr) (s : St) (a : Int) (fl : Nat -> Bool) (m : LModel), LB 2100 201 m -> 0 <= a /\ a <= 1000000 -> GS 1 0 [strm f xs 0] s f xs a -> s[1]? = some (mB fl m) -> s.length = 2 -> fr.g 5 = .ptr 0 1 0 0 -> fr.g 6 = .ptr 1 1 0 0 -> fr.df = [] -> wpM Tryz.prog TW (liftM (upM 0 M)) F_lawFiles.code.r.r.r.r.r.r.r.r (endR F_lawFiles.res) fr s := fun fr s a fl m hb ha g hm hsl z5 z6 zdf => by
  have hlm : ∀ x ∈ listsM m, x.length <= 2000 := fun x hx => by have := hb.lens x hx; omega
  have hm' := hm
  simp only [mB, encM] at hm'
  have e2 : F_lawFiles.code.r.r.r.r.r.r.r.r = .seq (.flat F_lawFiles.code.r.r.r.r.r.r.r.r.l.ops) (.seq F_lawFiles.code.r.r.r.r.r.r.r.r.r.l F_lawFiles.code.r.r.r.r.r.r.r.r.r.r) := rfl
  generalize F_lawFiles.code.r.r.r.r.r.r.r.r.r.r = c10 at tC e2
  generalize hc9 : F_lawFiles.code.r.r.r.r.r.r.r.r.r.l = c9 at e2
  rw [e2, wp_mseq]
  refine wp_mflat [0] [] ?_
  have hrd : ∀ j, rdW [0] [] 1 j = true := fun j => by simp [rdW]
  simp [F_lawFiles, MC.l, MC.r, MC.ops, z5, z6, hm', hrd]
  refine range_g g (by simp [callM, inW, upM]) (by omega) 1 2 (by omega) (by omega) (by omega) fun r s3 r1 r2 g3 b3 => ?_
  rw [<- encM]
  refine rFile_v (fl := fl) (v := r) hlm fun gg => ?_
  have hf1 := fileM_isB m r
  have hf2 := fileM_len m r hlm
  generalize fileM m r = c at hf1 hf2
  rw [<- hc9]
  simp [F_lawFiles, MC.l, MC.r, z5]
  refine flip_g g3 (by simp [upM]) (by omega) 2 (by omega) fun b s4 g4 b4 => ?_
  cases b with
  | false =>
   simp
   exact tC _ s4 _ gg hf1 (by omega) (by simp) (by simp [zdf])
  | true =>
   simp
   refine sBytes_g g4 (by simp [upM]) (by omega) hf1 (by omega) fun g5 l s5 a5 q1 q2 q5 q3 q4 => ?_
   refine flip_g q3 (by simp [upM]) (by omega) 2 (by omega) fun b2 s6 g6 b6 => ?_
   cases b2 with
   | false =>
    simp
    exact tC _ s6 _ g5 q1 (by omega) (by simp) (by simp [zdf])
   | true =>
    simp
    refine repaired_v q1 (by omega) fun g7 => ?_
    exact tC _ s6 _ g7 (repB_isB q1) (by rw [repB_len]; omega) (by simp) (by simp [zdf])
 have tA : ∀ (fr : Fr) (s : St) (a : Int) (fl : Nat -> Bool) (m : LModel) (v : Int), LB 2100 201 m -> 0 <= a /\ a <= 1000000 -> GS 1 0 [strm f xs 0] s f xs a -> s[1]? = some (mB fl m) -> s.length = 2 -> fr.g 1 = I v -> fr.g 5 = .ptr 0 1 0 0 -> fr.g 6 = .ptr 1 1 0 0 -> fr.g 7 = I (wE m v) -> fr.df = [] -> wpM Tryz.prog TW (liftM (upM 0 M)) F_lawFiles.code.r.r.r.r.r.r (endR F_lawFiles.res) fr s := fun fr s a fl m v hb ha g hm hsl z1 z5 z6 z7 zdf => by
  have hlm : ∀ x ∈ listsM m, x.length <= 2000 := fun x hx => by have := hb.lens x hx; omega
  have hm' := hm
  simp only [mB, encM] at hm'
  have e2 : F_lawFiles.code.r.r.r.r.r.r = .seq F_lawFiles.code.r.r.r.r.r.r.l (.seq F_lawFiles.code.r.r.r.r.r.r.r.l F_lawFiles.code.r.r.r.r.r.r.r.r) := rfl
  generalize F_lawFiles.code.r.r.r.r.r.r.r.r = c8 at tB e2
  generalize hc7 : F_lawFiles.code.r.r.r.r.r.r.r.l = c7 at e2
  rw [e2]
  simp [F_lawFiles, MC.l, MC.r, z1, z6, hm']
  rw [<- encM]
  refine mWrite_v (fl := fl) hlm fun g1 => ?_
  have hf2 := fileM_len m v hlm
  by_cases hc : wE m v = 0
  ·rw [hc, if_pos rfl]
   rw [hc] at z7
   simp
   rw [<- hc7]
   simp [F_lawFiles, MC.l, MC.r, z1, z6, z7, hm']
   rw [<- encM]
   refine rFile_v (fl := fl) (v := v) hlm fun gg => ?_
   refine equalB_r ⟨g1, rfl⟩ ⟨gg, rfl⟩ (by omega) ?_
   simp
   exact tB _ s a fl m hb ha g hm hsl (by simp [z5]) (by simp [z6]) (by simp [zdf])
  ·have hcb : (wE m v != 0) = true := by simpa using hc
   rw [if_neg hc]
   simp
   rw [<- hc7]
   simp [F_lawFiles, MC.l, MC.r, z7, hcb]
   exact tB _ s a fl m hb ha g hm hsl (by simp [z5]) (by simp [z6]) (by simp [zdf])
 have tF : ∀ (fr : Fr) (s : St) (a : Int) (fl : Nat -> Bool) (m : LModel) (v : Int), LB 2100 201 m -> 0 <= a /\ a <= 1000000 -> GS 1 0 [strm f xs 0] s f xs a -> s[1]? = some (mB fl m) -> s.length = 2 -> fr.g 1 = I v -> fr.g 5 = .ptr 0 1 0 0 -> fr.g 6 = .ptr 1 1 0 0 -> fr.df = [] -> wpM Tryz.prog TW (liftM (upM 0 M)) F_lawFiles.code.r.r.r.r (endR F_lawFiles.res) fr s := fun fr s a fl m v hb ha g hm hsl z1 z5 z6 zdf => by
  have hm' := hm
  simp only [mB, encM] at hm'
  have e2 : F_lawFiles.code.r.r.r.r = .seq F_lawFiles.code.r.r.r.r.l (.seq F_lawFiles.code.r.r.r.r.r.l F_lawFiles.code.r.r.r.r.r.r) := rfl
  generalize F_lawFiles.code.r.r.r.r.r.r = c6 at tA e2
  generalize hc5 : F_lawFiles.code.r.r.r.r.r.l = c5 at e2
  rw [e2]
  simp [F_lawFiles, MC.l, MC.r, z6, hm']
  rw [<- encM]
  refine fault_m fl m hb (by omega) ?_
  rw [<- hc5]
  by_cases hc : chkM m = 0
  ·by_cases h1 : v = 1
   ·subst h1
    by_cases ht : m.top = m.vocab
    ·have hw : wE m 1 = 0 := by unfold wE; rw [if_neg (fun h => h hc), if_neg (by omega), if_neg (fun h => h.2 ht)]
     simp [F_lawFiles, MC.l, MC.r, hc, z1, z6, hm', ht]
     exact tA _ s a fl m 1 hb ha g hm hsl (by simp [z1]) (by simp [z5]) (by simp [z6]) (by simp [hw]) (by simp [zdf])
    ·have hw : wE m 1 = 17 := by unfold wE; rw [if_neg (fun h => h hc), if_neg (by omega), if_pos ⟨rfl, ht⟩]
     have htb : (m.top != m.vocab) = true := by simpa using ht
     simp [F_lawFiles, MC.l, MC.r, hc, z1, z6, hm', htb]
     exact tA _ s a fl m 1 hb ha g hm hsl (by simp [z1]) (by simp [z5]) (by simp [z6]) (by simp [hw]) (by simp [zdf])
   ·by_cases h2 : v = 2
    ·subst h2
     have hw : wE m 2 = 0 := by unfold wE; rw [if_neg (fun h => h hc), if_neg (by omega), if_neg (by omega)]
     simp [F_lawFiles, MC.l, MC.r, hc, z1]
     exact tA _ s a fl m 2 hb ha g hm hsl (by simp [z1]) (by simp [z5]) (by simp [z6]) (by simp [hw]) (by simp [zdf])
    ·have hw : wE m v = 1 := by unfold wE; rw [if_neg (fun h => h hc), if_pos ⟨h1, h2⟩]
     rcases (show v < 1 \/ 2 < v by omega) with q | q
     ·simp [F_lawFiles, MC.l, MC.r, hc, z1, q]
      exact tA _ s a fl m v hb ha g hm hsl (by simp [z1]) (by simp [z5]) (by simp [z6]) (by simp [hw]) (by simp [zdf])
     ·have qn : ¬ v < 1 := by omega
      simp [F_lawFiles, MC.l, MC.r, hc, z1, q, qn]
      exact tA _ s a fl m v hb ha g hm hsl (by simp [z1]) (by simp [z5]) (by simp [z6]) (by simp [hw]) (by simp [zdf])
  ·have hcb : (chkM m != 0) = true := by simpa using hc
   have hw : wE m v = chkM m := by unfold wE; rw [if_pos hc]
   simp [F_lawFiles, MC.l, MC.r, hcb]
   exact tA _ s a fl m v hb ha g hm hsl (by simp [z1]) (by simp [z5]) (by simp [z6]) (by simp [hw]) (by simp [zdf])
 have e1 : F_lawFiles.code = .seq F_lawFiles.code.l (.seq F_lawFiles.code.r.l (.seq F_lawFiles.code.r.r.l (.seq F_lawFiles.code.r.r.r.l F_lawFiles.code.r.r.r.r))) := rfl
 generalize F_lawFiles.code.r.r.r.r = c4 at tF e1
 generalize hc3 : F_lawFiles.code.r.r.r.l = c3 at e1
 rw [e1]
 simp [F_lawFiles, MC.l, MC.r]
 have g0 : GS 1 0 [strm f xs 0] [strm f xs 0] f xs 0 := ⟨Same.refl (Nat.le_refl _), rfl, by omega, src⟩
 refine maybe_g g0 (by simp [upM]) (by omega) fun fl m s1 a1 hb e1 e2 g1 b1 => ?_
 have hl1 : s1.length = 1 := b1.1
 simp [encM]
 refine ⟨by simp [upM], ?_⟩
 have hB : Blk.row 27 11 [V.agg [I m.kind, I m.vocab, I m.width, I m.top, .lst (fl 0) (ints m.cuts), .lst (fl 1) (ints m.embed), .lst (fl 2) (ints m.place), .lst (fl 3) (ints m.mix), .lst (fl 4) (ints m.out), .lst (fl 5) (ints m.soft), .lst (fl 6) (ints m.odds)]] = mB fl m := rfl
 rw [hB, hl1]
 have hm2 : (s1 ++ [mB fl m])[1]? = some (mB fl m) := by rw [<- hl1]; simp
 have hl2 : (s1 ++ [mB fl m]).length = 2 := by simp [hl1]
 have g2 := g1.more [mB fl m]
 generalize s1 ++ [mB fl m] = s2 at *
 rw [<- hc3]
 simp [F_lawFiles, MC.l, MC.r]
 refine flip_g g2 (by simp [upM]) (by omega) 6 (by omega) fun b s3 g3 b3 => ?_
 have hm3 := get_but hm2 b3 (by omega)
 have hl3 : s3.length = 2 := b3.1.trans hl2
 cases b with
 | true =>
  simp
  exact tF _ s3 _ fl m v0 hb ⟨by omega, by omega⟩ g3 hm3 hl3 (by simp) (by simp) (by simp) (by simp)
 | false =>
  simp
  refine range_g g3 (by simp [upM]) (by omega) 1 2 (by omega) (by omega) (by omega) fun r s4 r1 r2 g4 b4 => ?_
  exact tF _ s4 _ fl m r hb ⟨by omega, by omega⟩ g4 (get_but hm3 b4 (by omega)) (b4.1.trans hl3) (by simp) (by simp) (by simp) (by simp)
theorem files_law (v : Value) (xs : List Int) (d : Int) (w : World) (h : LI w v xs) (_hd : -9223372036854775808 <= d /\ d <= 9223372036854775807) (ht : Tabs w) : Calls Tryz.prog 4 #[v, .int .i64 d] w fun e w' => e = .returned (.bool true) /\ Below w.heap.size w w' :=
 law_of (us := [v, .int .i64 d]) (M := fun _ => true) (files_v false xs d ⟨h.2.1, h.2.2⟩) ⟨fun g x hx => (by cases hx), ht.1, ht⟩ (Pw.cons (.pure (prel_li h)) (Pw.cons (.pure (.val _)) Pw.nil))
end
end Go.Proofs.YtkcdgaijklhnaaaGreatDoor.Vm
