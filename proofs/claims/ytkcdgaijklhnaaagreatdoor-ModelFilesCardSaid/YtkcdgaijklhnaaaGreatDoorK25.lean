/-
  The reference's unpacker, run by the value machine: many, list.
  slices.Clone of bytes, run by the value machine.
  The reference reads a model from bytes, run by the value machine.
  Stream.Tainted, run by the value machine.
  maybe, run by the value machine; the reference's check of a model as its call.
  More contracts on models, as calls of the value machine.
-/
import Derived.Test.YtkcdgaijklhnaaaGreatDoorK23
import Derived.Test.YtkcdgaijklhnaaaGreatDoorK22
import Derived.Test.YtkcdgaijklhnaaaGreatDoorK08
import Derived.Test.YtkcdgaijklhnaaaGreatDoorK07
import Derived.Test.YtkcdgaijklhnaaaGreatDoorK21
import Derived.Test.YtkcdgaijklhnaaaGreatDoorK24
namespace Go.Proofs.YtkcdgaijklhnaaaGreatDoor.Vm
open Go.RowKit
theorem pU_err : ∀ {f k : Nat} {acc : Int} {l : List Int} {e : Int}, pU f k acc l = .inl e → e ≠ 0
 | f, k, acc, [], e, h => by cases f <;> (cases h; decide)
 | 0, k, acc, c :: r, e, h => by
  unfold pU at h
  split at h
  ·split at h
   ·cases h; decide
   ·cases h
  ·cases h; decide
 | f + 1, k, acc, c :: r, e, h => by
  unfold pU at h
  split at h
  ·split at h
   ·cases h; decide
   ·cases h
  ·exact pU_err h
theorem pNum_err {l : List Int} {e : Int} (h : pNum l = .inl e) : e ≠ 0 := by
 unfold pNum at h
 cases hu : pU 4 0 0 l with
 | inl e' => rw [hu] at h; cases h; exact pU_err hu
 | inr q =>
  obtain ⟨u, r'⟩ := q
  rw [hu] at h
  simp only [pFin] at h
  split at h
  ·cases h
  ·cases h; decide
theorem pCnt_err {l : List Int} {e : Int} (h : pCnt l = .inl e) : e ≠ 0 := by
 unfold pCnt at h
 split at h
 ·rename_i hn; cases h; exact pNum_err hn
 ·split at h
  ·cases h; decide
  ·cases h
theorem pMany_err : ∀ {n : Nat} {acc l : List Int} {e : Int}, pMany n acc l = .inl e → e ≠ 0
 | 0, acc, l, e, h => by cases h
 | n + 1, acc, l, e, h => by
  unfold pMany at h
  split at h
  ·rename_i hn; cases h; exact pNum_err hn
  ·exact pMany_err h
theorem pLst_err {l : List Int} {e : Int} (h : pLst l = .inl e) : e ≠ 0 := by
 unfold pLst at h
 split at h
 ·rename_i hn; cases h; exact pCnt_err hn
 ·exact pMany_err h
theorem pU_pos : ∀ {f k : Nat} {acc : Int} {l : List Int} {u : Int} {r : List Int}, pU f k acc l = .inr (u, r) → 0 ≤ acc → 0 ≤ u
 | f, k, acc, [], u, r, h, _ => by cases f <;> cases h
 | 0, k, acc, c :: l, u, r, h, ha => by
  have := Int.mul_nonneg (show 0 ≤ c % 128 by omega) (show (0 : Int) ≤ 2 ^ (7 * k) from Int.pow_nonneg (by omega))
  unfold pU at h
  split at h
  ·split at h
   ·cases h
   ·cases h; omega
  ·cases h
 | f + 1, k, acc, c :: l, u, r, h, ha => by
  have := Int.mul_nonneg (show 0 ≤ c % 128 by omega) (show (0 : Int) ≤ 2 ^ (7 * k) from Int.pow_nonneg (by omega))
  unfold pU at h
  split at h
  ·split at h
   ·cases h
   ·cases h; omega
  ·exact pU_pos h (by omega)
theorem pNum_bnd {l : List Int} {n : Int} {r : List Int} (h : pNum l = .inr (n, r)) : n < 2147483648 := by
 unfold pNum at h
 cases hu : pU 4 0 0 l with
 | inl e' => rw [hu] at h; cases h
 | inr q =>
  obtain ⟨u, r'⟩ := q
  have := pU_pos hu (by omega)
  rw [hu] at h
  simp only [pFin] at h
  split at h
  ·cases h
   unfold decU
   split <;> omega
  ·cases h
theorem pCnt_bnd {l : List Int} {n : Int} {r : List Int} (h : pCnt l = .inr (n, r)) : n < 2147483648 := by
 unfold pCnt at h
 split at h
 ·cases h
 ·rename_i hn
  split at h
  ·cases h
  ·cases h; exact pNum_bnd hn
section
variable {T : Tbl} {M : Nat → Bool} {st : St} {K : V → St → Prop} {Kp : List PanicEntry → St → Prop}
theorem umany_v {f : Bool} {l : List Int} {ub : Nat} {e : Int} (hs : st[ub]? = some (urB f l e)) (hM : M ub = true) (hl : e = 0 → isB l) (hE : e ≠ 0 → K (I 0) st) (h0 : e = 0 → ∀ e' r, pCnt l = .inl e' → K (I 0) (st.set ub (urB f r e'))) (h1 : e = 0 → ∀ n r, pCnt l = .inr (n, r) → K (I n) (st.set ub (urB f r 0))) : CallV Tryz.prog T M 140 [.ptr ub 1 0 0] st K Kp := by
 refine fun_ok hmix c_umany (le_of rfl) ?_
 have hup : upM st.length M ub = true := upM_of hM
 have hlt : ub < st.length := (List.getElem?_eq_some_iff.1 hs).1
 simp [F_umany]
 refine unum_v hs hup hl (fun he => ?_) (fun he e' r h => ?_) (fun he n r h => ?_)
 ·have hs' := hs
  simp only [urB] at hs'
  have hb : (e != 0) = true := by simpa using he
  simp [hs', hb]
  exact hE he
 ·have hb : (e' != 0) = true := by simpa using pNum_err h
  have : pCnt l = .inl e' := by unfold pCnt; rw [h]
  have h0' := h0 he e' r this
  simp only [urB] at h0'
  simp [urB, hlt, hb]
  exact h0'
 ·by_cases hn : n < 0
  ·have : pCnt l = .inl 3 := by unfold pCnt; rw [h]; exact if_pos hn
   have h0' := h0 he 3 r this
   simp only [urB] at h0'
   simp [urB, hlt, hn, hup]
   exact h0'
  ·have : pCnt l = .inr (n, r) := by unfold pCnt; rw [h]; exact if_neg hn
   have h1' := h1 he n r this
   simp only [urB] at h1'
   simp [urB, hlt, hn]
   exact h1'
theorem ulist_v {f : Bool} {l : List Int} {ub : Nat} {e : Int} (hs : st[ub]? = some (urB f l e)) (hM : M ub = true) (hl : e = 0 → isB l) (hlen : e = 0 → l.length ≤ 1000000) (hE : e ≠ 0 → K (.lst true []) st) (h0 : e = 0 → ∀ g out e' r, pLst l = .inl e' → K (.lst g (ints out)) (st.set ub (urB f r e'))) (h1 : e = 0 → ∀ g out r, pLst l = .inr (out, r) → K (.lst g (ints out)) (st.set ub (urB f r 0))) : CallV Tryz.prog T M 99 [.ptr ub 1 0 0] st K Kp := by
 have hlt : ub < st.length := (List.getElem?_eq_some_iff.1 hs).1
 have hup : upM st.length M ub = true := upM_of hM
 refine CallV.give (fun_ok hmix c_ulist (le_of rfl) ?_)
 have hsame : ∀ x, Same st.length ub st (st.set ub x) := fun x => (Same.refl (Nat.le_refl _)).set (Or.inl rfl) x
 have low : ∀ (s : St) (r : List Int) (e : Int), Same st.length ub st s → s[ub]? = some (urB f r e) → LowSt st s ∧ s.take st.length = st.set ub (urB f r e) := fun s r e h1 h2 => ⟨h1.low h2 (by simp [V.low]), h1.take h2⟩
 have loop : ∀ (fr : Fr) (s : St) (e2 j : Int) (out l' : List Int), e = 0 → Same st.length ub st s → s[ub]? = some (urB f l' e2) → OutS st.length 3 1 s (fr.g 3) (ints out) → fr.g 0 = .ptr ub 1 0 0 → fr.g 4 = I j → j < 2147483648 → fr.df = [] → ((e2 = 0 ∧ 0 ≤ j ∧ isB l' ∧ out.length + l'.length ≤ l.length ∧ pLst l = pMany j.toNat out l') ∨ (e2 ≠ 0 ∧ pLst l = .inl e2)) →
   wpM Tryz.prog T (liftM (upM st.length M)) F_ulist.code.r.r.l.r.bb (Post.block 0 (Post.seq (wpM Tryz.prog T (liftM (upM st.length M)) F_ulist.code.r.r.r (Fin F_ulist.res (fun v st' => ∃ v', Frz st.length st' v v' ∧ LowSt st st' ∧ K v' (st'.take st.length)) (fun c st' => LowSt st st' ∧ Kp c (st'.take st.length)))) (Fin F_ulist.res (fun v st' => ∃ v', Frz st.length st' v v' ∧ LowSt st st' ∧ K v' (st'.take st.length)) (fun c st' => LowSt st st' ∧ Kp c (st'.take st.length))))) fr s := fun fr s e2 j out l' he hS hb o z0 z4 hj hdf hh => by
  have e1 : F_ulist.code.r.r.l.r.bb = .loop F_ulist.code.r.r.l.r.bb.bb := rfl
  rw [e1]
  refine wp_mloop (fun fr s => ∃ (e2 j : Int) (out l' : List Int), Same st.length ub st s ∧ s[ub]? = some (urB f l' e2) ∧ OutS st.length 3 1 s (fr.g 3) (ints out) ∧ fr.g 0 = .ptr ub 1 0 0 ∧ fr.g 4 = I j ∧ j < 2147483648 ∧ fr.df = [] ∧ ((e2 = 0 ∧ 0 ≤ j ∧ isB l' ∧ out.length + l'.length ≤ l.length ∧ pLst l = pMany j.toNat out l') ∨ (e2 ≠ 0 ∧ pLst l = .inl e2))) (fun fr _ => nat (fr.g 4)) ⟨e2, j, out, l', hS, hb, o, z0, z4, hj, hdf, hh⟩ ?_
  clear hS hb o z0 z4 hj hdf hh
  rintro fr s ⟨e2, j, out, l', hS, hb, o, z0, z4, hj, hdf, hh⟩
  have hlS := hS.len
  have hlen := hlen he
  have hb' := hb
  simp only [urB] at hb'
  rcases hh with ⟨rfl, j0, hl', hle, hp⟩ | ⟨he2, hp⟩
  ·by_cases hj0 : 0 < j
   ·simp [F_ulist, MC.l, MC.r, MC.bb, z0, z4, hb', hj0]
    refine unum_v hb hup (fun _ => hl') (fun h => absurd rfl h) (fun _ e' r h => ?_) (fun _ x r h => ?_)
    ·have o1 := o.set (b := ub) (by omega) (urB f r e')
     have hS1 := hS.set (b := ub) (Or.inl rfl) (urB f r e')
     have hb1 := get_set hb (urB f r e')
     have hw1 : IntKind.i64.wrap (j - 1) = j - 1 := w64 (by omega) (by omega)
     obtain ⟨i, hi⟩ : ∃ i, j.toNat = i + 1 := ⟨j.toNat - 1, by omega⟩
     have hp2 : pLst l = .inl e' := by rw [hp, hi]; unfold pMany; rw [h]
     simp
     refine app_out (o1.more _) (by simp; omega) (news := [I 0]) (by simp) (by simp) (Or.inl (by simp)) (fun b L hb _ j => by simp [upM, hb]) (by simp; omega) (by simp; omega) fun v s3 o3 hl3 hb3 hk3 hn3 => ?_
     have hS3 : Same st.length ub st s3 := ⟨by have := hl3; simp at this; omega, fun b q1 q2 => by rw [hb3 b q1]; exact (hS1.more _).get b q1 q2⟩
     have hb3' : s3[ub]? = some (urB f r e') := by rw [hb3 ub (by omega)]; exact get_more hb1 _
     have o3' : OutS st.length 3 1 s3 v (ints (out ++ [0])) := by rw [ints_append]; exact o3
     exact ⟨⟨hS3, e', _, out ++ [0], r, hb3', o3', hw1, by omega, hdf, Or.inr ⟨pNum_err h, hp2⟩⟩, by rw [hw1]; omega⟩
    ·have o1 := o.set (b := ub) (by omega) (urB f r 0)
     have hS1 := hS.set (b := ub) (Or.inl rfl) (urB f r 0)
     have hb1 := get_set hb (urB f r 0)
     have hw1 : IntKind.i64.wrap (j - 1) = j - 1 := w64 (by omega) (by omega)
     obtain ⟨i, hi⟩ : ∃ i, j.toNat = i + 1 := ⟨j.toNat - 1, by omega⟩
     have hp2 : pLst l = pMany (j - 1).toNat (out ++ [x]) r := by
      have e : (j - 1).toNat = i := by omega
      rw [hp, hi, e]
      conv => lhs; unfold pMany
      rw [h]
     obtain ⟨q1, q2⟩ := pNum_rest h hl'
     simp
     refine app_out (o1.more _) (by simp; omega) (news := [I x]) (by simp) (by simp) (Or.inl (by simp)) (fun b L hb _ j => by simp [upM, hb]) (by simp; omega) (by simp; omega) fun v s3 o3 hl3 hb3 hk3 hn3 => ?_
     have hS3 : Same st.length ub st s3 := ⟨by have := hl3; simp at this; omega, fun b q1 q2 => by rw [hb3 b q1]; exact (hS1.more _).get b q1 q2⟩
     have hb3' : s3[ub]? = some (urB f r 0) := by rw [hb3 ub (by omega)]; exact get_more hb1 _
     have o3' : OutS st.length 3 1 s3 v (ints (out ++ [x])) := by rw [ints_append]; exact o3
     exact ⟨⟨hS3, 0, _, out ++ [x], r, hb3', o3', hw1, by omega, hdf, Or.inl ⟨rfl, by omega, q1, by simp; omega, hp2⟩⟩, by rw [hw1]; omega⟩
   ·obtain rfl : j = 0 := by omega
    obtain ⟨q1, q2⟩ := low s l' 0 hS hb
    obtain ⟨gg, hfr⟩ := o.frz (ints_cells out)
    simp [F_ulist, MC.l, MC.r, MC.bb, z4, hdf]
    exact ⟨_, hfr, q1, by rw [q2]; exact h1 he gg out l' hp⟩
  ·have hb2 : (e2 == 0) = false := by simpa using he2
   obtain ⟨q1, q2⟩ := low s l' e2 hS hb
   obtain ⟨gg, hfr⟩ := o.frz (ints_cells out)
   by_cases hj0 : 0 < j
   ·simp [F_ulist, MC.l, MC.r, MC.bb, z0, z4, hdf, hj0, hb', hb2]
    exact ⟨_, hfr, q1, by rw [q2]; exact h0 he gg out e2 l' hp⟩
   ·simp [F_ulist, MC.l, MC.r, MC.bb, z4, hdf, hj0]
    exact ⟨_, hfr, q1, by rw [q2]; exact h0 he gg out e2 l' hp⟩
 simp [F_ulist]
 refine umany_v hs hup hl (fun he => ?_) (fun he e' r h => ?_) (fun he n r h => ?_)
 ·refine wp_mloop (fun fr s => s = st ∧ fr.df = [] ∧ fr.g 4 = I 0 ∧ fr.g 3 = .lst true []) (fun _ _ => 0) ⟨rfl, by simp, by simp, by simp⟩ ?_
  rintro fr s ⟨rfl, hdf, z4, z3⟩
  simp [z4, z3, hdf]
  exact ⟨_, .same _ rfl, LowSt.same (by simp), hE he⟩
 ·have : pLst l = .inl e' := by unfold pLst; rw [h]
  exact loop _ _ e' 0 [] r he (hsame _) (get_set hs _) (by simpa [ints] using OutS.nil _ _ _ _) (by simp) (by simp) (by omega) (by simp) (Or.inr ⟨pCnt_err h, this⟩)
 ·have : pLst l = pMany n.toNat [] r := by unfold pLst; rw [h]
  obtain ⟨q1, q2, q3⟩ := pCnt_rest h (hl he)
  exact loop _ _ 0 n [] r he (hsame _) (get_set hs _) (by simpa [ints] using OutS.nil _ _ _ _) (by simp) (by simp) (pCnt_bnd h) (by simp) (Or.inl ⟨rfl, q3, q1, by simp; omega, this⟩)
end
end Go.Proofs.YtkcdgaijklhnaaaGreatDoor.Vm
namespace Go.Proofs.YtkcdgaijklhnaaaGreatDoor.Vm
open Go.RowKit
theorem bys_cells (l : List Int) : ∀ x ∈ bys l, ∀ y ∈ x.cells, y.leaf = true ∧ y.pl = true := fun x hx => by
 obtain ⟨z, -, rfl⟩ := List.mem_map.1 hx
 intro y hy
 rw [show y = .val (.int .u8 z) by simpa [V.cells] using hy]
 exact ⟨rfl, rfl⟩
section
variable {T : Tbl} {M : Nat → Bool} {st : St} {K : V → St → Prop} {Kp : List PanicEntry → St → Prop}
theorem clb_v {f : Bool} {l : List Int} (hlen : l.length ≤ 1000000) (hK : ∀ g, K (.lst g (bys l)) st) : CallV Tryz.prog T M 97 [.lst f (bys l)] st K Kp := by
 refine CallV.give (fun_ok hmix c_clb (le_of rfl) ?_)
 have app : obind2 (mApp (liftM (upM st.length M)) 5 1 1 st (.lst true []) (.lst f (bys l))) fun v st' => ∃ v', Frz st.length st' v v' ∧ LowSt st st' ∧ K v' (st'.take st.length) := by
  refine app_out (OutS.nil st.length 5 1 st) (Nat.le_refl _) (news := bys l) (by simp) (bys_one l) (Or.inr rfl) (fun b L hb _ j => by simp [upM, hb]) (by simp; omega) (by simp; omega) fun v s3 o3 hl3 hb3 hk3 hn3 => ?_
  have k : KeepL st s3 := ⟨hl3, fun b hb => hb3 b hb⟩
  obtain ⟨gg, hfr⟩ := o3.frz (by simpa using bys_cells l)
  exact ⟨_, hfr, k.low, by rw [k.take]; exact hK gg⟩
 cases l with
 | nil =>
  simp [F_clb, bys]
  exact ⟨app, _, .same _ rfl, LowSt.same (by simp), hK true⟩
 | cons c r =>
  have app' := app
  rw [bys_cons] at app' ⊢
  simp [F_clb]
  exact app'
end
end Go.Proofs.YtkcdgaijklhnaaaGreatDoor.Vm
namespace Go.Proofs.YtkcdgaijklhnaaaGreatDoor.Vm
open Go.RowKit
def bindR {α β : Type} : Rs α → (α → List Int → Rs β) → Rs β
 | .inl e, _ => .inl e
 | .inr (a, r), k => k a r
def Ph {β : Type} (R : Rs β) (cont : List Int → Rs β) (l : List Int) (e : Int) : Prop := (e = 0 ∧ isB l ∧ l.length ≤ 1000000 ∧ R = cont l) ∨ (e ≠ 0 ∧ R = .inl e)
theorem Ph.b {β : Type} {R : Rs β} {cont : List Int → Rs β} {l : List Int} {e : Int} (h : Ph R cont l e) (he : e = 0) : isB l := by
 rcases h with ⟨-, h, -⟩ | ⟨h, -⟩
 ·exact h
 ·exact absurd he h
theorem Ph.n {β : Type} {R : Rs β} {cont : List Int → Rs β} {l : List Int} {e : Int} (h : Ph R cont l e) (he : e = 0) : l.length ≤ 1000000 := by
 rcases h with ⟨-, -, h, -⟩ | ⟨h, -⟩
 ·exact h
 ·exact absurd he h
theorem Ph.c {β : Type} {R : Rs β} {cont : List Int → Rs β} {l : List Int} {e : Int} (h : Ph R cont l e) (he : e = 0) : R = cont l := by
 rcases h with ⟨-, -, -, h⟩ | ⟨h, -⟩
 ·exact h
 ·exact absurd he h
theorem Ph.e {β : Type} {R : Rs β} {cont : List Int → Rs β} {l : List Int} {e : Int} (h : Ph R cont l e) (he : e ≠ 0) : R = .inl e := by
 rcases h with ⟨h, -⟩ | ⟨-, h⟩
 ·exact absurd h he
 ·exact h
theorem pMod_bind (l : List Int) : pMod l = bindR (pNum l) fun a l1 => bindR (pNum l1) fun b l2 => bindR (pNum l2) fun c l3 => bindR (pNum l3) fun d l4 => bindR (pGo 7 [] l4) fun acc r => .inr (toM a b c d acc, r) := by
 unfold pMod
 cases pNum l with
 | inl e => rfl
 | inr q =>
  obtain ⟨a, l1⟩ := q
  simp only [bindR]
  cases pNum l1 with
  | inl e => rfl
  | inr q =>
   obtain ⟨b, l2⟩ := q
   simp only []
   cases pNum l2 with
   | inl e => rfl
   | inr q =>
    obtain ⟨c, l3⟩ := q
    simp only []
    cases pNum l3 with
    | inl e => rfl
    | inr q =>
     obtain ⟨d, l4⟩ := q
     simp only []
     cases pGo 7 [] l4 with
     | inl e => rfl
     | inr q => rfl
theorem pGo_bind (n : Nat) (acc : List (List Int)) (l : List Int) : pGo (n + 1) acc l = bindR (pLst l) fun x r => pGo n (acc ++ [x]) r := by
 conv => lhs; unfold pGo
 cases pLst l with
 | inl e => rfl
 | inr q => rfl
theorem bindR_assoc {α β γ : Type} (x : Rs α) (f : α → List Int → Rs β) (g : β → List Int → Rs γ) : bindR (bindR x f) g = bindR x fun a r => bindR (f a r) g := by
 cases x with
 | inl e => rfl
 | inr q => rfl
section
variable {T : Tbl} {M : Nat → Bool} {st : St} {K : V → St → Prop} {Kp : List PanicEntry → St → Prop}
theorem unum_p {β : Type} {f : Bool} {l : List Int} {ub : Nat} {e : Int} {R : Rs β} {cont : Int → List Int → Rs β} (hs : st[ub]? = some (urB f l e)) (hM : M ub = true) (hP : Ph R (fun l => bindR (pNum l) cont) l e) (hK : ∀ n r e', Ph R (cont n) r e' → K (I n) (st.set ub (urB f r e'))) : CallV Tryz.prog T M 98 [.ptr ub 1 0 0] st K Kp := by
 refine unum_v hs hM hP.b (fun he => ?_) (fun he e' r h => ?_) (fun he n r h => ?_)
 ·have := hK 0 l e (Or.inr ⟨he, hP.e he⟩)
  rwa [set_same hs] at this
 ·exact hK 0 r e' (Or.inr ⟨pNum_err h, by rw [hP.c he, h]; rfl⟩)
 ·obtain ⟨h1, h2⟩ := pNum_rest h (hP.b he)
  have := hP.n he
  exact hK n r 0 (Or.inl ⟨rfl, h1, by omega, by rw [hP.c he, h]; rfl⟩)
theorem ulist_p {β : Type} {f : Bool} {l : List Int} {ub : Nat} {e : Int} {R : Rs β} {cont : List Int → List Int → Rs β} (hs : st[ub]? = some (urB f l e)) (hM : M ub = true) (hP : Ph R (fun l => bindR (pLst l) cont) l e) (hK : ∀ g out r e', Ph R (cont out) r e' → K (.lst g (ints out)) (st.set ub (urB f r e'))) : CallV Tryz.prog T M 99 [.ptr ub 1 0 0] st K Kp := by
 refine ulist_v hs hM hP.b hP.n (fun he => ?_) (fun he g out e' r h => ?_) (fun he g out r h => ?_)
 ·have := hK true [] l e (Or.inr ⟨he, hP.e he⟩)
  rwa [set_same hs] at this
 ·exact hK g out r e' (Or.inr ⟨pLst_err h, by rw [hP.c he, h]; rfl⟩)
 ·obtain ⟨h1, h2, h3⟩ := pLst_rest h (hP.b he)
  have := hP.n he
  exact hK g out r 0 (Or.inl ⟨rfl, h1, by omega, by rw [hP.c he, h]; rfl⟩)
set_option maxHeartbeats 1000000 in
theorem rmFrom_v {f : Bool} {l : List Int} (hl : isB l) (hlen : l.length ≤ 1000000) (hK : ∀ fl m, ((pAll l).2 = 0 → m = (pAll l).1) → K (.tup [encM fl m, I (pAll l).2]) st) : CallV Tryz.prog T M 52 [.lst f (bys l)] st K Kp := by
 refine CallV.give (fun_ok hmix c_rmFrom (le_of rfl) ?_)
 have hZ : Blk.row 27 11 [V.agg [I 0, I 0, I 0, I 0, .lst true [], .lst true [], .lst true [], .lst true [], .lst true [], .lst true [], .lst true []]] = mdl 0 0 0 0 nils := rfl
 have two : ∀ (fr : Fr) (s : St) (g : Bool) (a b c d : Int) (l4 : List Int) (e : Int), KeepL st s → s.length = st.length + 3 → s[st.length]? = some (mdl 0 0 0 0 nils) → s[st.length + 1]? = some (urB g l4 e) → s[st.length + 2]? = some (mdl a b c d nils) → Ph (pMod l) (fun l4 => bindR (pGo 7 [] l4) fun acc r => .inr (toM a b c d acc, r)) l4 e → fr.g 2 = .ptr st.length 1 0 0 → fr.g 4 = .ptr (st.length + 1) 1 0 0 → fr.g 5 = .ptr (st.length + 2) 1 0 0 → fr.df = [] →
   wpM Tryz.prog T (liftM (upM st.length M)) F_rmFrom.code.r.r.r (Fin F_rmFrom.res (fun v st' => ∃ v', Frz st.length st' v v' ∧ LowSt st st' ∧ K v' (st'.take st.length)) (fun c st' => LowSt st st' ∧ Kp c (st'.take st.length))) fr s := fun fr s g a b c d l4 e hS hsl hr hu hm hP z2 z4 z5 hdf => by
  have fin : ∀ (fr : Fr) (s : St) (fl : Nat → Bool) (acc : List (List Int)) (r : List Int) (e : Int), KeepL st s → s[st.length]? = some (mdl 0 0 0 0 nils) → s[st.length + 1]? = some (urB g r e) → s[st.length + 2]? = some (mdl a b c d (cOf fl acc)) → acc.length = 7 → Ph (pMod l) (fun r => .inr (toM a b c d acc, r)) r e → fr.g 2 = .ptr st.length 1 0 0 → fr.g 4 = .ptr (st.length + 1) 1 0 0 → fr.g 5 = .ptr (st.length + 2) 1 0 0 → fr.df = [] →
    wpM Tryz.prog T (liftM (upM st.length M)) F_rmFrom.code.r.r.r.r (Fin F_rmFrom.res (fun v st' => ∃ v', Frz st.length st' v v' ∧ LowSt st st' ∧ K v' (st'.take st.length)) (fun c st' => LowSt st st' ∧ Kp c (st'.take st.length))) fr s := fun fr s fl acc r e hS hr hu hm h7 hP z2 z4 z5 hdf => by
   rw [mdl_congr fun j hj => cOf_full h7 a b c d j hj] at hm
   generalize hcd : F_rmFrom.code.r.r.r.r = cd
   have hm' := hm
   have hr' := hr
   have hu' := hu
   have hus : ∀ x, (s.set (st.length + 1) x)[st.length + 1]? = some x := fun x => get_set hu x
   simp only [mdl, nils, urB] at hm' hr' hu'
   subst hcd
   have out : ∀ e2, e2 = (pAll l).2 → (e2 = 0 → toM a b c d acc = (pAll l).1) → ∀ s2, KeepL st s2 → ∃ v', Frz st.length s2 (.tup [encM fl (toM a b c d acc), I e2]) v' ∧ LowSt st s2 ∧ K v' (s2.take st.length) := fun e2 h1 h2 s2 h3 => by
    subst h1
    exact ⟨_, frz_me _ _ fl (toM a b c d acc) _, h3.low, by rw [h3.take]; exact hK fl _ h2⟩
   have rb : ∀ x, (s.set st.length x)[st.length]? = some x := fun x => get_set hr x
   by_cases he : e = 0
   ·subst he
    have hp := hP.c rfl
    by_cases hr0 : r = []
    ·subst hr0
     have hall : pAll l = (toM a b c d acc, 0) := by unfold pAll; rw [hp]; exact if_pos rfl
     simp [F_rmFrom, MC.r, z4, hu', bys]
     refine wp_mflat [st.length] [] ?_
     simp [z2, z4, z5, hdf, hm', hr', hu', bys, rb, inW, rdW, upM]
     exact out 0 (by rw [hall]) (fun _ => by rw [hall]) _ (hS.set (Nat.le_refl _) _)
    ·have hall : pAll l = (zM, 3) := by unfold pAll; rw [hp]; exact if_neg hr0
     have hr1 : 0 < r.length := List.length_pos_iff.2 hr0
     have rb2 : ∀ x y, ((s.set (st.length + 1) x).set st.length y)[st.length]? = some y := fun x y => get_set (get_ne hr (by omega) x) y
     simp [F_rmFrom, MC.r, z4, hu', hr1, upM]
     refine wp_mflat [st.length] [] ?_
     simp [z2, z4, z5, hdf, hm', hr', hus, rb2, inW, rdW, upM]
     exact out 3 (by rw [hall]) (fun h => by cases h) _ ((hS.set (b := st.length + 1) (by omega) _).set (Nat.le_refl _) _)
   ·have hall : pAll l = (zM, e) := by unfold pAll; rw [hP.e he]
    have heb : (e == 0) = false := by simpa using he
    simp [F_rmFrom, MC.r, z4, hu', heb]
    refine wp_mflat [st.length] [] ?_
    simp [z2, z4, z5, hdf, hm', hr', hu', rb, inW, rdW, upM]
    exact out e (by rw [hall]) (fun h => absurd h he) _ (hS.set (Nat.le_refl _) _)
  have e1 : F_rmFrom.code.r.r.r = .seq F_rmFrom.code.r.r.r.l F_rmFrom.code.r.r.r.r := rfl
  generalize F_rmFrom.code.r.r.r.r = c4 at fin e1
  rw [e1]
  have hm' := hm
  simp only [mdl, nils] at hm'
  simp [F_rmFrom, MC.l, MC.r, z5, hm']
  have hB : Blk.row 116 1 [V.ptr (st.length + 2) 1 0 4, V.ptr (st.length + 2) 1 0 5, V.ptr (st.length + 2) 1 0 6, V.ptr (st.length + 2) 1 0 7, V.ptr (st.length + 2) 1 0 8, V.ptr (st.length + 2) 1 0 9, V.ptr (st.length + 2) 1 0 10] = .row 116 1 (ptrs (st.length + 2)) := rfl
  rw [hB, hsl]
  have hPt : (s ++ [Blk.row 116 1 (ptrs (st.length + 2))])[st.length + 3]? = some (.row 116 1 (ptrs (st.length + 2))) := by rw [← hsl]; simp
  have hm2 := get_more hm [Blk.row 116 1 (ptrs (st.length + 2))]
  have hr2 := get_more hr [Blk.row 116 1 (ptrs (st.length + 2))]
  have hu2 := get_more hu [Blk.row 116 1 (ptrs (st.length + 2))]
  have hS2 := hS.more [Blk.row 116 1 (ptrs (st.length + 2))]
  generalize s ++ [Blk.row 116 1 (ptrs (st.length + 2))] = s2 at *
  clear hm' hm hr hu hS hsl
  refine wp_mloop (fun fr s => ∃ (fl : Nat → Bool) (acc : List (List Int)) (l' : List Int) (e : Int), acc.length ≤ 7 ∧ KeepL st s ∧ s[st.length + 1]? = some (urB g l' e) ∧ s[st.length]? = some (mdl 0 0 0 0 nils) ∧ s[st.length + 2]? = some (mdl a b c d (cOf fl acc)) ∧ s[st.length + 3]? = some (.row 116 1 (ptrs (st.length + 2))) ∧ Ph (pMod l) (fun l4 => bindR (pGo (7 - acc.length) acc l4) fun acc r => .inr (toM a b c d acc, r)) l' e ∧ fr.df = [] ∧ fr.g 2 = .ptr st.length 1 0 0 ∧ fr.g 4 = .ptr (st.length + 1) 1 0 0 ∧ fr.g 5 = .ptr (st.length + 2) 1 0 0 ∧ fr.g 28 = .own (st.length + 3) 7 0 7 ∧ fr.g 29 = I 7 ∧ fr.g 30 = I acc.length) (fun fr _ => 7 - nat (fr.g 30))
   ⟨fun _ => true, [], l4, e, by simp, hS2, hu2, hr2, hm2, hPt, hP, by simp [hdf], by simp [z2], by simp [z4], by simp [z5], by simp, by simp, by simp⟩ ?_
  clear hm2 hr2 hu2 hS2 hPt hP z2 z4 z5 hdf
  rintro fr s ⟨fl, acc, l', e, hk, hS, hu, hr, hm, hPt, hP, hdf, z2, z4, z5, z28, z29, z30⟩
  by_cases hlt2 : acc.length < 7
  ·obtain ⟨i, hi⟩ : ∃ i, acc.length = i := ⟨_, rfl⟩
   have hPe : (ptrs (st.length + 2))[i]? = some (.ptr (st.length + 2) 1 0 (4 + i)) := by
    have : i = 0 ∨ i = 1 ∨ i = 2 ∨ i = 3 ∨ i = 4 ∨ i = 5 ∨ i = 6 := by omega
    rcases this with rfl | rfl | rfl | rfl | rfl | rfl | rfl <;> rfl
   have hP7 : (ptrs (st.length + 2)).length = 7 := rfl
   have hi7 : i < 7 := by omega
   rw [hi] at hP z30
   obtain ⟨j, hj⟩ : ∃ j, 7 - i = j + 1 := ⟨6 - i, by omega⟩
   have hj2 : 7 - (i + 1) = j := by omega
   rw [hj] at hP
   simp only [pGo_bind, bindR_assoc] at hP
   have hmm := hm
   simp only [mdl] at hmm
   generalize ptrs (st.length + 2) = P at *
   have hPe2 := (List.getElem?_eq_some_iff.1 hPe).2
   simp [z28, z29, z30, hi7, hPt, hP7, hPe2, z4, show (i : Int) < 7 by omega]
   refine ulist_p hu (by simp [upM]) hP fun g2 x r e3 hP3 => ?_
   have hm2 := get_ne hm (show st.length + 1 ≠ st.length + 2 by omega) (urB g r e3)
   simp only [mdl] at hm2
   have hw1 : IntKind.i64.wrap ((i : Int) + 1) = ((i + 1 : Nat) : Int) := by rw [w64 (n := (i : Int) + 1) (by omega) (by omega)]; push_cast; rfl
   have hU := upd_list (a := a) (b := b) (c := c) (d := d) (fl := fl) g2 x hi hi7
   simp [hm2, hw1, -Int.natCast_add]
   rw [hU]
   exact ⟨by omega, ⟨_, acc ++ [x], by simp; omega, (hS.set (by omega) _).set (by omega) _, r, e3, get_set hu _, hr, get_set (get_ne hm (by omega) _) _, hPt, by simpa [hi, hj2] using hP3, hdf, z2, z5, by simp [hi]⟩, by omega⟩
  ·have h7 : acc.length = 7 := by omega
   rw [h7] at hP z30
   simp [z29, z30]
   exact fin _ s fl acc l' e hS hr hu hm h7 hP (by simp [z2]) (by simp [z4]) (by simp [z5]) (by simp [hdf])
 have e1 : F_rmFrom.code = .seq F_rmFrom.code.l (.seq F_rmFrom.code.r.l (.seq F_rmFrom.code.r.r.l F_rmFrom.code.r.r.r)) := rfl
 generalize F_rmFrom.code.r.r.r = c3 at two e1
 rw [e1]
 simp [F_rmFrom, MC.l, MC.r]
 rw [hZ]
 refine clb_v hlen fun g => ?_
 have hU : Blk.row 134 2 [V.agg [.lst g (bys l), I 0]] = urB g l 0 := rfl
 simp
 rw [hU]
 have hk0 : KeepL st (st ++ [mdl 0 0 0 0 nils, urB g l 0]) := (KeepL.refl st).more _
 have hr0 : (st ++ [mdl 0 0 0 0 nils, urB g l 0])[st.length]? = some (mdl 0 0 0 0 nils) := by simp
 have hu0 : (st ++ [mdl 0 0 0 0 nils, urB g l 0])[st.length + 1]? = some (urB g l 0) := by simp
 have hn0 : (st ++ [mdl 0 0 0 0 nils, urB g l 0]).length = st.length + 2 := by simp
 have hP0 : Ph (pMod l) (fun l => bindR (pNum l) fun a l1 => bindR (pNum l1) fun b l2 => bindR (pNum l2) fun c l3 => bindR (pNum l3) fun d l4 => bindR (pGo 7 [] l4) fun acc r => .inr (toM a b c d acc, r)) l 0 := Or.inl ⟨rfl, hl, hlen, pMod_bind l⟩
 generalize st ++ [mdl 0 0 0 0 nils, urB g l 0] = s0 at *
 have hup : upM st.length M (st.length + 1) = true := by simp [upM]
 refine unum_p hu0 hup hP0 fun a l1 e1 hP1 => ?_
 refine unum_p (get_set hu0 _) hup hP1 fun b l2 e2 hP2 => ?_
 rw [List.set_set]
 refine unum_p (get_set hu0 _) hup hP2 fun c l3 e3 hP3 => ?_
 rw [List.set_set]
 refine unum_p (get_set hu0 _) hup hP3 fun d l4 e4 hP4 => ?_
 rw [List.set_set]
 have hu4 := get_set hu0 (urB g l4 e4)
 have hk4 := hk0.set (b := st.length + 1) (by omega) (urB g l4 e4)
 have hr4 := get_ne hr0 (show st.length + 1 ≠ st.length by omega) (urB g l4 e4)
 have hn4 : (s0.set (st.length + 1) (urB g l4 e4)).length = st.length + 2 := by simp [hn0]
 generalize s0.set (st.length + 1) (urB g l4 e4) = s4 at *
 simp
 rw [hn4]
 refine ⟨by simp [upM], ?_⟩
 exact two _ (s4 ++ [mdl a b c d nils]) g a b c d l4 e4 (hk4.more _) (by simp [hn4]) (get_more hr4 _) (get_more hu4 _) (by rw [← hn4]; simp) hP4 (by simp) (by simp) (by simp) (by simp)
end
end Go.Proofs.YtkcdgaijklhnaaaGreatDoor.Vm
namespace Go.Proofs.YtkcdgaijklhnaaaGreatDoor.Vm
open Go.RowKit
noncomputable def slfV (k : Nat) (st : St) (l h m : Nat) : V → Option V
 | .lst _ xs => if l ≤ h ∧ h = m ∧ h ≤ xs.length ∧ (∀ x ∈ xs, x.cells.length = k) then some (.lst true ((xs.drop l).take (h - l))) else none
 | .own b L _ _ => match st[b]? with
   | some (.row _ _ xs) => if xs.length = L ∧ l = 0 ∧ h = 0 ∧ m = 0 then some (.lst true []) else none
   | _ => none
 | _ => none
@[simp ↓] theorem ob_slf {T : Tbl} {rd : Nat → Nat → Bool} {fr : Fr} {st : St} {K : V → Prop} (k : Nat) (x : Od) (l : Option Od) (h m : Od) : obind (mStill T rd (.slf k x l h m) fr st) K = obind (x.ev T fr) fun x => obind (evo T fr 0 l) fun l => obind (evo T fr 0 (some h)) fun h => obind (evo T fr 0 (some m)) fun m => obind (slfV k st l h m x) K := by
  have e : ∀ (v : V) (l h m : Nat), (match v with
      | .lst _ xs => if l ≤ h ∧ h = m ∧ h ≤ xs.length ∧ (∀ x ∈ xs, x.cells.length = k) then some (V.lst true ((xs.drop l).take (h - l))) else none
      | .own b L _ _ => match st[b]? with
        | some (.row _ _ xs) => if xs.length = L ∧ l = 0 ∧ h = 0 ∧ m = 0 then some (.lst true []) else none
        | _ => none
      | _ => none) = slfV k st l h m v := fun v l h m => by cases v <;> rfl
  simp only [mStill, ob_bind]
  rfl
@[simp] theorem slfV_lst (k : Nat) (st : St) (l h m : Nat) (f : Bool) (xs : List V) : slfV k st l h m (.lst f xs) = if l ≤ h ∧ h = m ∧ h ≤ xs.length ∧ (∀ x ∈ xs, x.cells.length = k) then some (.lst true ((xs.drop l).take (h - l))) else none := nr rfl
theorem app_full {M : Nat → Nat → Bool} {t k bytes : Nat} {s : St} {ys news : List V} {x : V} {K : V → St → Prop} (hx : rdl s x = some news) (h1 : ∀ y ∈ news, y.cells.length = k) (h2 : ∀ y ∈ ys, y.cells.length = k) (h3 : ys = [] ∨ news ≠ []) (h4 : (ys.length + news.length) * bytes ≤ 140737488355328) (h5 : ys.length + news.length ≤ 9223372036854775807)
  (hK : K (.own s.length (ys.length + news.length) 0 (ys.length + news.length)) (s ++ [.row t k (ys ++ news)])) : obind2 (mApp M t k bytes s (.lst true ys) x) K := by
 have e : mApp M t k bytes s (.lst true ys) x = some (.own s.length (ys.length + news.length) 0 (ys.length + news.length), s ++ [.row t k (ys ++ news)]) := by
  unfold mApp
  rw [hx]
  show (if _ then _ else none) = _
  rw [if_pos h1]
  show (if _ then some _ else none) = _
  rw [if_pos ⟨h2, h3, h4, h5⟩]
 rw [e, ob2_some]
 exact hK
def lm (K V D T : Int) (l : Nat → List Int) : LModel := ⟨K, V, D, T, l 0, l 1, l 2, l 3, l 4, l 5, l 6⟩
structure TnV (st : St) (s0 : Nat) (f : Bool) (xs : List Int) (a b : Int) (fr : Fr) (s : St) (K V D T : Int) (c : Nat → Vm.V) (z : Nat) : Prop where
 gs : ∃ a', a ≤ a' ∧ a' ≤ b ∧ GS st.length s0 st s f xs a'
 md : s[st.length]? = some (mdl K V D T c)
 rb : s[st.length + 1]? = some (mdl 0 0 0 0 nils)
 g0 : fr.g 0 = .ptr s0 1 0 0
 g3 : fr.g 3 = .ptr st.length 1 0 0
 g4 : fr.g 4 = .ptr (st.length + 1) 1 0 0
 g6 : fr.g 6 = .ptr st.length 1 0 (4 + z)
 df : fr.df = []
 hz : z < 7
def TQ (st : St) (K : V → St → Prop) (Kp : List PanicEntry → St → Prop) : Post := Fin F_tainted.res (fun v st' => ∃ v', Frz st.length st' v v' ∧ LowSt st st' ∧ K v' (st'.take st.length)) (fun c st' => LowSt st st' ∧ Kp c (st'.take st.length))
def TK (st : St) (s0 : Nat) (f : Bool) (xs : List Int) (a : Int) (B : Int) (n : Nat) (K : V → St → Prop) : Prop := ∀ (fl : Nat → Bool) m a', LB (B + 100) (n + 1) m → a ≤ a' → a' ≤ a + 10 → K (encM fl m) (st.set s0 (strm f xs a'))
def FS (n : Nat) (s : St) (v : V) (l : List Int) : Prop := (∃ g, v = .lst g (ints l)) ∨ OutS n 3 1 s v (ints l)
section
variable {st s : St} {s0 z : Nat} {fr : Fr} {f : Bool} {xs : List Int} {a b : Int} {T : Tbl} {M : Nat → Bool} {K : V → St → Prop} {Kp : List PanicEntry → St → Prop} {Kd Vo Wd Tp : Int} {c : Nat → V}
theorem FS.leaf {n : Nat} {v : V} {l : List Int} (h : FS n s v l) : v.leaf = true := by
 rcases h with ⟨_, rfl⟩ | ⟨-, rfl⟩ | ⟨_, -, -, rfl⟩ <;> rfl
theorem FS.frz {n : Nat} {v : V} {l : List Int} (h : FS n s v l) : ∃ g, Frz n s v (.lst g (ints l)) := by
 rcases h with ⟨g, rfl⟩ | h
 ·exact ⟨g, .same _ rfl⟩
 ·exact h.frz (ints_cells _)
theorem FS.apart {n m t2 k2 : Nat} {ys : List V} {v : V} {l : List Int} (h : FS n s v l) (hc : s[m]? = some (.row t2 k2 ys)) (hk : k2 ≠ 1) (x : Blk) : FS n (s.set m x) v l := by
 rcases h with h | h
 ·exact Or.inl h
 ·exact Or.inr (h.apart hc hk x)
set_option maxRecDepth 10000 in
theorem tn_end {B : Int} {n : Nat} (hK : TK st s0 f xs a B n K) (h : TnV st s0 f xs a (a + 10) fr s Kd Vo Wd Tp c z) {l : Nat → List Int} (hF : ∀ i, FS st.length s (c i) (l i)) (hb : LB (B + 100) (n + 1) (lm Kd Vo Wd Tp l)) :
  wpM Tryz.prog T (liftM (upM st.length M)) F_tainted.code.r.r.r.r.r (TQ st K Kp) fr s := by
 obtain ⟨a', e1, e2, g⟩ := h.gs
 have md := h.md
 have rb := h.rb
 have rb2 : ∀ x, (s.set (st.length + 1) x)[st.length + 1]? = some x := fun x => get_set rb x
 have lf := fun i => (hF i).leaf
 simp [F_tainted, MC.r, TQ, h.g3, h.g4, md, rb, mdl, nils, lf, rb2, h.df]
 generalize Blk.row 27 11 _ = xb
 have g' := g.set (b := st.length + 1) (by omega) xb
 have fz := fun i => ((hF i).apart rb (by decide) xb).frz
 obtain ⟨fl, fz⟩ := Classical.axiomOfChoice fz
 have hlow := g'.same.low g'.str (by simp [V.low])
 have hk := hK fl _ a' hb e1 e2
 refine ⟨encM fl (lm Kd Vo Wd Tp l), .agg _ _ rfl fun i x y hx hy => ?_, hlow, ?_⟩
 ·match i with
  | 0 => simp at hx hy; subst hx hy; exact .same _ rfl
  | 1 => simp at hx hy; subst hx hy; exact .same _ rfl
  | 2 => simp at hx hy; subst hx hy; exact .same _ rfl
  | 3 => simp at hx hy; subst hx hy; exact .same _ rfl
  | 4 => simp at hx hy; subst hx hy; exact fz 0
  | 5 => simp at hx hy; subst hx hy; exact fz 1
  | 6 => simp at hx hy; subst hx hy; exact fz 2
  | 7 => simp at hx hy; subst hx hy; exact fz 3
  | 8 => simp at hx hy; subst hx hy; exact fz 4
  | 9 => simp at hx hy; subst hx hy; exact fz 5
  | 10 => simp at hx hy; subst hx hy; exact fz 6
  | i + 11 => simp at hx
 ·rw [g'.same.take g'.str]
  exact hk
theorem lb_of {B : Int} {n : Nat} {l : Nat → List Int} (hs : (-B ≤ Kd ∧ Kd ≤ B) ∧ (-B ≤ Vo ∧ Vo ≤ B) ∧ (-B ≤ Wd ∧ Wd ≤ B) ∧ (-B ≤ Tp ∧ Tp ≤ B)) (hl : ∀ i, i < 7 → (l i).length ≤ n ∧ ∀ x ∈ l i, -B ≤ x ∧ x ≤ B) : LB B n (lm Kd Vo Wd Tp l) :=
  ⟨fun x hx => by
    simp [lm] at hx
    rcases hx with rfl | rfl | rfl | rfl
    · exact hs.1
    · exact hs.2.1
    · exact hs.2.2.1
    · exact hs.2.2.2,
   fun y hy => by
    simp [lm] at hy
    rcases hy with rfl | rfl | rfl | rfl | rfl | rfl | rfl
    · exact hl 0 (by decide)
    · exact hl 1 (by decide)
    · exact hl 2 (by decide)
    · exact hl 3 (by decide)
    · exact hl 4 (by decide)
    · exact hl 5 (by decide)
    · exact hl 6 (by decide)⟩
theorem lb_to {B : Int} {n : Nat} {l : Nat → List Int} (h : LB B n (lm Kd Vo Wd Tp l)) : ((-B ≤ Kd ∧ Kd ≤ B) ∧ (-B ≤ Vo ∧ Vo ≤ B) ∧ (-B ≤ Wd ∧ Wd ≤ B) ∧ (-B ≤ Tp ∧ Tp ≤ B)) ∧ ∀ i, i < 7 → (l i).length ≤ n ∧ ∀ x ∈ l i, -B ≤ x ∧ x ≤ B :=
  ⟨⟨h.sc _ (by simp [lm]), h.sc _ (by simp [lm]), h.sc _ (by simp [lm]), h.sc _ (by simp [lm])⟩, fun i hi => by
    match i with
    | 0 => exact h.ls _ (by simp [lm])
    | 1 => exact h.ls _ (by simp [lm])
    | 2 => exact h.ls _ (by simp [lm])
    | 3 => exact h.ls _ (by simp [lm])
    | 4 => exact h.ls _ (by simp [lm])
    | 5 => exact h.ls _ (by simp [lm])
    | 6 => exact h.ls _ (by simp [lm])
    | i + 7 => omega⟩
theorem mdl_get (hz : z < 7) : ([I Kd, I Vo, I Wd, I Tp, c 0, c 1, c 2, c 3, c 4, c 5, c 6] : List V)[4 + z]? = some (c z) := by
 match z with
 | 0 | 1 | 2 | 3 | 4 | 5 | 6 => rfl
 | i + 7 => omega
theorem mdl_put (hz : z < 7) (v : V) : ([I Kd, I Vo, I Wd, I Tp, c 0, c 1, c 2, c 3, c 4, c 5, c 6] : List V).take (4 + z) ++ (v :: ([I Vo, I Wd, I Tp, c 0, c 1, c 2, c 3, c 4, c 5, c 6] : List V).drop (4 + z)) = [I Kd, I Vo, I Wd, I Tp, upd1 c z v 0, upd1 c z v 1, upd1 c z v 2, upd1 c z v 3, upd1 c z v 4, upd1 c z v 5, upd1 c z v 6] := by
 match z with
 | 0 | 1 | 2 | 3 | 4 | 5 | 6 => simp
 | i + 7 => omega
theorem TnV.step (h : TnV st s0 f xs a b fr s Kd Vo Wd Tp c z) {s' : St} {b' a' : Int} (g : GS st.length s0 st s' f xs a') (h1 : a ≤ a') (h2 : a' ≤ b') (hr : s'[st.length + 1]? = some (mdl 0 0 0 0 nils)) {Kd' Vo' Wd' Tp' : Int} {c' : Nat → V} (hm : s'[st.length]? = some (mdl Kd' Vo' Wd' Tp' c')) {fr' : Fr} (e0 : fr'.g 0 = fr.g 0) (e3 : fr'.g 3 = fr.g 3) (e4 : fr'.g 4 = fr.g 4) (e6 : fr'.g 6 = fr.g 6) (ed : fr'.df = fr.df) :
  TnV st s0 f xs a b' fr' s' Kd' Vo' Wd' Tp' c' z := ⟨⟨a', h1, h2, g⟩, hm, hr, e0.trans h.g0, e3.trans h.g3, e4.trans h.g4, e6.trans h.g6, ed.trans h.df, h.hz⟩
set_option maxRecDepth 10000 in
theorem tn_sw {B : Int} {n : Nat} (hK : TK st s0 f xs a B n K) (hM : M s0 = true) (ha : 0 ≤ a ∧ a ≤ 10000000) (hB : 2000 ≤ B ∧ B ≤ 100000) (hn : 1 ≤ n ∧ n ≤ 100000) (h : TnV st s0 f xs a (a + 1) fr s Kd Vo Wd Tp c z) {l : Nat → List Int} {fl : Nat → Bool} (hc : ∀ i, c i = .lst (fl i) (ints (l i))) (hlz : l z ≠ []) (hb : LB B n (lm Kd Vo Wd Tp l)) :
  wpM Tryz.prog T (liftM (upM st.length M)) F_tainted.code.r.r.r.r (TQ st K Kp) fr s := by
 have hend : ∀ (fr : Fr) (s : St) (Kd Vo Wd Tp : Int) (c : Nat → V) (l : Nat → List Int), TnV st s0 f xs a (a + 10) fr s Kd Vo Wd Tp c z → (∀ i, FS st.length s (c i) (l i)) → LB (B + 100) (n + 1) (lm Kd Vo Wd Tp l) → wpM Tryz.prog T (liftM (upM st.length M)) F_tainted.code.r.r.r.r.r (TQ st K Kp) fr s := fun fr s Kd Vo Wd Tp c l q1 q2 q3 => tn_end hK q1 q2 q3
 have e : F_tainted.code.r.r.r.r = .seq F_tainted.code.r.r.r.r.l F_tainted.code.r.r.r.r.r := rfl
 rw [e, wp_mseq]
 generalize wpM Tryz.prog T (liftM (upM st.length M)) F_tainted.code.r.r.r.r.r (TQ st K Kp) = k12 at hend ⊢
 have hup : upM st.length M s0 = true := upM_of hM
 obtain ⟨a', e1, e2, g⟩ := h.gs
 have hlt := g.hsb
 obtain ⟨⟨hb1, hb2, hb3, hb4⟩, hbl⟩ := lb_to hb
 have hFS : ∀ s i, FS st.length s (c i) (l i) := fun s i => Or.inl ⟨_, hc i⟩
 have hbl' : ∀ i, i < 7 → (l i).length ≤ n + 1 ∧ ∀ x ∈ l i, -(B + 100) ≤ x ∧ x ≤ B + 100 := fun i hi => ⟨by have := (hbl i hi).1; omega, fun x hx => by have := (hbl i hi).2 x hx; omega⟩
 -- a number of the model is changed
 simp [F_tainted, MC.l, MC.r, h.g0]
 refine next_g g hup (by omega) 7 (by omega) fun q s1 q1 q2 g1 b1 => ?_
 have m1 := get_but h.md b1 (by omega)
 have r1 := get_but h.rb b1 (by omega)
 have hq : q = 0 ∨ q = 1 ∨ q = 2 ∨ q = 3 ∨ q = 4 ∨ q = 5 ∨ q = 6 := by omega
 rcases hq with rfl | rfl | rfl | rfl | rfl | rfl | rfl
 ·simp
  refine range_g g1 hup (by omega) 0 4 (by omega) (by omega) (by omega) fun r s2 y1 y2 g2 b2 => ?_
  have m2 := get_but m1 b2 (by omega)
  have r2 := get_but r1 b2 (by omega)
  simp only [mdl] at m2
  simp [h.g3, m2]
  exact hend _ _ r Vo Wd Tp c l (h.step (g2.set (Nat.le_refl _) (mdl r Vo Wd Tp c)) (by omega) (by omega) (get_ne r2 (by omega) _) (get_set m2 _) (by simp) (by simp) (by simp) (by simp) (by simp)) (hFS _) (lb_of ⟨by omega, by omega, by omega, by omega⟩ hbl')
 ·simp
  refine wp_mtail [s0] [] ?_
  have hrd : rdW [s0] [] st.length 1 = true := by simp [rdW]; omega
  have e5 : (s1 ++ [Blk.row 3 1 [I 1, I (-1), I 100]])[s1.length]? = some (.row 3 1 (ints [1, -1, 100])) := by simp [ints]
  simp only [mdl] at m1
  simp [h.g3, h.g0, m1, hrd]
  refine pick_g (g1.more _) (inW_hd hup) (by omega) e5 (by have := g1.same.len; omega) rfl (by simp) fun x s2 hx g2 b2 => ?_
  have m2 := get_but (get_more m1 _) b2 (by omega)
  have r2 := get_but (get_more r1 _) b2 (by omega)
  have hx' : -100 ≤ x ∧ x ≤ 100 := by simp at hx; omega
  simp [m2, w64 (n := Vo + x) (by omega) (by omega)]
  exact hend _ _ Kd (Vo + x) Wd Tp c l (h.step (g2.set (Nat.le_refl _) (mdl Kd (Vo + x) Wd Tp c)) (by omega) (by omega) (get_ne r2 (by omega) _) (get_set m2 _) (by simp) (by simp) (by simp) (by simp) (by simp)) (hFS _) (lb_of ⟨by omega, by omega, by omega, by omega⟩ hbl')
 ·simp
  refine wp_mtail [s0] [] ?_
  have hrd : rdW [s0] [] st.length 2 = true := by simp [rdW]; omega
  have e5 : (s1 ++ [Blk.row 3 1 [I 1, I (-1), I 5]])[s1.length]? = some (.row 3 1 (ints [1, -1, 5])) := by simp [ints]
  simp only [mdl] at m1
  simp [h.g3, h.g0, m1, hrd]
  refine pick_g (g1.more _) (inW_hd hup) (by omega) e5 (by have := g1.same.len; omega) rfl (by simp) fun x s2 hx g2 b2 => ?_
  have m2 := get_but (get_more m1 _) b2 (by omega)
  have r2 := get_but (get_more r1 _) b2 (by omega)
  have hx' : -100 ≤ x ∧ x ≤ 100 := by simp at hx; omega
  simp [m2, w64 (n := Wd + x) (by omega) (by omega)]
  exact hend _ _ Kd Vo (Wd + x) Tp c l (h.step (g2.set (Nat.le_refl _) (mdl Kd Vo (Wd + x) Tp c)) (by omega) (by omega) (get_ne r2 (by omega) _) (get_set m2 _) (by simp) (by simp) (by simp) (by simp) (by simp)) (hFS _) (lb_of ⟨by omega, by omega, by omega, by omega⟩ hbl')
 ·simp
  refine wp_mtail [s0] [] ?_
  have hrd : rdW [s0] [] st.length 3 = true := by simp [rdW]; omega
  have e5 : (s1 ++ [Blk.row 3 1 [I 1, I (-20)]])[s1.length]? = some (.row 3 1 (ints [1, -20])) := by simp [ints]
  simp only [mdl] at m1
  simp [h.g3, h.g0, m1, hrd]
  refine pick_g (g1.more _) (inW_hd hup) (by omega) e5 (by have := g1.same.len; omega) rfl (by simp) fun x s2 hx g2 b2 => ?_
  have m2 := get_but (get_more m1 _) b2 (by omega)
  have r2 := get_but (get_more r1 _) b2 (by omega)
  have hx' : -100 ≤ x ∧ x ≤ 100 := by simp at hx; omega
  simp [m2, w64 (n := Tp + x) (by omega) (by omega)]
  exact hend _ _ Kd Vo Wd (Tp + x) c l (h.step (g2.set (Nat.le_refl _) (mdl Kd Vo Wd (Tp + x) c)) (by omega) (by omega) (get_ne r2 (by omega) _) (get_set m2 _) (by simp) (by simp) (by simp) (by simp) (by simp)) (hFS _) (lb_of ⟨by omega, by omega, by omega, by omega⟩ hbl')
 ·have hg := mdl_get (Kd := Kd) (Vo := Vo) (Wd := Wd) (Tp := Tp) (c := c) h.hz
  have hp := mdl_put (Kd := Kd) (Vo := Vo) (Wd := Wd) (Tp := Tp) (c := c) h.hz
  simp only [mdl] at m1
  have ht : List.take ((l z).length - 1) (ints (l z)).tail = ints (l z).tail := by
   rw [List.take_of_length_le (by simp [ints])]
   simp [ints]
  have hz := h.hz
  have hl1 : 1 ≤ (l z).length := List.length_pos_iff.2 hlz
  simp [h.g6, m1, hg, hp, hc z, ht]
  refine ⟨⟨hl1, fun x hx => ?_⟩, by omega, ?_⟩
  ·obtain ⟨y, -, rfl⟩ := List.mem_map.1 hx; rfl
  ·refine hend _ _ Kd Vo Wd Tp (upd1 c z (.lst (fl z) (ints (l z).tail))) (fun j => if j = z then (l z).tail else l j) (h.step (g1.set (Nat.le_refl _) (mdl Kd Vo Wd Tp (upd1 c z (.lst (fl z) (ints (l z).tail))))) (by omega) (by omega) (get_ne r1 (by omega) _) (get_set m1 _) (by simp) (by simp) (by simp) (by simp) (by simp)) (fun i => ?_) (lb_of ⟨by omega, by omega, by omega, by omega⟩ fun i hi => ?_)
   ·by_cases hiz : i = z
    ·simp [hiz]; exact Or.inl ⟨_, rfl⟩
    ·simp [hiz]; exact hFS _ i
   ·by_cases hiz : i = z
    ·simp [hiz]
     have := hbl' z hz
     exact ⟨by omega, fun x hx => this.2 x (List.mem_of_mem_tail hx)⟩
    ·simp [hiz]; exact hbl' i hi
 ·have hg := mdl_get (Kd := Kd) (Vo := Vo) (Wd := Wd) (Tp := Tp) (c := c) h.hz
  have hp := mdl_put (Kd := Kd) (Vo := Vo) (Wd := Wd) (Tp := Tp) (c := c) h.hz
  simp only [mdl] at m1
  simp
  refine wp_mtail [s0] [] ?_
  have hrd : rdW [s0] [] st.length (4 + z) = true := by simp [rdW]; omega
  have e5 : (s1 ++ [Blk.row 3 1 [I 0, I 1, I 200, I (-200)]])[s1.length]? = some (.row 3 1 (ints [0, 1, 200, -200])) := by simp [ints]
  simp [h.g0, h.g6, m1, hg, hc z, hrd]
  refine ⟨fun x hx => by obtain ⟨y, -, rfl⟩ := List.mem_map.1 hx; rfl, ?_⟩
  rw [List.take_of_length_le (by simp [ints])]
  refine pick_g (g1.more _) (inW_hd hup) (by omega) e5 (by have := g1.same.len; omega) rfl (by simp) fun x s2 hx g2 b2 => ?_
  have m2 := get_but (get_more m1 _) b2 (by omega)
  have r2 := get_but (get_more r1 _) b2 (by omega)
  have hx' : -200 ≤ x ∧ x ≤ 200 := by simp at hx; omega
  simp
  have hz := h.hz
  have hlz2 := hbl z hz
  have hl2 := (List.getElem?_eq_some_iff.1 m2).1
  refine app_full (news := [I x]) (by simp) (by simp) (fun y hy => by obtain ⟨w, -, rfl⟩ := List.mem_map.1 hy; rfl) (Or.inr (by simp)) (by simp [ints]; omega) (by simp [ints]; omega) ?_
  rw [show (ints (l z)).length = (l z).length by simp [ints], show ints (l z) ++ [I x] = ints (l z ++ [x]) by simp [ints]]
  have m3 := get_more (get_more m2 [Blk.row 3 1 [I x]]) [Blk.row 3 1 (ints (l z ++ [x]))]
  have r3 := get_more (get_more r2 [Blk.row 3 1 [I x]]) [Blk.row 3 1 (ints (l z ++ [x]))]
  have g3 := (g2.more [Blk.row 3 1 [I x]]).more [Blk.row 3 1 (ints (l z ++ [x]))]
  obtain ⟨b, hbe⟩ : ∃ b, (s2 ++ [Blk.row 3 1 [I x]]).length = b := ⟨_, rfl⟩
  have k3 : ((s2 ++ [Blk.row 3 1 [I x]]) ++ [Blk.row 3 1 (ints (l z ++ [x]))])[b]? = some (Blk.row 3 1 (ints (l z ++ [x]))) := by rw [← hbe, st_at]; rfl
  have hbl3 : st.length < b := by rw [← hbe]; simp; omega
  rw [hbe]
  generalize (s2 ++ [Blk.row 3 1 [I x]]) ++ [Blk.row 3 1 (ints (l z ++ [x]))] = s3 at m3 r3 g3 k3 ⊢
  simp [m3, hp]
  refine ⟨by omega, hend _ _ Kd Vo Wd Tp (upd1 c z (.own b ((l z).length + 1) 0 ((l z).length + 1))) (fun j => if j = z then l z ++ [x] else l j) (h.step (g3.set (Nat.le_refl _) (mdl Kd Vo Wd Tp (upd1 c z (.own b ((l z).length + 1) 0 ((l z).length + 1))))) (by omega) (by omega) (get_ne r3 (by omega) _) (get_set m3 _) (by simp) (by simp) (by simp) (by simp) (by simp)) (fun i => ?_) (lb_of ⟨by omega, by omega, by omega, by omega⟩ fun i hi => ?_)⟩
  ·by_cases hiz : i = z
   ·simp [hiz]
    exact Or.inr (Or.inr ⟨b, by omega, get_ne k3 (by omega) _, by simp [ints]⟩)
   ·simp [hiz]; exact hFS _ i
  ·by_cases hiz : i = z
   ·simp [hiz]
    have := hbl' z hz
    refine ⟨by omega, fun y hy => ?_⟩
    rcases hy with hy | rfl
    ·exact this.2 y hy
    ·omega
   ·simp [hiz]; exact hbl' i hi
 ·have hg := mdl_get (Kd := Kd) (Vo := Vo) (Wd := Wd) (Tp := Tp) (c := c) h.hz
  have hp := mdl_put (Kd := Kd) (Vo := Vo) (Wd := Wd) (Tp := Tp) (c := c) h.hz
  have hl1 : 1 ≤ (l z).length := List.length_pos_iff.2 hlz
  have hz := h.hz
  have hlz2 := hbl z hz
  simp only [mdl] at m1
  simp [h.g6, m1, hg, hc z]
  refine app_out (OutS.nil st.length _ _ s1) g1.same.len (news := ints (l z)) rfl (fun x hx => by obtain ⟨y, -, rfl⟩ := List.mem_map.1 hx; rfl) (Or.inr rfl) (fun b L _ hb => by cases hb) (by simp [ints]; omega) (by simp [ints]; omega) fun v s2 o2 hl2 hb2 hk2 hn2 => ?_
  obtain ⟨b, hb1', hbb, rfl⟩ : ∃ b, st.length ≤ b ∧ s2[b]? = some (.row 3 1 (ints (l z))) ∧ v = .own b (l z).length 0 (l z).length := by
   rcases o2 with ⟨hnil, -⟩ | ⟨b, h1, h2, h3⟩
   ·exact absurd hnil (by simpa [ints] using hlz)
   ·exact ⟨b, h1, by simpa using h2, by simpa [ints] using h3⟩
  have m2 : s2[st.length]? = some (mdl Kd Vo Wd Tp c) := by rw [hk2 _ (List.getElem?_eq_some_iff.1 m1).1 (by simp [ownL])]; exact m1
  have r2 : s2[st.length + 1]? = some (mdl 0 0 0 0 nils) := by rw [hk2 _ (List.getElem?_eq_some_iff.1 r1).1 (by simp [ownL])]; exact r1
  have g2 := g1.to hl2 hb2
  have hbn : b ≠ st.length ∧ b ≠ st.length + 1 := ⟨fun e => by rw [e, m2] at hbb; simp [mdl] at hbb, fun e => by rw [e, r2] at hbb; simp [mdl] at hbb⟩
  simp [hbb]
  refine next_g g2 hup (by omega) _ (by omega) fun p s3 p1 p2 g3 b3 => ?_
  have m3 := get_but m2 b3 (by omega)
  have r3 := get_but r2 b3 (by omega)
  have k3 := get_but hbb b3 (by omega)
  have e5 : (s3 ++ [Blk.row 3 1 [I 0, I (-1), I 16, I 128, I (-129), I 1001]])[s3.length]? = some (.row 3 1 (ints [0, -1, 16, 128, -129, 1001])) := by simp [ints]
  simp
  refine pick_g (g3.more _) hup (by omega) e5 (by have := g3.same.len; omega) rfl (by simp) fun x s4 hx g4 b4 => ?_
  have m4 := get_but (get_more m3 _) b4 (by omega)
  have r4 := get_but (get_more r3 _) b4 (by omega)
  have k4 := get_but (get_more k3 _) b4 (by omega)
  have hx' : -1001 ≤ x ∧ x ≤ 1001 := by simp at hx; omega
  have hpl : p.toNat < (l z).length := by omega
  have hub : upM st.length M b = true := by simp [upM, hb1']
  simp [k4, p1, hub]
  have hi6 : (ints (l z))[p.toNat]? = some (I (l z)[p.toNat]) := by simp [ints, hpl]
  have hs6 : (ints (l z)).set p.toNat (I x) = ints ((l z).set p.toNat x) := by simp [ints, List.map_set]
  have m5 := get_ne m4 hbn.1 (Blk.row 3 1 (ints ((l z).set p.toNat x)))
  have r5 := get_ne r4 hbn.2 (Blk.row 3 1 (ints ((l z).set p.toNat x)))
  have k5 := get_set k4 (Blk.row 3 1 (ints ((l z).set p.toNat x)))
  have m5' := m5
  simp only [mdl] at m5'
  simp [hi6, hs6, m5', hp, show p < ((l z).length : Int) by omega]
  refine ⟨by omega, hend _ _ Kd Vo Wd Tp (upd1 c z (.own b (l z).length 0 (l z).length)) (fun j => if j = z then (l z).set p.toNat x else l j) (h.step ((g4.set hb1' _).set (Nat.le_refl _) (mdl Kd Vo Wd Tp (upd1 c z (.own b (l z).length 0 (l z).length)))) (by omega) (by omega) (get_ne r5 (by omega) _) (get_set m5 _) (by simp) (by simp) (by simp) (by simp) (by simp)) (fun i => ?_) (lb_of ⟨by omega, by omega, by omega, by omega⟩ fun i hi => ?_)⟩
  ·by_cases hiz : i = z
   ·simp [hiz]
    exact Or.inr (Or.inr ⟨b, hb1', get_ne k5 (Ne.symm hbn.1) _, by simp [ints]⟩)
   ·simp [hiz]; exact hFS _ i
  ·by_cases hiz : i = z
   ·simp [hiz]
    have := hbl' z hz
    refine ⟨by omega, fun y hy => ?_⟩
    rcases List.mem_or_eq_of_mem_set hy with hy | rfl
    ·exact this.2 y hy
    ·omega
   ·simp [hiz]; exact hbl' i hi
set_option maxRecDepth 10000 in
theorem tn_len {B : Int} {n : Nat} (hK : TK st s0 f xs a B n K) (hM : M s0 = true) (ha : 0 ≤ a ∧ a ≤ 10000000) (hB : 2000 ≤ B ∧ B ≤ 100000) (hn : 1 ≤ n ∧ n ≤ 100000) (h : TnV st s0 f xs a (a + 1) fr s Kd Vo Wd Tp c z) {l : Nat → List Int} {fl : Nat → Bool} (hc : ∀ i, c i = .lst (fl i) (ints (l i))) (hb : LB B n (lm Kd Vo Wd Tp l)) :
  wpM Tryz.prog T (liftM (upM st.length M)) F_tainted.code.r.r.r (TQ st K Kp) fr s := by
 have hend : ∀ (fr : Fr) (s : St) (c : Nat → V) (l : Nat → List Int) (fl : Nat → Bool), TnV st s0 f xs a (a + 1) fr s Kd Vo Wd Tp c z → (∀ i, c i = .lst (fl i) (ints (l i))) → l z ≠ [] → LB B n (lm Kd Vo Wd Tp l) → wpM Tryz.prog T (liftM (upM st.length M)) F_tainted.code.r.r.r.r (TQ st K Kp) fr s := fun fr s c l fl q1 q2 q3 q4 => tn_sw hK hM ha hB hn q1 q2 q3 q4
 have e : F_tainted.code.r.r.r = .seq F_tainted.code.r.r.r.l F_tainted.code.r.r.r.r := rfl
 rw [e, wp_mseq]
 generalize wpM Tryz.prog T (liftM (upM st.length M)) F_tainted.code.r.r.r.r (TQ st K Kp) = k12 at hend ⊢
 obtain ⟨a', e1, e2, g⟩ := h.gs
 have hg := mdl_get (Kd := Kd) (Vo := Vo) (Wd := Wd) (Tp := Tp) (c := c) h.hz
 have hp := mdl_put (Kd := Kd) (Vo := Vo) (Wd := Wd) (Tp := Tp) (c := c) h.hz
 obtain ⟨hb1, hbl⟩ := lb_to hb
 have hz := h.hz
 have m1 := h.md
 simp only [mdl] at m1
 by_cases hl : l z = []
 ·simp [F_tainted, MC.l, MC.r, h.g6, m1, hg, hp, hc z, hl, ints]
  refine ⟨by omega, hend _ _ (upd1 c z (.lst false (ints [0]))) (fun j => if j = z then [0] else l j) (fun j => if j = z then false else fl j) (h.step (g.set (Nat.le_refl _) (mdl Kd Vo Wd Tp (upd1 c z (.lst false (ints [0]))))) e1 e2 (get_ne h.rb (by omega) _) (get_set h.md _) (by simp) (by simp) (by simp) (by simp) (by simp)) (fun i => ?_) (by simp) (lb_of hb1 fun i hi => ?_)⟩
  ·by_cases hiz : i = z
   ·simp [hiz]
   ·simp [hiz]; exact hc i
  ·by_cases hiz : i = z
   ·simp [hiz]; omega
   ·simp [hiz]; exact hbl i hi
 ·have hl' : (((l z).length : Int) == 0) = false := by
   have := List.length_pos_iff.2 hl
   simp; omega
  simp [F_tainted, MC.l, MC.r, h.g6, m1, hg, hc z, hl']
  exact hend _ _ c l fl (h.step g e1 e2 h.rb h.md (by simp) (by simp) (by simp) (by simp) (by simp)) hc hl hb
set_option maxRecDepth 10000 in
theorem tainted_v (s0 : Nat) (fl : Nat → Bool) (m : LModel) {B : Int} {n : Nat} (hs : st[s0]? = some (strm f xs a)) (hM : M s0 = true) (src : xs.length ≤ 9223372036854775807 ∧ ∀ x ∈ xs, -9223372036854775808 ≤ x ∧ x ≤ 9223372036854775807) (ha : 0 ≤ a ∧ a ≤ 10000000) (hB : 2000 ≤ B ∧ B ≤ 100000) (hn : 1 ≤ n ∧ n ≤ 100000) (hb : LB B n m) (hK : TK st s0 f xs a B n K) :
  CallV Tryz.prog T M 39 [.ptr s0 1 0 0, encM fl m] st K Kp := by
 have hlt : s0 < st.length := (List.getElem?_eq_some_iff.1 hs).1
 have hup : upM st.length M s0 = true := upM_of hM
 have g00 : GS st.length s0 st st f xs a := ⟨Same.refl (Nat.le_refl _), hs, hlt, src⟩
 have hend : ∀ (fr : Fr) (s : St) (c : Nat → V) (z : Nat), TnV st s0 f xs a (a + 1) fr s m.kind m.vocab m.width m.top c z → (∀ i, c i = .lst (fl i) (ints (mls m i))) → wpM Tryz.prog T (liftM (upM st.length M)) F_tainted.code.r.r.r (TQ st K Kp) fr s := fun fr s c z q1 q2 => tn_len hK hM ha hB hn q1 q2 hb
 refine CallV.give (fun_ok hmix c_tainted (le_of rfl) ?_)
 have e : F_tainted.code = .seq F_tainted.code.l (.seq F_tainted.code.r.l (.seq F_tainted.code.r.r.l F_tainted.code.r.r.r)) := rfl
 rw [show Fin F_tainted.res (fun v st' => ∃ v', Frz st.length st' v v' ∧ LowSt st st' ∧ K v' (st'.take st.length)) (fun c st' => LowSt st st' ∧ Kp c (st'.take st.length)) = TQ st K Kp from rfl]
 generalize F_tainted.code.r.r.r = c4 at hend e
 rw [e]
 simp [F_tainted, MC.l, MC.r, encM]
 refine next_g (g00.more _) hup (by omega) 7 (by omega) fun q s1 q1 q2 g1 b1 => ?_
 have m1 := get_but (show (st ++ [mdl m.kind m.vocab m.width m.top (fun i => .lst (fl i) (ints (mls m i))), mdl 0 0 0 0 nils, Blk.row 116 1 [.ptr st.length 1 0 4, .ptr st.length 1 0 5, .ptr st.length 1 0 6, .ptr st.length 1 0 7, .ptr st.length 1 0 8, .ptr st.length 1 0 9, .ptr st.length 1 0 10]])[st.length]? = some (mdl m.kind m.vocab m.width m.top (fun i => .lst (fl i) (ints (mls m i)))) by simp) b1 (by omega)
 have r1 := get_but (show (st ++ [mdl m.kind m.vocab m.width m.top (fun i => .lst (fl i) (ints (mls m i))), mdl 0 0 0 0 nils, Blk.row 116 1 [.ptr st.length 1 0 4, .ptr st.length 1 0 5, .ptr st.length 1 0 6, .ptr st.length 1 0 7, .ptr st.length 1 0 8, .ptr st.length 1 0 9, .ptr st.length 1 0 10]])[st.length + 1]? = some (mdl 0 0 0 0 nils) by simp) b1 (by omega)
 have p1 := get_but (show (st ++ [mdl m.kind m.vocab m.width m.top (fun i => .lst (fl i) (ints (mls m i))), mdl 0 0 0 0 nils, Blk.row 116 1 [.ptr st.length 1 0 4, .ptr st.length 1 0 5, .ptr st.length 1 0 6, .ptr st.length 1 0 7, .ptr st.length 1 0 8, .ptr st.length 1 0 9, .ptr st.length 1 0 10]])[st.length + 2]? = some (Blk.row 116 1 [.ptr st.length 1 0 4, .ptr st.length 1 0 5, .ptr st.length 1 0 6, .ptr st.length 1 0 7, .ptr st.length 1 0 8, .ptr st.length 1 0 9, .ptr st.length 1 0 10]) by simp) b1 (by omega)
 have hq : q = 0 ∨ q = 1 ∨ q = 2 ∨ q = 3 ∨ q = 4 ∨ q = 5 ∨ q = 6 := by omega
 rcases hq with rfl | rfl | rfl | rfl | rfl | rfl | rfl
 ·simp [p1]
  exact hend _ _ (fun i => .lst (fl i) (ints (mls m i))) 0 ⟨⟨_, by omega, by omega, g1⟩, m1, r1, by simp, by simp, by simp, by simp, by simp, by omega⟩ fun i => rfl
 ·simp [p1]
  exact hend _ _ (fun i => .lst (fl i) (ints (mls m i))) 1 ⟨⟨_, by omega, by omega, g1⟩, m1, r1, by simp, by simp, by simp, by simp, by simp, by omega⟩ fun i => rfl
 ·simp [p1]
  exact hend _ _ (fun i => .lst (fl i) (ints (mls m i))) 2 ⟨⟨_, by omega, by omega, g1⟩, m1, r1, by simp, by simp, by simp, by simp, by simp, by omega⟩ fun i => rfl
 ·simp [p1]
  exact hend _ _ (fun i => .lst (fl i) (ints (mls m i))) 3 ⟨⟨_, by omega, by omega, g1⟩, m1, r1, by simp, by simp, by simp, by simp, by simp, by omega⟩ fun i => rfl
 ·simp [p1]
  exact hend _ _ (fun i => .lst (fl i) (ints (mls m i))) 4 ⟨⟨_, by omega, by omega, g1⟩, m1, r1, by simp, by simp, by simp, by simp, by simp, by omega⟩ fun i => rfl
 ·simp [p1]
  exact hend _ _ (fun i => .lst (fl i) (ints (mls m i))) 5 ⟨⟨_, by omega, by omega, g1⟩, m1, r1, by simp, by simp, by simp, by simp, by simp, by omega⟩ fun i => rfl
 ·simp [p1]
  exact hend _ _ (fun i => .lst (fl i) (ints (mls m i))) 6 ⟨⟨_, by omega, by omega, g1⟩, m1, r1, by simp, by simp, by simp, by simp, by simp, by omega⟩ fun i => rfl
end
end Go.Proofs.YtkcdgaijklhnaaaGreatDoor.Vm
namespace Go.Proofs.YtkcdgaijklhnaaaGreatDoor.Vm
open Go.RowKit
section
variable {n sb : Nat} {st s : St} {f : Bool} {xs : List Int} {a : Int} {T : Tbl} {M : Nat → Bool} {K : V → St → Prop} {Kp : List PanicEntry → St → Prop}
theorem tainted_g {B : Int} {k : Nat} (fl : Nat → Bool) (m : LModel) (g : GS n sb st s f xs a) (hM : M sb = true) (ha : 0 ≤ a ∧ a ≤ 10000000) (hB : 2000 ≤ B ∧ B ≤ 100000) (hn : 1 ≤ k ∧ k ≤ 100000) (hb : LB B k m) (hK : ∀ fl m s' a', LB (B + 100) (k + 1) m → a ≤ a' → a' ≤ a + 10 → GS n sb st s' f xs a' → But sb s s' → K (encM fl m) s') : CallV Tryz.prog T M 39 [.ptr sb 1 0 0, encM fl m] s K Kp :=
 tainted_v sb fl m g.str hM g.src ha hB hn hb fun fl m a' h1 h2 h3 => hK fl m _ a' h1 h2 h3 (g.next _) (But.set _ _ _)
set_option maxRecDepth 10000 in
theorem maybe_g (g : GS n sb st s f xs a) (hM : M sb = true) (ha : 0 ≤ a ∧ a ≤ 1000000) (hK : ∀ fl m s' a', LB 2100 201 m → a ≤ a' → a' ≤ a + 20000 → GS n sb st s' f xs a' → But sb s s' → K (encM fl m) s') : CallV Tryz.prog T M 6 [.ptr sb 1 0 0] s K Kp := by
 have hlt : sb < s.length := Nat.lt_of_lt_of_le g.hsb g.same.len
 have hup : upM s.length M sb = true := upM_of hM
 have g00 : GS s.length sb s s f xs a := ⟨Same.refl (Nat.le_refl _), g.str, hlt, g.src⟩
 have fin : ∀ (fl : Nat → Bool) (m : LModel) (a2 : Int) (s2 : St), LB 2100 201 m → a ≤ a2 → a2 ≤ a + 20000 → GS s.length sb s s2 f xs a2 → s2[s.length]? = some (mdl 0 0 0 0 nils) → s2[s.length + 1]? = some (mdl m.kind m.vocab m.width m.top (fun i => .lst (fl i) (ints (mls m i)))) → ∀ fr : Fr, fr.g 2 = .ptr s.length 1 0 0 → fr.g 3 = .ptr (s.length + 1) 1 0 0 → fr.df = [] → wpM Tryz.prog T (liftM (upM s.length M)) F_maybe.code.r.r.r (Fin F_maybe.res (fun v st' => ∃ v', Frz s.length st' v v' ∧ LowSt s st' ∧ K v' (st'.take s.length)) (fun c st' => LowSt s st' ∧ Kp c (st'.take s.length))) fr s2 := fun fl m a2 s2 q1 q2 q3 g2 r2 m2 fr z2 z3 zd => by
  have rb2 : ∀ x, (s2.set s.length x)[s.length]? = some x := fun x => get_set r2 x
  simp only [mdl, nils] at r2 m2
  simp [F_maybe, MC.r, z2, z3, zd, r2, m2, rb2]
  have g' := g2.set (Nat.le_refl _) (mdl m.kind m.vocab m.width m.top (fun i => .lst (fl i) (ints (mls m i))))
  have hlow := g'.same.low g'.str (by simp [V.low])
  refine ⟨encM fl m, encM_frz _ _ fl m, hlow, ?_⟩
  have ht := g'.same.take g'.str
  simp only [mdl] at ht
  rw [ht]
  exact hK fl m _ a2 q1 q2 q3 (g.next _) (But.set _ _ _)
 refine CallV.give (fun_ok hmix c_maybe (le_of rfl) ?_)
 have e : F_maybe.code = .seq F_maybe.code.l (.seq F_maybe.code.r.l (.seq F_maybe.code.r.r.l F_maybe.code.r.r.r)) := rfl
 generalize F_maybe.code.r.r.r = c4 at fin e
 rw [e]
 generalize Fin F_maybe.res _ _ = QQ at fin ⊢
 simp [F_maybe, MC.l, MC.r]
 have R0 : (s ++ [mdl 0 0 0 0 nils])[s.length]? = some (mdl 0 0 0 0 nils) := by simp
 refine gmodel_g (g00.more _) hup (by omega) fun fl m s1 a1 hm e1 e2 g1 b1 => ?_
 have R1 := get_but R0 b1 (by omega)
 have hl1 : s1.length = s.length + 1 := by rw [b1.1]; simp
 simp [encM]
 have m2 : (s1 ++ [mdl m.kind m.vocab m.width m.top (fun i => .lst (fl i) (ints (mls m i)))])[s1.length]? = some (mdl m.kind m.vocab m.width m.top (fun i => .lst (fl i) (ints (mls m i)))) := by simp
 have R2 := get_more R1 [mdl m.kind m.vocab m.width m.top (fun i => .lst (fl i) (ints (mls m i)))]
 refine ⟨by simp [upM]; omega, ?_⟩
 refine flip_g (g1.more [mdl m.kind m.vocab m.width m.top (fun i => .lst (fl i) (ints (mls m i)))]) hup (by omega) 4 (by omega) fun b s2 g2 b2 => ?_
 have m3 := get_but m2 b2 (by omega)
 have R3 := get_but R2 b2 (by omega)
 rw [hl1] at m3
 cases b with
 | false =>
  simp
  exact fin fl m _ s2 ((GenM.lb hm).wide (by omega) (by omega)) (by omega) (by omega) g2 R3 m3 _ (by simp) (by simp [hl1]) (by simp)
 | true =>
  have m3' := m3
  simp only [mdl] at m3'
  simp [hl1, m3']
  refine tainted_g fl m g2 hup (by omega) (B := 2000) (k := 200) (by omega) (by omega) (GenM.lb hm) fun fl2 m2 s4 a4 q1 q2 q3 g4 b4 => ?_
  have m4 := get_but m3 b4 (by omega)
  have R4 := get_but R3 b4 (by omega)
  have m4' := m4
  simp only [mdl] at m4'
  simp [encM, m4']
  exact fin fl2 m2 a4 _ q1 (by omega) (by omega) (g4.set (b := s.length + 1) (by omega) (mdl m2.kind m2.vocab m2.width m2.top (fun i => .lst (fl2 i) (ints (mls m2 i))))) (get_ne R4 (by omega) _) (get_set m4 _) _ (by simp) (by simp) (by simp)
end
section
variable {T : Tbl} {M : Nat → Bool} {st : St} {K : V → St → Prop} {Kp : List PanicEntry → St → Prop} {B : Int} {n : Nat} (fl : Nat → Bool) (m : LModel)
theorem fault_m (hb : LB B n m) (hn : n ≤ 2000) (hK : K (I (chkM m)) st) : CallV Tryz.prog T M 7 [encM fl m] st K Kp :=
 CallV.of_read (uV := I (chkM m)) (u := .int .i64 (chkM m)) (G := fun w us => ∃ v, us = [v] ∧ VModel w.cell? v m) (by kernel_rfl) (fun _ _ _ _ _ _ _ hu => gvm hb hn hu) (fun w us ⟨v, h1, h2⟩ => by
  subst h1; exact fault_any m v w h2 (by have := hb.sum4; omega) (by have := hb.sum2; omega)) (fun E w => .pure (.val _)) hK
end
end Go.Proofs.YtkcdgaijklhnaaaGreatDoor.Vm
namespace Go.Proofs.YtkcdgaijklhnaaaGreatDoor.Vm
open Go.RowKit
end Go.Proofs.YtkcdgaijklhnaaaGreatDoor.Vm
