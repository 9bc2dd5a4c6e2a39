/-
  A model read from bytes and checked, run by the value machine: the program's way and the reference's.
  The writers of numbers, run by the value machine.
  The writers of lists, run by the value machine.
  The bytes of a model, run by the value machine.
  Entries are checked and drawn, run by the value machine.
  Stream.Bytes, run by the value machine.
  The bytes of a model: models.Bytes, slices.Equal, Stream.Bytes with the stream kept.
  ModelPacks: the law, walked by the value machine.
  weftref1.SameModel of one model twice, run by the value machine.
-/
import Derived.Test.YtkcdgaijklhnaaaGreatDoorK25
import Derived.Test.YtkcdgaijklhnaaaGreatDoorK07
import Derived.Test.YtkcdgaijklhnaaaGreatDoorK23
import Derived.Test.YtkcdgaijklhnaaaGreatDoorK21
import Derived.Test.YtkcdgaijklhnaaaGreatDoorK22
namespace Go.Proofs.YtkcdgaijklhnaaaGreatDoor.Vm
open Go.RowKit
theorem pMany_sum : ∀ {n : Nat} {acc l out r : List Int}, pMany n acc l = .inr (out, r) → isB l → out.length + r.length ≤ acc.length + l.length := fun h hl => (pMany_rest h hl).2.2.2
theorem pLst_sum {l out r : List Int} (h : pLst l = .inr (out, r)) (hl : isB l) : out.length + r.length ≤ l.length := by
 unfold pLst at h
 split at h
 ·cases h
 ·rename_i n r' hn
  obtain ⟨h1, h2, h3⟩ := pCnt_rest hn hl
  have := pMany_sum h h1
  simp at this
  omega
theorem pGo_sum : ∀ {n : Nat} {acc : List (List Int)} {l : List Int} {out : List (List Int)} {r : List Int}, pGo n acc l = .inr (out, r) → isB l → sumLen out + r.length ≤ sumLen acc + l.length ∧ out.length = acc.length + n
 | 0, acc, l, out, r, h, hl => by cases h; exact ⟨Nat.le_refl _, rfl⟩
 | n + 1, acc, l, out, r, h, hl => by
  unfold pGo at h
  split at h
  ·cases h
  ·rename_i x r' hx
   have h1 := pLst_sum hx hl
   obtain ⟨h2, h3⟩ := pGo_sum h (pLst_rest hx hl).1
   simp [sumLen] at h2 h3 ⊢
   omega
theorem sum_toM {acc : List (List Int)} (h : acc.length = 7) (a b c d : Int) : sumLen (listsM (toM a b c d acc)) = sumLen acc := by
 match acc, h with
 | [x0, x1, x2, x3, x4, x5, x6], _ => rfl
theorem pMod_sum {l : List Int} {m : LModel} {r : List Int} (h : pMod l = .inr (m, r)) (hl : isB l) : sumLen (listsM m) ≤ l.length := by
 unfold pMod at h
 split at h
 ·cases h
 rename_i h1
 split at h
 ·cases h
 rename_i h2
 split at h
 ·cases h
 rename_i h3
 split at h
 ·cases h
 rename_i h4
 split at h
 ·cases h
 rename_i h5
 cases h
 obtain ⟨i1, k1⟩ := pNum_rest h1 hl
 obtain ⟨i2, k2⟩ := pNum_rest h2 i1
 obtain ⟨i3, k3⟩ := pNum_rest h3 i2
 obtain ⟨i4, k4⟩ := pNum_rest h4 i3
 obtain ⟨s1, s2⟩ := pGo_sum h5 i4
 rw [sum_toM (by simpa using s2)]
 simp [sumLen] at s1 ⊢
 omega
theorem pAll_sum {l : List Int} (hl : isB l) : sumLen (listsM (pAll l).1) ≤ l.length := by
 unfold pAll
 split
 ·simp [listsM, zM, sumLen]
 ·rename_i h
  split
  ·exact pMod_sum h hl
  ·simp [listsM, zM, sumLen]
theorem sum_mem {xs : List (List Int)} {n : Nat} (h : sumLen xs ≤ n) : ∀ x ∈ xs, x.length ≤ n := by
 induction xs with
 | nil => simp
 | cons y r ih =>
  simp [sumLen] at h ih ⊢
  exact ⟨by omega, fun x hx => ih (by omega) x hx⟩
section
variable {T : Tbl} {M : Nat → Bool} {st : St} {K : V → St → Prop} {Kp : List PanicEntry → St → Prop} {E : Env} {w : World} (fl : Nat → Bool) {m : LModel}
theorem gvs (hs : sumLen (listsM m) ≤ 1000000) {us : List Value} (hu : Pw E st w [encM fl m] us) : ∃ v, us = [v] ∧ VModel w.cell? v m := by
 obtain ⟨v, rfl, h1⟩ := pw1 hu
 exact ⟨v, rfl, vmodel_of h1 fun l hl => by have := sum_mem hs l hl; omega⟩
theorem fault_s (hs : sumLen (listsM m) ≤ 1000000) (hK : K (I (chkM m)) st) : CallV Tryz.prog T M 7 [encM fl m] st K Kp :=
 CallV.of_read (uV := I (chkM m)) (u := .int .i64 (chkM m)) (G := fun w us => ∃ v, us = [v] ∧ VModel w.cell? v m) (by kernel_rfl) (fun _ _ _ _ _ _ _ hu => gvs fl hs hu) (fun w us ⟨v, h1, h2⟩ => by
  subst h1; exact fault_any m v w h2 (by simp [sumLen, listsM] at hs ⊢; omega) (by simp [sumLen, listsM] at hs ⊢; omega)) (fun E w => .pure (.val _)) hK
theorem check_s (hs : sumLen (listsM m) ≤ 1000000) (hK : K (I (chkM m)) st) : CallV Tryz.prog T M 46 [encM fl m] st K Kp :=
 CallV.of_read (uV := I (chkM m)) (u := .int .i64 (chkM m)) (G := fun w us => ∃ v, us = [v] ∧ VModel w.cell? v m) (by kernel_rfl) (fun _ _ _ _ _ _ _ hu => gvs fl hs hu) (fun w us ⟨v, h1, h2⟩ => by
  subst h1; exact mcheck_any m v w h2 (by simp [sumLen, listsM] at hs ⊢; omega)) (fun E w => .pure (.val _)) hK
end
section
variable {T : Tbl} {M : Nat → Bool} {st : St} {K : V → St → Prop} {Kp : List PanicEntry → St → Prop}
theorem mparse_v {f : Bool} {l : List Int} (hl : isB l) (hlen : l.length ≤ 1000000) (hK : ∀ fl, K (.tup [encM fl (pAll l).1, I (pAll l).2]) st) : CallV Tryz.prog T M 50 [.lst f (bys l)] st K Kp := by
 refine CallV.give (fun_ok hmix c_mparse (le_of rfl) ?_)
 simp [F_mparse]
 refine cread_v hl hlen fun fl => ?_
 simp [encM]
 exact ⟨_, frz_me _ _ fl _ _, ((KeepL.refl st).more _).low, hK fl⟩
theorem mchecked_v {fl : Nat → Bool} {m : LModel} (hs : sumLen (listsM m) ≤ 1000000) (hK : ∀ fl, K (.tup [encM fl (if chkM m ≠ 0 then zM else m), I (chkM m)]) st) : CallV Tryz.prog T M 51 [encM fl m] st K Kp := by
 refine CallV.give (fun_ok hmix c_mchecked (le_of rfl) ?_)
 simp [F_mchecked, encM]
 rw [← encM]
 refine check_s fl hs ?_
 by_cases hc : chkM m = 0
 ·have := hK fl
  rw [if_neg (fun h => h hc), hc] at this
  simp [hc, encM]
  exact ⟨_, frz_me _ _ fl _ 0, ((KeepL.refl st).more _).low, this⟩
 ·have := hK (fun _ => true)
  rw [if_pos hc] at this
  have hcb : (chkM m != 0) = true := by simpa using hc
  simp [hcb]
  exact ⟨_, frz_me _ _ (fun _ => true) zM _, ((KeepL.refl st).more _).low, this⟩
end
end Go.Proofs.YtkcdgaijklhnaaaGreatDoor.Vm
namespace Go.Proofs.YtkcdgaijklhnaaaGreatDoor.Vm
open Go.RowKit
def wrB (v : V) : Blk := .row 122 1 [v]
def pkB (v : V) : Blk := .row 77 1 [.agg [v]]
structure WS (wr : V → Blk) (n : Nat) (st0 : St) (v0 : V) (wb : Nat) (s : St) (v : V) (out : List Int) : Prop where
 len : st0.length ≤ s.length
 cell : s[wb]? = some (wr v)
 row : OutS n 5 1 s v (bys out)
 keep : ∀ b, b < st0.length → b ≠ wb → b ∉ ownL v0 → s[b]? = st0[b]?
 own : ∀ b ∈ ownL v, b ∈ ownL v0 ∨ st0.length ≤ b
theorem bys_append (a b : List Int) : bys (a ++ b) = bys a ++ bys b := by simp [bys]
theorem OutS.one {n t k : Nat} {s : St} {v : V} {l : List V} (h : OutS n t k s v l) : v.cells = [v] ∧ leafL [v] = true := by
 rcases h with ⟨-, rfl⟩ | ⟨b, -, -, rfl⟩ <;> exact ⟨rfl, rfl⟩
theorem wrB_row (v : V) : ∃ t xs, wrB v = .row t 1 xs ∧ t ≠ 5 := ⟨_, _, rfl, by decide⟩
theorem pkB_row (v : V) : ∃ t xs, pkB v = .row t 1 xs ∧ t ≠ 5 := ⟨_, _, rfl, by decide⟩
theorem row_ne {wr : V → Blk} (hwr : ∀ v, ∃ t xs, wr v = .row t 1 xs ∧ t ≠ 5) {s : St} {wb b : Nat} {v : V} {l : List V} (h1 : s[wb]? = some (wr v)) (h2 : s[b]? = some (.row 5 1 l)) : b ≠ wb := by
 rintro rfl
 obtain ⟨t, xs, e, ht⟩ := hwr v
 rw [h1, e] at h2
 injection h2 with h2
 injection h2 with h2
 exact ht h2
theorem WS.app {M : Nat → Bool} {wr : V → Blk} {n wb : Nat} {st s : St} {v0 v : V} {out : List Int} {c : Int} {k2 : V → St → Prop} (hW : WS wr n st v0 wb s v out) (hwr : ∀ v, ∃ t xs, wr v = .row t 1 xs ∧ t ≠ 5) (hn : n ≤ st.length) (hMo : ∀ b ∈ ownL v0, M b = true) (hl : out.length ≤ 1000000)
  (hK : ∀ v2 s3, s3[wb]? = some (wr v) → v2.cells = [v2] → leafL [v2] = true → WS wr n st v0 wb (s3.set wb (wr v2)) v2 (out ++ [c]) → k2 v2 s3) : obind2 (mApp (liftM (upM st.length M)) 5 1 1 (s ++ [.row 5 1 [.val (.int .u8 c)]]) v (.own s.length 1 0 1)) k2 := by
 have hlen := hW.len
 have hwlt : wb < s.length := (List.getElem?_eq_some_iff.1 hW.cell).1
 have hno : wb ∉ ownL v := fun h => by
  rcases hW.row with ⟨-, rfl⟩ | ⟨b, -, h2, rfl⟩
  ·cases h
  ·simp [ownL] at h
   exact row_ne hwr hW.cell h2 h.symm
 refine app_out (hW.row.more _) (by simp; omega) (news := [.val (.int .u8 c)]) (by simp) (by simp) (Or.inl (by simp)) (fun b L hb hv j => ?_) (by simp; omega) (by simp; omega) fun v2 s3 o3 hl3 hb3 hk3 hn3 => ?_
 ·have : b ∈ ownL v := by rw [hv]; simp [ownL]
  rcases hW.own b this with h | h
  ·have := hMo b h
   simp [liftM, upM, this]
  ·simp [liftM, upM, h]
 ·have hc3 : s3[wb]? = some (wr v) := by rw [hk3 wb (by simp; omega) hno]; exact get_more hW.cell _
  refine hK v2 s3 hc3 o3.one.1 o3.one.2 ⟨by have := hl3; simp at this ⊢; omega, get_set hc3 _, ?_, fun b h1 h2 h3 => ?_, fun b hb => ?_⟩
  ·rw [bys_append]
   rcases o3 with ⟨h, -⟩ | ⟨b, q1, q2, q3⟩
   ·simp at h
   ·exact Or.inr ⟨b, q1, get_ne q2 (Ne.symm (row_ne hwr hc3 q2)) _, q3⟩
  ·have hb : b ∉ ownL v := fun h => by
    rcases hW.own b h with h | h
    ·exact h3 h
    ·omega
   rw [List.getElem?_set_ne (Ne.symm h2), hk3 b (by simp; omega) hb, List.getElem?_append_left (by omega)]
   exact hW.keep b h1 h2 h3
  ·rcases hn3 b hb with h | h
   ·exact hW.own b h
   ·right
    simp at h
    omega
theorem more_byte (u : Int) : IntKind.u8.wrap ↑((IntKind.u8.wrap u % 2 ^ IntKind.u8.bits).toNat ||| 128 % 2 ^ IntKind.u8.bits) = moreB u := by
 have h : IntKind.u8.wrap u = u % 256 := by simp [IntKind.wrap, IntKind.signed, IntKind.bits]
 rw [h]
 show _ = IntKind.u8.wrap ↑(BitVec.ofInt 8 (u % 256) ||| BitVec.ofInt 8 128).toNat
 rw [BitVec.toNat_or, BitVec.toNat_ofInt, BitVec.toNat_ofInt]
 rfl
theorem wrap64_eq (x : Int) : wrap64 x = IntKind.i64.wrap x := by
 simp [wrap64, IntKind.wrap, IntKind.signed, IntKind.bits]
 split <;> omega
theorem OutS.upd {n t k : Nat} {s : St} {v : V} {l : List V} (h : OutS n t k s v l) (x : V) : Vm.upd v 0 x = x := by
 rcases h with ⟨-, rfl⟩ | ⟨b, -, -, rfl⟩ <;> rfl
theorem unB_rng (x : Int) : 0 ≤ unB x ∧ unB x < 18446744073709551616 := by
 unfold unB
 split <;> simp [IntKind.wrap, IntKind.signed, IntKind.bits] <;> omega
section
variable {T : Tbl} {M : Nat → Bool} {st : St} {K : V → St → Prop} {Kp : List PanicEntry → St → Prop}
theorem wnum_v {n wb : Nat} {v : V} {out : List Int} {x : Int} (hw : st[wb]? = some (wrB v)) (hO : OutS n 5 1 st v (bys out)) (hn : n ≤ st.length) (hM : M wb = true) (hMo : ∀ b ∈ ownL v, M b = true) (hlen : out.length ≤ 900000) (hK : ∀ v' s', WS wrB n st v wb s' v' (out ++ packU 10 (unB x)) → K (.tup []) s') : CallV Tryz.prog T M 90 [.ptr wb 1 0 0, I x] st K Kp := by
 refine fun_ok hmix c_wnum (le_of rfl) ?_
 have e1 : F_wnum.code = .seq F_wnum.code.l (.seq F_wnum.code.r.l (.seq F_wnum.code.r.r.l F_wnum.code.r.r.r)) := rfl
 have fin : ∀ (fr : Fr) (s : St) (v' : V) (out' : List Int) (u : Int), WS wrB n st v wb s v' out' → out' ++ [u] = out ++ packU 10 (unB x) → 0 ≤ u → u < 128 → out'.length ≤ 900010 → fr.g 0 = .ptr wb 1 0 0 → fr.g 4 = .val (.int .u64 u) → fr.df = [] → wpM Tryz.prog T (liftM (upM st.length M)) F_wnum.code.r.r.r (Fin F_wnum.res K Kp) fr s := fun fr s v' out' u hW he u0 u1 hl z0 z4 hdf => by
  have hc := hW.cell
  simp only [wrB] at hc
  have hu8 : IntKind.u8.wrap u = u := by simp [IntKind.wrap, IntKind.signed, IntKind.bits]; omega
  simp [F_wnum, MC.r, z0, z4, hc, hW.row.one.1, hu8]
  refine hW.app wrB_row hn hMo (by omega) fun v2 s3 h3 hv hlf hW2 => ?_
  simp only [wrB] at h3
  simp [h3, hv, hlf, upM_of hM, hdf, hW.row.one.1, hW.row.upd v2]
  exact hK v2 _ (by rw [← he]; exact hW2)
 generalize F_wnum.code.r.r.r = c3 at fin e1
 have loop : ∀ (fr : Fr), fr.g 4 = .val (.int .u64 (unB x)) → fr.g 0 = .ptr wb 1 0 0 → fr.df = [] → wpM Tryz.prog T (liftM (upM st.length M)) (.seq F_wnum.code.r.r.l c3) (Fin F_wnum.res K Kp) fr st := fun fr z4 z0 hdf => by
  have e2 : F_wnum.code.r.r.l = .block 0 (.loop F_wnum.code.r.r.l.bb.bb) := rfl
  rw [e2]
  simp
  refine wp_mloop (fun fr s => ∃ (u : Int) (f : Nat) (v' : V) (out' : List Int), WS wrB n st v wb s v' out' ∧ fr.g 4 = .val (.int .u64 u) ∧ 0 ≤ u ∧ u < 128 ^ (f + 1) ∧ f ≤ 10 ∧ out' ++ packU f u = out ++ packU 10 (unB x) ∧ out'.length + f ≤ 900010 ∧ fr.g 0 = .ptr wb 1 0 0 ∧ fr.df = []) (fun fr _ => nat (fr.g 4)) ⟨unB x, 10, v, out, ⟨Nat.le_refl _, hw, hO, fun _ _ _ _ => rfl, fun b hb => Or.inl hb⟩, z4, ?_, ?_, by omega, rfl, by omega, z0, hdf⟩ ?_
  ·exact (unB_rng x).1
  ·exact Int.lt_of_lt_of_le (unB_rng x).2 (by decide)
  clear z4 z0 hdf
  rintro fr s ⟨u, f, v', out', hW, z4, u0, u1, hf, he, hl, z0, hdf⟩
  have hc := hW.cell
  simp only [wrB] at hc
  by_cases hu : 128 ≤ u
  ·have hq : u.fdiv (2 ^ min 7 IntKind.u64.bits) = u / 128 := by
    rw [Int.fdiv_eq_ediv_of_nonneg u (by decide)]; rfl
   obtain ⟨f', rfl⟩ : ∃ f', f = f' + 1 := by
    cases f with
    | zero => exfalso; simp at u1; omega
    | succ f' => exact ⟨f', rfl⟩
   have h7 : u / 128 < 128 ^ (f' + 1) := by
    rw [Int.pow_succ] at u1
    omega
   simp [F_wnum, MC.l, MC.r, MC.bb, z0, z4, hc, hu, hW.row.one.1, more_byte, hq]
   refine hW.app wrB_row hn hMo (by omega) fun v2 s3 h3 hv hlf hW2 => ?_
   simp only [wrB] at h3
   simp [h3, hv, hlf, upM_of hM, hdf, hW.row.one.1, hW.row.upd v2]
   rw [packU, if_pos hu] at he
   exact ⟨⟨u / 128, f', v2, out' ++ [moreB u], hW2, rfl, by omega, h7, by omega, by rw [List.append_assoc]; exact he, by simp; omega⟩, by omega⟩
  ·have hp : packU f u = [u] := by
    cases f with
    | zero => rfl
    | succ f' => rw [packU, if_neg hu]; rfl
   rw [hp] at he
   simp [F_wnum, MC.l, MC.r, MC.bb, z4, hu]
   exact fin _ s v' out' u hW he u0 (by omega) (by omega) (by simp [z0]) (by simp [z4]) (by simp [hdf])
 rw [e1]
 generalize F_wnum.code.r.r.l = c2 at loop ⊢
 by_cases hx : x < 0
 ·have hu : IntKind.u64.wrap (IntKind.i64.wrap (IntKind.i64.wrap (-2 * x) - 1)) = unB x := by unfold unB; rw [if_pos hx, wrap64_eq, wrap64_eq]
  simp only [F_wnum, MC.l, MC.r]
  simp [hx]
  exact loop _ (by simp [hu]) (by simp) (by simp)
 ·have hu : IntKind.u64.wrap (IntKind.i64.wrap (2 * x)) = unB x := by unfold unB; rw [if_neg hx, wrap64_eq]
  simp only [F_wnum, MC.l, MC.r]
  simp [hx]
  exact loop _ (by simp [hu]) (by simp) (by simp)
theorem pnum_v {n wb : Nat} {v : V} {out : List Int} {x : Int} (hw : st[wb]? = some (pkB v)) (hO : OutS n 5 1 st v (bys out)) (hn : n ≤ st.length) (hM : M wb = true) (hMo : ∀ b ∈ ownL v, M b = true) (hlen : out.length ≤ 900000) (hK : ∀ v' s', WS pkB n st v wb s' v' (out ++ packU 10 (unB x)) → K (.tup []) s') : CallV Tryz.prog T M 48 [.ptr wb 1 0 0, I x] st K Kp := by
 refine fun_ok hmix c_pnum (le_of rfl) ?_
 have e1 : F_pnum.code = .seq F_pnum.code.l (.seq F_pnum.code.r.l (.seq F_pnum.code.r.r.l F_pnum.code.r.r.r)) := rfl
 have fin : ∀ (fr : Fr) (s : St) (v' : V) (out' : List Int) (u : Int), WS pkB n st v wb s v' out' → out' ++ [u] = out ++ packU 10 (unB x) → 0 ≤ u → u < 128 → out'.length ≤ 900010 → fr.g 0 = .ptr wb 1 0 0 → fr.g 4 = .val (.int .u64 u) → fr.df = [] → wpM Tryz.prog T (liftM (upM st.length M)) F_pnum.code.r.r.r (Fin F_pnum.res K Kp) fr s := fun fr s v' out' u hW he u0 u1 hl z0 z4 hdf => by
  have hc := hW.cell
  simp only [pkB] at hc
  have hu8 : IntKind.u8.wrap u = u := by simp [IntKind.wrap, IntKind.signed, IntKind.bits]; omega
  simp [F_pnum, MC.r, z0, z4, hc, hu8]
  refine hW.app pkB_row hn hMo (by omega) fun v2 s3 h3 hv hlf hW2 => ?_
  simp only [pkB] at h3
  simp [h3, hv, hlf, upM_of hM, hdf, upd]
  exact hK v2 _ (by rw [← he]; exact hW2)
 generalize F_pnum.code.r.r.r = c3 at fin e1
 have loop : ∀ (fr : Fr), fr.g 4 = .val (.int .u64 (unB x)) → fr.g 0 = .ptr wb 1 0 0 → fr.df = [] → wpM Tryz.prog T (liftM (upM st.length M)) (.seq F_pnum.code.r.r.l c3) (Fin F_pnum.res K Kp) fr st := fun fr z4 z0 hdf => by
  have e2 : F_pnum.code.r.r.l = .block 0 (.loop F_pnum.code.r.r.l.bb.bb) := rfl
  rw [e2]
  simp
  refine wp_mloop (fun fr s => ∃ (u : Int) (f : Nat) (v' : V) (out' : List Int), WS pkB n st v wb s v' out' ∧ fr.g 4 = .val (.int .u64 u) ∧ 0 ≤ u ∧ u < 128 ^ (f + 1) ∧ f ≤ 10 ∧ out' ++ packU f u = out ++ packU 10 (unB x) ∧ out'.length + f ≤ 900010 ∧ fr.g 0 = .ptr wb 1 0 0 ∧ fr.df = []) (fun fr _ => nat (fr.g 4)) ⟨unB x, 10, v, out, ⟨Nat.le_refl _, hw, hO, fun _ _ _ _ => rfl, fun b hb => Or.inl hb⟩, z4, ?_, ?_, by omega, rfl, by omega, z0, hdf⟩ ?_
  ·exact (unB_rng x).1
  ·exact Int.lt_of_lt_of_le (unB_rng x).2 (by decide)
  clear z4 z0 hdf
  rintro fr s ⟨u, f, v', out', hW, z4, u0, u1, hf, he, hl, z0, hdf⟩
  have hc := hW.cell
  simp only [pkB] at hc
  by_cases hu : 128 ≤ u
  ·have hq : u.fdiv (2 ^ min 7 IntKind.u64.bits) = u / 128 := by
    rw [Int.fdiv_eq_ediv_of_nonneg u (by decide)]; rfl
   obtain ⟨f', rfl⟩ : ∃ f', f = f' + 1 := by
    cases f with
    | zero => exfalso; simp at u1; omega
    | succ f' => exact ⟨f', rfl⟩
   have h7 : u / 128 < 128 ^ (f' + 1) := by
    rw [Int.pow_succ] at u1
    omega
   simp [F_pnum, MC.l, MC.r, MC.bb, z0, z4, hc, hu, more_byte, hq]
   refine hW.app pkB_row hn hMo (by omega) fun v2 s3 h3 hv hlf hW2 => ?_
   simp only [pkB] at h3
   simp [h3, hv, hlf, upM_of hM, hdf, upd]
   rw [packU, if_pos hu] at he
   exact ⟨⟨u / 128, f', v2, out' ++ [moreB u], hW2, rfl, by omega, h7, by omega, by rw [List.append_assoc]; exact he, by simp; omega⟩, by omega⟩
  ·have hp : packU f u = [u] := by
    cases f with
    | zero => rfl
    | succ f' => rw [packU, if_neg hu]; rfl
   rw [hp] at he
   simp [F_pnum, MC.l, MC.r, MC.bb, z4, hu]
   exact fin _ s v' out' u hW he u0 (by omega) (by omega) (by simp [z0]) (by simp [z4]) (by simp [hdf])
 rw [e1]
 generalize F_pnum.code.r.r.l = c2 at loop ⊢
 by_cases hx : x < 0
 ·have hu : IntKind.u64.wrap (IntKind.i64.wrap (IntKind.i64.wrap (-2 * x) - 1)) = unB x := by unfold unB; rw [if_pos hx, wrap64_eq, wrap64_eq]
  simp only [F_pnum, MC.l, MC.r]
  simp [hx]
  exact loop _ (by simp [hu]) (by simp) (by simp)
 ·have hu : IntKind.u64.wrap (IntKind.i64.wrap (2 * x)) = unB x := by unfold unB; rw [if_neg hx, wrap64_eq]
  simp only [F_pnum, MC.l, MC.r]
  simp [hx]
  exact loop _ (by simp [hu]) (by simp) (by simp)
end
end Go.Proofs.YtkcdgaijklhnaaaGreatDoor.Vm
namespace Go.Proofs.YtkcdgaijklhnaaaGreatDoor.Vm
open Go.RowKit
theorem WS.trans {wr : V → Blk} {n wb : Nat} {st s s' : St} {v0 v v' : V} {out out' : List Int} (h : WS wr n st v0 wb s v out) (k : WS wr n s v wb s' v' out') : WS wr n st v0 wb s' v' out' :=
 ⟨Nat.le_trans h.len k.len, k.cell, k.row, fun b h1 h2 h3 => by
  rw [k.keep b (Nat.lt_of_lt_of_le h1 h.len) h2 (fun hb => by rcases h.own b hb with q | q; exact h3 q; omega)]
  exact h.keep b h1 h2 h3, fun b hb => by
  rcases k.own b hb with q | q
  ·exact h.own b q
  ·exact Or.inr (Nat.le_trans h.len q)⟩
theorem WS.ups {M : Nat → Bool} {wr : V → Blk} {n wb : Nat} {st s : St} {v0 v : V} {out : List Int} (h : WS wr n st v0 wb s v out) (hMo : ∀ b ∈ ownL v0, M b = true) : ∀ b ∈ ownL v, upM st.length M b = true := fun b hb => by
 rcases h.own b hb with q | q
 ·exact upM_of (hMo b q)
 ·simp [upM, q]
theorem packS_take {l : List Int} {j : Nat} {x : Int} (h : l[j]? = some x) : packS (l.take (j + 1)) = packS (l.take j) ++ packN x := by
 rw [List.take_add_one, h]; simp [packS]
section
variable {T : Tbl} {M : Nat → Bool} {st : St} {K : V → St → Prop} {Kp : List PanicEntry → St → Prop}
theorem wlist_v {n wb : Nat} {v : V} {out xs : List Int} {fl : Bool} (hw : st[wb]? = some (wrB v)) (hO : OutS n 5 1 st v (bys out)) (hn : n ≤ st.length) (hM : M wb = true) (hMo : ∀ b ∈ ownL v, M b = true) (hx : xs.length ≤ 60000) (hlen : out.length + 11 * (xs.length + 1) ≤ 900000) (hK : ∀ v' s', WS wrB n st v wb s' v' (out ++ packL xs) → K (.tup []) s') : CallV Tryz.prog T M 92 [.ptr wb 1 0 0, .lst fl (ints xs), .met 90 [.ptr wb 1 0 0]] st K Kp := by
 refine fun_ok hmix c_wlist (le_of rfl) ?_
 have hup : upM st.length M wb = true := upM_of hM
 simp [F_wlist]
 refine wnum_v hw hO hn hup (fun b hb => upM_of (hMo b hb)) (by omega) fun v1 s1 h1 => ?_
 refine wp_mloop (fun fr s => ∃ (k : Nat) (v' : V), k ≤ xs.length ∧ WS wrB n st v wb s v' (out ++ packN xs.length ++ packS (xs.take k)) ∧ fr.df = [] ∧ fr.g 2 = .met 90 [.ptr wb 1 0 0] ∧ fr.g 12 = .lst fl (ints xs) ∧ fr.g 13 = I xs.length ∧ fr.g 14 = I k) (fun fr _ => xs.length - nat (fr.g 14))
  ⟨0, v1, by omega, by simpa [packS, packN] using h1, by simp, by simp, by simp, by simp, by simp⟩ ?_
 rintro fr s ⟨k, v', hk, hW, hdf, z2, z12, z13, z14⟩
 by_cases hk2 : k < xs.length
 ·have hg : (ints xs)[k]'(by simpa [ints] using hk2) = I (xs[k]'hk2) := by simp [ints]
  have hx' : xs[k]? = some (xs[k]'hk2) := List.getElem?_eq_getElem hk2
  have hl1 := packS_len (xs.take k)
  have hl2 := packN_len xs.length
  have hw1 : IntKind.i64.wrap ((k : Int) + 1) = ((k + 1 : Nat) : Int) := by rw [w64 (n := (k : Int) + 1) (by omega) (by omega)]; push_cast; rfl
  simp [z12, z13, z14, z2, hk2, hg, hw1, -Int.natCast_add]
  refine ⟨_, _, ⟨rfl, rfl⟩, ?_⟩
  refine wnum_v hW.cell hW.row (Nat.le_trans hn hW.len) hup (hW.ups hMo) (by simp at hl1 ⊢; omega) fun v2 s2 h2 => ?_
  exact ⟨⟨k + 1, by omega, ⟨v2, by
   have := hW.trans h2
   rw [packS_take hx']
   simpa [packN] using this⟩, hdf, rfl⟩, by omega⟩
 ·obtain rfl : k = xs.length := by omega
  rw [List.take_length] at hW
  simp [z13, z14, hdf]
  exact hK v' s (by rw [packL, ← List.append_assoc]; exact hW)
theorem plist_v {n wb : Nat} {v : V} {out xs : List Int} {fl : Bool} (hw : st[wb]? = some (pkB v)) (hO : OutS n 5 1 st v (bys out)) (hn : n ≤ st.length) (hM : M wb = true) (hMo : ∀ b ∈ ownL v, M b = true) (hx : xs.length ≤ 60000) (hlen : out.length + 11 * (xs.length + 1) ≤ 900000) (hK : ∀ v' s', WS pkB n st v wb s' v' (out ++ packL xs) → K (.tup []) s') : CallV Tryz.prog T M 49 [.ptr wb 1 0 0, .lst fl (ints xs)] st K Kp := by
 refine fun_ok hmix c_plist (le_of rfl) ?_
 have hup : upM st.length M wb = true := upM_of hM
 simp [F_plist]
 refine pnum_v hw hO hn hup (fun b hb => upM_of (hMo b hb)) (by omega) fun v1 s1 h1 => ?_
 refine wp_mloop (fun fr s => ∃ (k : Nat) (v' : V), k ≤ xs.length ∧ WS pkB n st v wb s v' (out ++ packN xs.length ++ packS (xs.take k)) ∧ fr.df = [] ∧ fr.g 0 = .ptr wb 1 0 0 ∧ fr.g 10 = .lst fl (ints xs) ∧ fr.g 11 = I xs.length ∧ fr.g 12 = I k) (fun fr _ => xs.length - nat (fr.g 12))
  ⟨0, v1, by omega, by simpa [packS, packN] using h1, by simp, by simp, by simp, by simp, by simp⟩ ?_
 rintro fr s ⟨k, v', hk, hW, hdf, z0, z10, z11, z12⟩
 by_cases hk2 : k < xs.length
 ·have hg : (ints xs)[k]'(by simpa [ints] using hk2) = I (xs[k]'hk2) := by simp [ints]
  have hx' : xs[k]? = some (xs[k]'hk2) := List.getElem?_eq_getElem hk2
  have hl1 := packS_len (xs.take k)
  have hl2 := packN_len xs.length
  have hw1 : IntKind.i64.wrap ((k : Int) + 1) = ((k + 1 : Nat) : Int) := by rw [w64 (n := (k : Int) + 1) (by omega) (by omega)]; push_cast; rfl
  simp [z10, z11, z12, z0, hk2, hg, hw1, -Int.natCast_add]
  refine pnum_v hW.cell hW.row (Nat.le_trans hn hW.len) hup (hW.ups hMo) (by simp at hl1 ⊢; omega) fun v2 s2 h2 => ?_
  exact ⟨⟨k + 1, by omega, ⟨v2, by
   have := hW.trans h2
   rw [packS_take hx']
   simpa [packN] using this⟩, hdf, rfl⟩, by omega⟩
 ·obtain rfl : k = xs.length := by omega
  rw [List.take_length] at hW
  simp [z11, z12, hdf]
  exact hK v' s (by rw [packL, ← List.append_assoc]; exact hW)
end
end Go.Proofs.YtkcdgaijklhnaaaGreatDoor.Vm
namespace Go.Proofs.YtkcdgaijklhnaaaGreatDoor.Vm
open Go.RowKit
theorem WS.refl {wr : V → Blk} {n wb : Nat} {s : St} {v : V} {out : List Int} (hc : s[wb]? = some (wr v)) (ho : OutS n 5 1 s v (bys out)) : WS wr n s v wb s v out := ⟨Nat.le_refl _, hc, ho, fun _ _ _ _ => rfl, fun _ h => Or.inl h⟩
theorem WS.keepL {wr : V → Blk} {wb : Nat} {st st0 s : St} {v0 v : V} {out out0 : List Int} (h : WS wr st.length st0 v0 wb s v out) (hk : KeepL st st0) (hwb : st.length ≤ wb) (h0 : OutS st.length 5 1 st0 v0 (bys out0)) : KeepL st s :=
 ⟨Nat.le_trans hk.len h.len, fun b hb => by
  rw [h.keep b (Nat.lt_of_lt_of_le hb hk.len) (by omega) (fun q => by
   rcases h0 with ⟨-, rfl⟩ | ⟨c, q1, -, rfl⟩
   ·cases q
   ·simp [ownL] at q; omega)]
  exact hk.get b hb⟩
theorem OutS.nb {n t k : Nat} {s : St} {v : V} {l : List V} (h : OutS n t k s v l) {b t' k' : Nat} {l' : List V} (hb : s[b]? = some (.row t' k' l')) (ht : t' ≠ t) : b ∉ ownL v := fun q => by
 rcases h with ⟨-, rfl⟩ | ⟨c, -, q2, rfl⟩
 ·cases q
 ·simp [ownL] at q
  subst q
  rw [hb] at q2
  injection q2 with q2
  injection q2 with q2
  exact ht q2
theorem WS.kept {wr : V → Blk} {n wb : Nat} {s s' : St} {v v' : V} {out out' : List Int} (h : WS wr n s v wb s' v' out') (ho : OutS n 5 1 s v (bys out)) {b t' k' : Nat} {l' : List V} (hb : s[b]? = some (.row t' k' l')) (ht : t' ≠ 5) (hw : b ≠ wb) : s'[b]? = some (.row t' k' l') :=
 (h.keep b (List.getElem?_eq_some_iff.1 hb).1 hw (ho.nb hb ht)).trans hb
theorem OutS.ups {n t k : Nat} {s st : St} {M : Nat → Bool} {v : V} {l : List V} (h : OutS n t k s v l) (hn : st.length ≤ n) : ∀ b ∈ ownL v, upM st.length M b = true := fun b q => by
 rcases h with ⟨-, rfl⟩ | ⟨c, q1, -, rfl⟩
 ·cases q
 ·simp [ownL] at q
  subst q
  simp [upM]; omega
def scs (m : LModel) : List Int := [m.kind, m.vocab, m.width, m.top]
def mB (fl : Nat → Bool) (m : LModel) : Blk := .row 27 11 [encM fl m]
theorem mB_row (fl : Nat → Bool) (m : LModel) : mB fl m = .row 27 11 [.agg [I m.kind, I m.vocab, I m.width, I m.top, .lst (fl 0) (ints (mls m 0)), .lst (fl 1) (ints (mls m 1)), .lst (fl 2) (ints (mls m 2)), .lst (fl 3) (ints (mls m 3)), .lst (fl 4) (ints (mls m 4)), .lst (fl 5) (ints (mls m 5)), .lst (fl 6) (ints (mls m 6))]] := rfl
theorem mls_at (m : LModel) {i : Nat} (h : i < 7) : (listsM m)[i]? = some (mls m i) := by
 have : i = 0 ∨ i = 1 ∨ i = 2 ∨ i = 3 ∨ i = 4 ∨ i = 5 ∨ i = 6 := by omega
 rcases this with rfl | rfl | rfl | rfl | rfl | rfl | rfl <;> rfl
section
variable {T : Tbl} {M : Nat → Bool} {st : St} {K : V → St → Prop} {Kp : List PanicEntry → St → Prop}
def ll (fl : Nat → Bool) (m : LModel) : List V := [.lst (fl 0) (ints (mls m 0)), .lst (fl 1) (ints (mls m 1)), .lst (fl 2) (ints (mls m 2)), .lst (fl 3) (ints (mls m 3)), .lst (fl 4) (ints (mls m 4)), .lst (fl 5) (ints (mls m 5)), .lst (fl 6) (ints (mls m 6))]
set_option maxHeartbeats 1000000 in
theorem bytesOf_v {fl : Nat → Bool} {m : LModel} (hl : ∀ x ∈ listsM m, x.length ≤ 2000) (hK : ∀ g, K (.lst g (bys (mbytes m))) st) : CallV Tryz.prog T M 47 [encM fl m] st K Kp := by
 refine CallV.give (fun_ok hmix c_bytesOf (le_of rfl) ?_)
 have e1 : F_bytesOf.code = .seq F_bytesOf.code.l (.seq F_bytesOf.code.r.l (.seq F_bytesOf.code.r.r.l (.seq F_bytesOf.code.r.r.r.l F_bytesOf.code.r.r.r.r))) := rfl
 have e2 : F_bytesOf.code.r.r.r.l = .seq F_bytesOf.code.r.r.r.l.l F_bytesOf.code.r.r.r.l.r := rfl
 rw [e1, e2]
 generalize hcL : F_bytesOf.code.r.r.r.l.r = cL
 generalize hcE : F_bytesOf.code.r.r.r.r = cE
 have eL : cL = .block 2 (.loop F_bytesOf.code.r.r.r.l.r.bb.bb) := by rw [← hcL]; rfl
 have hl4 : (ints (scs m)).length = 4 := rfl
 simp [F_bytesOf, encM, MC.l, MC.r]
 have hB : [Blk.row 27 11 [V.agg [I m.kind, I m.vocab, I m.width, I m.top, .lst (fl 0) (ints m.cuts), .lst (fl 1) (ints m.embed), .lst (fl 2) (ints m.place), .lst (fl 3) (ints m.mix), .lst (fl 4) (ints m.out), .lst (fl 5) (ints m.soft), .lst (fl 6) (ints m.odds)]], Blk.row 122 1 [.lst true []], Blk.row 3 1 [I m.kind, I m.vocab, I m.width, I m.top]] = [mB fl m, wrB (.lst true []), .row 3 1 (ints (scs m))] := rfl
 rw [hB]
 refine wp_mloop (fun fr s => ∃ (k : Nat) (v : V), k ≤ 4 ∧ KeepL st s ∧ s[st.length]? = some (mB fl m) ∧ s[st.length + 1]? = some (wrB v) ∧ OutS st.length 5 1 s v (bys (packS ((scs m).take k))) ∧ s[st.length + 2]? = some (.row 3 1 (ints (scs m))) ∧ fr.df = [] ∧ fr.g 1 = .ptr st.length 1 0 0 ∧ fr.g 3 = .ptr (st.length + 1) 1 0 0 ∧ fr.g 16 = .own (st.length + 2) 4 0 4 ∧ fr.g 17 = I 4 ∧ fr.g 18 = I k) (fun fr _ => 4 - nat (fr.g 18))
  ⟨0, .lst true [], by omega, (KeepL.refl st).more _, by simp, by simp, by simpa [packS, bys] using OutS.nil _ _ _ _, by simp, by simp, by simp, by simp, by simp, by simp, by simp⟩ ?_
 rintro fr s ⟨k, v, hk, hS, hm, hc, hO, hr4, hdf, z1, z3, z16, z17, z18⟩
 by_cases hk2 : k < 4
 ·have hx' : (scs m)[k]? = some ((scs m)[k]'hk2) := List.getElem?_eq_getElem hk2
  have hg : (ints (scs m))[k]'(by simpa [hl4] using hk2) = I ((scs m)[k]'hk2) := by simp [ints]; rfl
  have hw1 : IntKind.i64.wrap ((k : Int) + 1) = ((k + 1 : Nat) : Int) := by rw [w64 (n := (k : Int) + 1) (by omega) (by omega)]; push_cast; rfl
  have hl1 := packS_len ((scs m).take k)
  have hl2 : ((scs m).take k).length ≤ 4 := by simp [scs]; omega
  simp [z16, z17, z18, z3, hk2, hr4, hl4, hg, hw1, show (k : Int) < 4 by omega, -Int.natCast_add]
  refine wnum_v hc hO hS.len (by simp [upM]) (hO.ups (Nat.le_refl _)) (by omega) fun v2 s2 h2 => ?_
  rw [mB_row] at hm
  exact ⟨⟨k + 1, by omega, h2.keepL hS (by omega) hO, h2.kept hO hm (by decide) (by omega), v2, h2.cell, by
   rw [packS_take hx']; exact h2.row, h2.kept hO hr4 (by decide) (by omega), hdf, z1, rfl⟩, by omega⟩
 ·obtain rfl : k = 4 := by omega
  have h44 : (scs m).take 4 = scs m := rfl
  rw [h44] at hO
  simp [z17, z18]
  rw [z1]
  refine mlists_v (p := fun j => .lst (fl j) (ints (mls m j))) hm ?_
  obtain ⟨q, hq⟩ : ∃ q, s.length = q := ⟨_, rfl⟩
  have hq1 : st.length ≤ q := by have := hS.len; omega
  have hq2 : q ≠ st.length + 1 := fun e => by rw [← e, ← hq] at hc; simp at hc
  rw [hq]
  have hP : (s ++ [Blk.row 116 1 (ptrs st.length)])[q]? = some (.row 116 1 (ptrs st.length)) := by rw [← hq]; simp
  have hS2 := hS.more [Blk.row 116 1 (ptrs st.length)]
  have hm2 := get_more hm [Blk.row 116 1 (ptrs st.length)]
  have hc2 := get_more hc [Blk.row 116 1 (ptrs st.length)]
  have hO2 := hO.more [Blk.row 116 1 (ptrs st.length)]
  have hP7 : (ptrs st.length).length = 7 := rfl
  generalize s ++ [Blk.row 116 1 (ptrs st.length)] = s2 at *
  simp [hP, hP7]
  rw [eL]
  refine wp_mloop (fun fr s => ∃ (k : Nat) (v : V), k ≤ 7 ∧ KeepL st s ∧ s[st.length]? = some (mB fl m) ∧ s[st.length + 1]? = some (wrB v) ∧ OutS st.length 5 1 s v (bys (packS (scs m) ++ packLs ((listsM m).take k))) ∧ s[q]? = some (.row 116 1 (ptrs st.length)) ∧ fr.df = [] ∧ fr.g 3 = .ptr (st.length + 1) 1 0 0 ∧ fr.g 25 = .own q 7 0 7 ∧ fr.g 26 = I 7 ∧ fr.g 27 = I k) (fun fr _ => 7 - nat (fr.g 27))
   ⟨0, v, by omega, hS2, hm2, hc2, by simpa [packLs] using hO2, hP, by simp [hdf], by simp [z3], by simp, by simp, by simp⟩ ?_
  clear hS hm hc hO hr4 hdf z1 z3 z16 z17 z18 hP hS2 hm2 hc2 hO2 hq
  rintro fr s ⟨k, v, hk, hS, hm, hc, hO, hP, hdf, z3, z25, z26, z27⟩
  by_cases hk2 : k < 7
  ·have hx' := mls_at m hk2
   have hlm := hl (mls m k) (List.mem_of_getElem? hx')
   have hm' := hm
   rw [mB_row] at hm'
   have h7 : k = 0 ∨ k = 1 ∨ k = 2 ∨ k = 3 ∨ k = 4 ∨ k = 5 ∨ k = 6 := by omega
   have hPe0 : (ptrs st.length)[k]? = some (.ptr st.length 1 0 (4 + k)) := by
    rcases h7 with rfl | rfl | rfl | rfl | rfl | rfl | rfl <;> rfl
   have hPe := (List.getElem?_eq_some_iff.1 hPe0).2
   have hlv : live s (.ptr st.length 1 0 (4 + k)) = true := by
    simp [hm']
   have hld : mLoad (fun _ _ => true) false 1 s (.ptr st.length 1 0 (4 + k)) = some (.lst (fl k) (ints (mls m k))) := by
    rcases h7 with rfl | rfl | rfl | rfl | rfl | rfl | rfl <;> simp [mLoad, hm']
   have hw1 : IntKind.i64.wrap ((k : Int) + 1) = ((k + 1 : Nat) : Int) := by rw [w64 (n := (k : Int) + 1) (by omega) (by omega)]; push_cast; rfl
   have hl1 := packS_len (scs m)
   have hl2 : (scs m).length = 4 := rfl
   have hl3 := packLs_len ((listsM m).take k) (fun x hx => hl x (List.mem_of_mem_take hx))
   have hl5 : ((listsM m).take k).length ≤ 7 := by simp [listsM]; omega
   simp [F_bytesOf, MC.l, MC.r, MC.bb, z3, z25, z26, z27, hk2, hP, hP7, hPe, hlv, hld, hw1, show (k : Int) < 7 by omega, -Int.natCast_add]
   refine wlist_v (xs := mls m k) hc hO hS.len (by simp [upM]) (hO.ups (Nat.le_refl _)) (by omega) (by simp; omega) fun v2 s2 h2 => ?_
   exact ⟨⟨k + 1, by omega, h2.keepL hS (by omega) hO, h2.kept hO hm' (by decide) (by omega), v2, h2.cell, by
    rw [packLs_take hx', ← List.append_assoc]; exact h2.row, h2.kept hO hP (by decide) hq2, hdf, rfl⟩, by omega⟩
  ·obtain rfl : k = 7 := by omega
   have h77 : (listsM m).take 7 = listsM m := rfl
   rw [h77] at hO
   have hc' := hc
   simp only [wrB] at hc'
   simp [F_bytesOf, MC.l, MC.r, MC.bb, z26, z27]
   rw [← hcE]
   simp [F_bytesOf, MC.r, z3, hc', hdf, hO.one.1]
   obtain ⟨gg, hfr⟩ := hO.frz (bys_cells _)
   exact ⟨_, hfr, hS.low, by rw [hS.take]; exact hK gg⟩
set_option maxHeartbeats 1000000 in
theorem rBytes_v {fl : Nat → Bool} {m : LModel} (hl : ∀ x ∈ listsM m, x.length ≤ 2000) (hK : ∀ g, K (.lst g (bys (mbytes m))) st) : CallV Tryz.prog T M 10 [encM fl m] st K Kp := by
 refine CallV.give (fun_ok hmix c_rBytes (le_of rfl) ?_)
 have e1 : F_rBytes.code = .seq F_rBytes.code.l (.seq F_rBytes.code.r.l (.seq F_rBytes.code.r.r.l (.seq F_rBytes.code.r.r.r.l F_rBytes.code.r.r.r.r))) := rfl
 have e2 : F_rBytes.code.r.r.r.l = .seq F_rBytes.code.r.r.r.l.l F_rBytes.code.r.r.r.l.r := rfl
 rw [e1, e2]
 generalize hcL : F_rBytes.code.r.r.r.l.r = cL
 generalize hcE : F_rBytes.code.r.r.r.r = cE
 have eL : cL = .block 2 (.loop F_rBytes.code.r.r.r.l.r.bb.bb) := by rw [← hcL]; rfl
 have hl4 : (ints (scs m)).length = 4 := rfl
 simp [F_rBytes, encM, MC.l, MC.r]
 have hB : [Blk.row 27 11 [V.agg [I m.kind, I m.vocab, I m.width, I m.top, .lst (fl 0) (ints m.cuts), .lst (fl 1) (ints m.embed), .lst (fl 2) (ints m.place), .lst (fl 3) (ints m.mix), .lst (fl 4) (ints m.out), .lst (fl 5) (ints m.soft), .lst (fl 6) (ints m.odds)]], Blk.row 77 1 [V.agg [.lst true []]], Blk.row 3 1 [I m.kind, I m.vocab, I m.width, I m.top]] = [mB fl m, pkB (.lst true []), .row 3 1 (ints (scs m))] := rfl
 rw [hB]
 refine wp_mloop (fun fr s => ∃ (k : Nat) (v : V), k ≤ 4 ∧ KeepL st s ∧ s[st.length]? = some (mB fl m) ∧ s[st.length + 1]? = some (pkB v) ∧ OutS st.length 5 1 s v (bys (packS ((scs m).take k))) ∧ s[st.length + 2]? = some (.row 3 1 (ints (scs m))) ∧ fr.df = [] ∧ fr.g 1 = .ptr st.length 1 0 0 ∧ fr.g 3 = .ptr (st.length + 1) 1 0 0 ∧ fr.g 18 = .own (st.length + 2) 4 0 4 ∧ fr.g 19 = I 4 ∧ fr.g 20 = I k) (fun fr _ => 4 - nat (fr.g 20))
  ⟨0, .lst true [], by omega, (KeepL.refl st).more _, by simp, by simp, by simpa [packS, bys] using OutS.nil _ _ _ _, by simp, by simp, by simp, by simp, by simp, by simp, by simp⟩ ?_
 rintro fr s ⟨k, v, hk, hS, hm, hc, hO, hr4, hdf, z1, z3, z18, z19, z20⟩
 by_cases hk2 : k < 4
 ·have hx' : (scs m)[k]? = some ((scs m)[k]'hk2) := List.getElem?_eq_getElem hk2
  have hg : (ints (scs m))[k]'(by simpa [hl4] using hk2) = I ((scs m)[k]'hk2) := by simp [ints]; rfl
  have hw1 : IntKind.i64.wrap ((k : Int) + 1) = ((k + 1 : Nat) : Int) := by rw [w64 (n := (k : Int) + 1) (by omega) (by omega)]; push_cast; rfl
  have hl1 := packS_len ((scs m).take k)
  have hl2 : ((scs m).take k).length ≤ 4 := by simp [scs]; omega
  simp [z18, z19, z20, z3, hk2, hr4, hl4, hg, hw1, show (k : Int) < 4 by omega, -Int.natCast_add]
  refine pnum_v hc hO hS.len (by simp [upM]) (hO.ups (Nat.le_refl _)) (by omega) fun v2 s2 h2 => ?_
  rw [mB_row] at hm
  exact ⟨⟨k + 1, by omega, h2.keepL hS (by omega) hO, h2.kept hO hm (by decide) (by omega), v2, h2.cell, by
   rw [packS_take hx']; exact h2.row, h2.kept hO hr4 (by decide) (by omega), hdf, z1, rfl⟩, by omega⟩
 ·obtain rfl : k = 4 := by omega
  have h44 : (scs m).take 4 = scs m := rfl
  rw [h44] at hO
  have hm' := hm
  rw [mB_row] at hm'
  simp [z19, z20, z1, hm']
  obtain ⟨q, hq⟩ : ∃ q, s.length = q := ⟨_, rfl⟩
  have hq1 : st.length ≤ q := by have := hS.len; omega
  have hq2 : q ≠ st.length + 1 := fun e => by rw [← e, ← hq] at hc; simp at hc
  rw [hq]
  have hB2 : Blk.row 22 1 [V.lst (fl 0) (ints (mls m 0)), .lst (fl 1) (ints (mls m 1)), .lst (fl 2) (ints (mls m 2)), .lst (fl 3) (ints (mls m 3)), .lst (fl 4) (ints (mls m 4)), .lst (fl 5) (ints (mls m 5)), .lst (fl 6) (ints (mls m 6))] = .row 22 1 (ll fl m) := rfl
  rw [hB2]
  have hP : (s ++ [Blk.row 22 1 (ll fl m)])[q]? = some (.row 22 1 (ll fl m)) := by rw [← hq]; simp
  have hS2 := hS.more [Blk.row 22 1 (ll fl m)]
  have hm2 := get_more hm [Blk.row 22 1 (ll fl m)]
  have hc2 := get_more hc [Blk.row 22 1 (ll fl m)]
  have hO2 := hO.more [Blk.row 22 1 (ll fl m)]
  have hP7 : (ll fl m).length = 7 := rfl
  generalize s ++ [Blk.row 22 1 (ll fl m)] = s2 at *
  rw [eL]
  simp
  refine wp_mloop (fun fr s => ∃ (k : Nat) (v : V), k ≤ 7 ∧ KeepL st s ∧ s[st.length]? = some (mB fl m) ∧ s[st.length + 1]? = some (pkB v) ∧ OutS st.length 5 1 s v (bys (packS (scs m) ++ packLs ((listsM m).take k))) ∧ s[q]? = some (.row 22 1 (ll fl m)) ∧ fr.df = [] ∧ fr.g 3 = .ptr (st.length + 1) 1 0 0 ∧ fr.g 42 = .own q 7 0 7 ∧ fr.g 43 = I 7 ∧ fr.g 44 = I k) (fun fr _ => 7 - nat (fr.g 44))
   ⟨0, v, by omega, hS2, hm2, hc2, by simpa [packLs] using hO2, hP, by simp [hdf], by simp [z3], by simp, by simp, by simp⟩ ?_
  clear hS hm hm' hc hO hr4 hdf z1 z3 z18 z19 z20 hP hS2 hm2 hc2 hO2 hq
  rintro fr s ⟨k, v, hk, hS, hm, hc, hO, hP, hdf, z3, z42, z43, z44⟩
  by_cases hk2 : k < 7
  ·have hx' := mls_at m hk2
   have hlm := hl (mls m k) (List.mem_of_getElem? hx')
   have hm' := hm
   rw [mB_row] at hm'
   have h7 : k = 0 ∨ k = 1 ∨ k = 2 ∨ k = 3 ∨ k = 4 ∨ k = 5 ∨ k = 6 := by omega
   have hPe0 : (ll fl m)[k]? = some (.lst (fl k) (ints (mls m k))) := by
    rcases h7 with rfl | rfl | rfl | rfl | rfl | rfl | rfl <;> rfl
   have hPe := (List.getElem?_eq_some_iff.1 hPe0).2
   have hw1 : IntKind.i64.wrap ((k : Int) + 1) = ((k + 1 : Nat) : Int) := by rw [w64 (n := (k : Int) + 1) (by omega) (by omega)]; push_cast; rfl
   have hl1 := packS_len (scs m)
   have hl2 : (scs m).length = 4 := rfl
   have hl3 := packLs_len ((listsM m).take k) (fun x hx => hl x (List.mem_of_mem_take hx))
   have hl5 : ((listsM m).take k).length ≤ 7 := by simp [listsM]; omega
   simp [F_rBytes, MC.l, MC.r, MC.bb, z3, z42, z43, z44, hk2, hP, hP7, hPe, hw1, show (k : Int) < 7 by omega, -Int.natCast_add]
   refine plist_v (xs := mls m k) hc hO hS.len (by simp [upM]) (hO.ups (Nat.le_refl _)) (by omega) (by simp; omega) fun v2 s2 h2 => ?_
   exact ⟨⟨k + 1, by omega, h2.keepL hS (by omega) hO, h2.kept hO hm' (by decide) (by omega), v2, h2.cell, by
    rw [packLs_take hx', ← List.append_assoc]; exact h2.row, h2.kept hO hP (by decide) hq2, hdf, rfl⟩, by omega⟩
  ·obtain rfl : k = 7 := by omega
   have h77 : (listsM m).take 7 = listsM m := rfl
   rw [h77] at hO
   have hc' := hc
   simp only [pkB] at hc'
   simp [F_rBytes, MC.l, MC.r, MC.bb, z43, z44]
   rw [← hcE]
   simp [F_rBytes, MC.r, z3, hc', hdf]
   obtain ⟨gg, hfr⟩ := hO.frz (bys_cells _)
   exact ⟨_, hfr, hS.low, by rw [hS.take]; exact hK gg⟩
end
end Go.Proofs.YtkcdgaijklhnaaaGreatDoor.Vm
namespace Go.Proofs.YtkcdgaijklhnaaaGreatDoor.Vm
open Go.RowKit
structure EsL (vs : List V) (es : List (List Int)) : Prop where
 len : vs.length = es.length
 get : ∀ (i : Nat) (e : List Int), es[i]? = some e → ∃ g, vs[i]? = some (V.lst g (ints e))
 low : es.length ≤ 1000 ∧ ∀ e ∈ es, e.length ≤ 1000
end Go.Proofs.YtkcdgaijklhnaaaGreatDoor.Vm
namespace Go.Proofs.YtkcdgaijklhnaaaGreatDoor.Vm
open Go.RowKit
theorem But.trans {sb : Nat} {s s1 s2 : St} (h : But sb s s1) (k : But sb s1 s2) : But sb s s2 := ⟨k.1.trans h.1, fun b hb => (k.2 b hb).trans (h.2 b hb)⟩
end Go.Proofs.YtkcdgaijklhnaaaGreatDoor.Vm
namespace Go.Proofs.YtkcdgaijklhnaaaGreatDoor.Vm
open Go.RowKit
theorem EsL.take {vs : List V} {es : List (List Int)} (h : EsL vs es) (r : Nat) : EsL (vs.take r) (es.take r) := by
 refine ⟨by simp [h.len], fun i e he => ?_, by simp; have := h.low.1; omega, fun e he => h.low.2 e (List.mem_of_mem_take he)⟩
 have hi : i < r := by
  have := (List.getElem?_eq_some_iff.1 he).1
  simp at this
  omega
 rw [List.getElem?_take_of_lt hi] at he ⊢
 exact h.get i e he
theorem EsL.set {vs : List V} {es : List (List Int)} (h : EsL vs es) (k : Nat) (g : Bool) (e : List Int) (he : e.length ≤ 1000) : EsL (vs.set k (.lst g (ints e))) (es.set k e) := by
 refine ⟨by simp [h.len], fun i e' hi => ?_, by simp; exact h.low.1, fun x hx => ?_⟩
 ·by_cases hik : k = i
  ·subst hik
   have hlt : k < es.length := by have := (List.getElem?_eq_some_iff.1 hi).1; simpa using this
   rw [List.getElem?_set_self hlt] at hi
   rw [List.getElem?_set_self (by rw [h.len]; exact hlt)]
   cases hi
   exact ⟨g, rfl⟩
  ·rw [List.getElem?_set_ne hik] at hi ⊢
   exact h.get i e' hi
 ·rcases List.mem_or_eq_of_mem_set hx with h1 | rfl
  ·exact h.low.2 x h1
  ·exact he
theorem EsL.el {vs : List V} {es : List (List Int)} (h : EsL vs es) {i : Nat} {x : V} (hx : vs[i]? = some x) : x.cells = [x] ∧ x.leaf = true ∧ x.pl = true := by
 have hi : i < es.length := by rw [← h.len]; exact (List.getElem?_eq_some_iff.1 hx).1
 obtain ⟨g, hg⟩ := h.get i _ (List.getElem?_eq_getElem hi)
 rw [hx] at hg
 cases hg
 exact ⟨rfl, rfl, rfl⟩
def ownN : V → Nat
 | .own _ L _ _ => L
 | _ => 0
@[simp] theorem ownN_own (b L i n : Nat) : ownN (.own b L i n) = L := nr rfl
end Go.Proofs.YtkcdgaijklhnaaaGreatDoor.Vm
namespace Go.Proofs.YtkcdgaijklhnaaaGreatDoor.Vm
open Go.RowKit
def OutW (n N : Nat) (s : St) (v : V) (l : List Int) : Prop := (l = [] ∧ v = .lst true []) ∨ ∃ b r, n ≤ b ∧ s[b]? = some (.row 5 1 (bys (l ++ r))) ∧ v = .own b (l ++ r).length 0 l.length ∧ (l ++ r).length ≤ N
theorem OutW.frz {n N : Nat} {s : St} {v : V} {l : List Int} (h : OutW n N s v l) : ∃ g, Frz n s v (.lst g (bys l)) := by
 rcases h with ⟨rfl, rfl⟩ | ⟨b, r, h1, h2, rfl, -⟩
 ·exact ⟨true, .same _ rfl⟩
 ·refine ⟨false, ?_⟩
  have := Frz.row (n := n) b (l ++ r).length 0 l.length _ _ (bys (l ++ r)) h1 h2 (by simp) (bys_cells _)
  rw [List.drop_zero, bys_append, List.take_append_of_le_length (by simp), List.take_of_length_le (by simp)] at this
  exact this
theorem OutW.but {n N sb : Nat} {s s' : St} {v : V} {l : List Int} (h : OutW n N s v l) (hb : But sb s s') (hn : sb < n) : OutW n N s' v l := by
 rcases h with h | ⟨b, r, h1, h2, h3⟩
 ·exact Or.inl h
 ·exact Or.inr ⟨b, r, h1, get_but h2 hb (by omega), h3⟩
theorem OutW.ofS {n N : Nat} {s : St} {v : V} {l : List Int} (h : OutS n 5 1 s v (bys l)) (hN : l.length ≤ N) : OutW n N s v l := by
 rcases h with ⟨h1, h2⟩ | ⟨b, h1, h2, h3⟩
 ·exact Or.inl ⟨by simpa [bys] using h1, h2⟩
 ·exact Or.inr ⟨b, [], h1, by simpa using h2, by simpa using h3, by simpa using hN⟩
theorem OutW.app {n N b i : Nat} {s : St} {M : Nat → Nat → Bool} {l r m : List Int} {x : V} {k2 : V → St → Prop} (hb : n ≤ b) (hs : s[b]? = some (.row 5 1 (bys (l ++ r)))) (hi : i ≤ l.length) (hx : rdl s x = some (bys m)) (hM : ∀ j, M b j = true) (hlen : (l ++ r).length + m.length ≤ 10000000) (hN : (l ++ r).length ≤ N ∧ i + m.length ≤ N)
  (hK : ∀ v' x', OutW n N (s.set b x') v' (l.take i ++ m) → k2 v' (s.set b x')) : obind2 (mApp M 5 1 1 s (.own b (l ++ r).length 0 i) x) k2 := by
 have hL : (bys (l ++ r)).length = (l ++ r).length := by simp
 have hone : ∀ y ∈ bys m, y.cells.length = 1 := bys_one m
 have hml : (bys m).length = m.length := by simp
 have hlr : (l ++ r).length = l.length + r.length := by simp
 by_cases h : i = (l ++ r).length
 ·have hr : r = [] := List.eq_nil_of_length_eq_zero (by omega)
  subst hr
  have hi2 : i = l.length := by simpa using h
  have : mApp M 5 1 1 s (.own b (l ++ []).length 0 i) x = some (.own b ((l ++ []).length + m.length) 0 ((l ++ []).length + m.length), s.set b (.row 5 1 (bys (l ++ []) ++ bys m))) := by
   unfold mApp
   rw [hx]
   simp only [Option.bind_some]
   rw [if_pos hone, hs]
   simp only []
   rw [if_pos ⟨hL, rfl, h, hM, rfl, rfl, by rw [hml]; omega, by rw [hml]; omega⟩, hml]
  refine ⟨_, _, this, hK _ _ (Or.inr ⟨b, [], hb, ?_, ?_, by simp; omega⟩)⟩
  ·rw [get_set hs, hi2, List.take_length]; simp [bys_append]
  ·rw [hi2, List.take_length]; simp
 ·have hlt : i < (l ++ r).length := by omega
  have : mApp M 5 1 1 s (.own b (l ++ r).length 0 i) x = some (.own b (max (l ++ r).length (i + m.length)) 0 (i + m.length), s.set b (.row 5 1 ((bys (l ++ r)).take i ++ bys m ++ (bys (l ++ r)).drop (i + m.length)))) := by
   unfold mApp
   rw [hx]
   simp only [Option.bind_some]
   rw [if_pos hone, hs]
   simp only []
   rw [if_neg (fun hh => h hh.2.2.1), if_pos ⟨hL, rfl, hlt, hM, rfl, rfl, by rw [hml]; omega, by rw [hml]; omega⟩, hml]
  refine ⟨_, _, this, hK _ _ (Or.inr ⟨b, (l ++ r).drop (i + m.length), hb, ?_, ?_, by simp; omega⟩)⟩
  ·have ht : (bys (l ++ r)).take i = bys (l.take i) := by rw [bys_append, List.take_append_of_le_length (by simpa using hi)]; simp [bys]
   have hd : (bys (l ++ r)).drop (i + m.length) = bys ((l ++ r).drop (i + m.length)) := by simp [bys]
   rw [get_set hs, ht, hd, bys_append, bys_append]
  ·have e1 : (l.take i ++ m ++ (l ++ r).drop (i + m.length)).length = max (l ++ r).length (i + m.length) := by simp; omega
   have e2 : (l.take i ++ m).length = i + m.length := by simp; omega
   rw [e1, e2]
theorem OutW.len {n N : Nat} {s : St} {v : V} {l : List Int} (h : OutW n N s v l) : lenV s v = some (I l.length) := by
 rcases h with ⟨rfl, rfl⟩ | ⟨b, r, h1, h2, rfl, -⟩
 ·rfl
 ·simp [lenV, h2]
theorem OutW.more {n N : Nat} {s : St} {v : V} {l : List Int} (h : OutW n N s v l) (e : St) : OutW n N (s ++ e) v l := by
 rcases h with h | ⟨b, r, h1, h2, h3⟩
 ·exact Or.inl h
 ·exact Or.inr ⟨b, r, h1, get_more h2 e, h3⟩
theorem bys_win (l r : List Int) (j : Nat) (hj : j ≤ l.length) : ((bys (l ++ r)).drop j).take (l.length - j) = bys (l.drop j) := by
 rw [bys_append, List.drop_append_of_le_length (by simpa using hj)]
 simp [bys]
theorem u8_rng (x : Int) : 0 ≤ IntKind.u8.wrap x ∧ IntKind.u8.wrap x ≤ 255 := by
 simp [IntKind.wrap, IntKind.signed, IntKind.bits]; omega
theorem isB.app {l m : List Int} (h : isB l) (k : isB m) : isB (l ++ m) := fun x hx => by
 rcases List.mem_append.1 hx with q | q
 ·exact h x q
 ·exact k x q
section
variable {n sb : Nat} {st s : St} {f : Bool} {xs : List Int} {a : Int} {T : Tbl} {M : Nat → Bool} {K : V → St → Prop} {Kp : List PanicEntry → St → Prop}
theorem sBytes_v {fb : Bool} {l0 : List Int} (hs : st[sb]? = some (strm f xs a)) (hM : M sb = true) (src : xs.length ≤ 9223372036854775807 ∧ ∀ x ∈ xs, -9223372036854775808 ≤ x ∧ x ≤ 9223372036854775807) (ha : 0 ≤ a ∧ a ≤ 100000000) (hl : isB l0) (hlen : l0.length ≤ 500000)
  (hK : ∀ g l a', isB l → l.length ≤ l0.length + 2 → a ≤ a' ∧ a' ≤ a + 10 → K (.lst g (bys l)) (st.set sb (strm f xs a'))) : CallV Tryz.prog T M 12 [.ptr sb 1 0 0, .lst fb (bys l0)] st K Kp := by
 have hlt : sb < st.length := (List.getElem?_eq_some_iff.1 hs).1
 have hup : upM st.length M sb = true := upM_of hM
 refine CallV.give (fun_ok hmix c_sBytes (le_of rfl) ?_)
 simp [F_sBytes]
 refine app_out (OutS.nil st.length 5 1 st) (Nat.le_refl _) (news := bys l0) (by simp) (bys_one l0) (Or.inr rfl) (fun b L hb _ j => by simp [upM, hb]) (by simp; omega) (by simp; omega) fun v s3 o3 hl3 hb3 hk3 hn3 => ?_
 have g3 : GS st.length sb st s3 f xs a := ⟨⟨hl3, fun b h1 h2 => hb3 b h1⟩, (hb3 sb hlt).trans hs, hlt, src⟩
 have w3 : OutW st.length l0.length s3 v l0 := .ofS (by simpa using o3) (Nat.le_refl _)
 refine range_g g3 hup (by omega) 1 2 (by omega) (by omega) (by omega) fun r s4 r1 r2 g4 b4 => ?_
 have w4 := w3.but b4 hlt
 have hr0 : ∃ k : Nat, r = (k : Int) ∧ k ≤ 2 := ⟨r.toNat, by omega, by omega⟩
 obtain ⟨k0, rfl, hk0⟩ := hr0
 have out : ∀ (s : St) (a' : Int) (v : V) (l : List Int) (N : Nat), GS st.length sb st s f xs a' → OutW st.length N s v l → isB l → l.length ≤ l0.length + 2 → a ≤ a' ∧ a' ≤ a + 10 → ∃ v', Frz st.length s v v' ∧ LowSt st s ∧ K v' (s.take st.length) := fun s a' v l N g w h1 h2 h3 => by
  obtain ⟨gg, hf⟩ := w.frz
  refine ⟨_, hf, g.same.low g.str (by simp [V.low]), ?_⟩
  rw [g.same.take g.str]
  exact hK gg l a' h1 h2 h3
 refine wp_mloop (fun fr s => ∃ (k : Nat) (a' : Int) (l : List Int), k ≤ k0 ∧ a ≤ a' ∧ a' ≤ a + 1 + 3 * k ∧ GS st.length sb st s f xs a' ∧ OutW st.length (l0.length + k) s (fr.g 5) l ∧ isB l ∧ l.length ≤ l0.length + k ∧ fr.df = [] ∧ fr.g 0 = .ptr sb 1 0 0 ∧ fr.g 10 = I k0 ∧ fr.g 11 = I k) (fun fr _ => k0 - nat (fr.g 11))
  ⟨0, a + 1, l0, by omega, by omega, by omega, g4, by simpa using w4, hl, by omega, by simp, by simp, by simp, by simp⟩ ?_
 rintro fr s ⟨k, a', l, hk, ha1, ha2, g, w, hbl, hll, hdf, z0, z10, z11⟩
 have hw1 : IntKind.i64.wrap ((k : Int) + 1) = ((k + 1 : Nat) : Int) := by rw [w64 (n := (k : Int) + 1) (by omega) (by omega)]; push_cast; rfl
 by_cases hk2 : k < k0
 ·by_cases hl0 : l = []
  ·subst hl0
   have hlv := w.len
   simp [z0, z10, z11, hk2, hlv]
   refine next_g g hup (by omega) 256 (by omega) fun r s5 r1 r2 g5 b5 => ?_
   have w5 := w.but b5 hlt
   have h8 := u8_rng r
   have hlS := g5.same.len
   simp [intOf, hdf]
   rcases w5 with ⟨-, hv⟩ | ⟨b, rr, h1, h2, hv, h4⟩
   ·rw [hv]
    refine app_out (OutS.nil st.length 5 1 _) (by simp; omega) (news := bys [IntKind.u8.wrap r]) (by simp [bys]) (by simp [bys]) (Or.inr rfl) (fun b L hb _ j => by simp [upM, hb]) (by simp) (by simp) fun v s6 o6 hl6 hb6 hk6 hn6 => ?_
    exact out s6 _ v [IntKind.u8.wrap r] 1 ((g5.more _).to hl6 hb6) (.ofS (by simpa using o6) (by simp)) (fun x hx => by simp at hx; omega) (by simp) ⟨by omega, by omega⟩
   ·rw [hv]
    have h2' := get_more h2 [Blk.row 5 1 [V.val (Value.int IntKind.u8 (IntKind.u8.wrap r))]]
    refine OutW.app (N := rr.length + 1) (l := []) (r := rr) (m := [IntKind.u8.wrap r]) h1 h2' (by simp) (by simp [rdl, bys]) (fun j => by simp [upM, h1]) (by simp at h4 ⊢; omega) (by simp) fun v' x' w' => ?_
    exact out _ _ v' _ _ ((g5.more _).set h1 x') w' (fun x hx => by simp at hx; omega) (by simp) ⟨by omega, by omega⟩
  ·have hlv := w.len
   have hlz : ((l.length : Int) == 0) = false := by simpa using hl0
   have hlp : 0 < l.length := List.length_pos_iff.2 hl0
   simp [z0, z10, z11, hk2, hlv, hlz]
   refine next_g g hup (by omega) l.length (by omega) fun r s5 r1 r2 g5 b5 => ?_
   have w5 := w.but b5 hlt
   refine next_g g5 hup (by omega) 4 (by omega) fun q s6 q1 q2 g6 b6 => ?_
   have w6 := w5.but b6 hlt
   obtain ⟨i, rfl⟩ : ∃ i : Nat, r = (i : Int) := ⟨r.toNat, by omega⟩
   have hq : q = 0 ∨ q = 1 ∨ q = 2 ∨ q = 3 := by omega
   rcases w6 with ⟨e, -⟩ | ⟨b, rr, h1, h2, h3, h4⟩
   ·exact absurd e hl0
   have hbs : b ≠ sb := by omega
   have hiw : IntKind.i64.wrap ((i : Int) + 1) = ((i + 1 : Nat) : Int) := by rw [w64 (n := (i : Int) + 1) (by omega) (by omega)]; push_cast; rfl
   have hlr : l.length + rr.length = (l ++ rr).length := by simp
   have hcl : s6[b]? = some (.row 5 1 (bys (l ++ rr))) := h2
   have hrs : (l ++ rr).length ≤ l0.length + k := h4
   rw [List.length_append] at hrs
   rcases hq with rfl | rfl | rfl | rfl
   ·simp
    refine wp_mflat [b] [] ?_
    simp [h3, h2, z0, z10, z11, hiw, hw1, -Int.natCast_add]
    refine ⟨by omega, by omega, ?_⟩
    rw [hlr]
    refine OutW.app (r := rr) (m := l.drop (i + 1)) h1 h2 (by omega) (by simp [rdl, h2]; exact bys_win l rr (i + 1) (by omega)) (fun j => by simp [inW, upM, h1]) (by simp; omega) (N := l0.length + (k + 1)) (by simp; omega) fun v' x' w' => ?_
    exact ⟨⟨k + 1, by omega, a' + 1 + 1, by omega, by push_cast; omega, g6.set h1 x', _, w', isB.app (fun x hx => hbl x (List.mem_of_mem_take hx)) (fun x hx => hbl x (List.mem_of_mem_drop hx)), by simp; omega, hdf, rfl⟩, by omega⟩
   ·simp
    refine wp_mflat [b] [] ?_
    simp [h3, h2, z0, z10, z11, hiw, hw1, -Int.natCast_add]
    refine ⟨by omega, by omega, ?_⟩
    rw [hlr]
    refine OutW.app (r := rr) (m := l.drop i) h1 h2 (by omega) (by simp [rdl, h2]; exact bys_win l rr i (by omega)) (fun j => by simp [inW, upM, h1]) (by simp; omega) (N := l0.length + (k + 1)) (by simp; omega) fun v' x' w' => ?_
    exact ⟨⟨k + 1, by omega, a' + 1 + 1, by omega, by push_cast; omega, g6.set h1 x', _, w', isB.app (fun x hx => hbl x (List.mem_of_mem_take hx)) (fun x hx => hbl x (List.mem_of_mem_drop hx)), by simp; omega, hdf, rfl⟩, by omega⟩
   ·simp [h3, h2, hw1, -Int.natCast_add]
    refine ⟨by omega, ⟨k + 1, by omega, a' + 1 + 1, by omega, by push_cast; omega, g6, l.take i, Or.inr ⟨b, l.drop i ++ rr, h1, by rw [← List.append_assoc, List.take_append_drop]; exact h2, ?_, ?_⟩, fun x hx => hbl x (List.mem_of_mem_take hx), by simp; omega, hdf, rfl⟩, by omega⟩
    ·rw [← List.append_assoc, List.take_append_drop, hlr]
     simp
     omega
    ·simp; omega
   ·have hgi : (bys (l ++ rr))[i]? = some (.val (.int .u8 (l[i]'(by omega)))) := by
     rw [bys_append, List.getElem?_append_left (by simp; omega)]
     simp [bys]
     done
    simp
    refine wp_mtail [sb] [] ?_
    simp [h3, h2, z0, hgi, rdW, hbs]
    refine ⟨by omega, ?_⟩
    refine next_g g6 (show callM _ sb = true by simp [callM, inW, hup]) (by omega) 8 (by omega) fun r3 s7 t1 t2 g7 b7 => ?_
    have h7 := get_but h2 b7 hbs
    have hset : ∀ Y, (bys (l ++ rr)).set i (.val (.int .u8 Y)) = bys (l.set i Y ++ rr) := fun Y => by
     rw [bys_append, bys_append, List.set_append_left _ _ (by simp; omega)]
     simp [bys, List.map_set]
    simp
    refine ⟨t1, by omega, ?_⟩
    rw [h7]
    simp [hgi, upM, h1, upd, z10, z11, hw1, hset, -Int.natCast_add]
    refine ⟨⟨k + 1, by omega, a' + 1 + 1 + 1, by omega, by push_cast; omega, g7.set h1 _, _, Or.inr ⟨b, rr, h1, get_set h7 _, ?_, ?_⟩, ?_, ?_, hdf, rfl⟩, by omega⟩
    ·simp
    ·simp; omega
    ·intro x hx
     rcases List.mem_or_eq_of_mem_set hx with q | q
     ·exact hbl x q
     ·rw [q]; exact u8_rng _
    ·simp; omega
 ·obtain rfl : k = k0 := by omega
  simp [z10, z11, hdf]
  exact out s a' _ l _ g w hbl (by omega) ⟨by omega, by omega⟩
end
end Go.Proofs.YtkcdgaijklhnaaaGreatDoor.Vm
namespace Go.Proofs.YtkcdgaijklhnaaaGreatDoor.Vm
open Go.RowKit
def RdB (_st : St) (v : V) (l : List Int) : Prop := ∃ f, v = .lst f (bys l)
theorem RdB.len {st : St} {v : V} {l : List Int} (h : RdB st v l) : lenV st v = some (I (l.length : Int)) := by
 obtain ⟨f, rfl⟩ := h
 simp
theorem RdB.el {st : St} {v : V} {l : List Int} (h : RdB st v l) {k : Nat} {x : Int} (hx : l[k]? = some x) : ∃ p, elemAt 1 st (k : Int) v = some p ∧ (∀ rd : Nat → Nat → Bool, (∀ b j, rd b j = true) → mLoad rd false 1 st p = some (.val (.int .u8 x))) := by
 obtain ⟨f, rfl⟩ := h
 have hi : (bys l)[k]? = some (.val (.int .u8 x)) := by simp [bys, hx]
 exact ⟨.cref (.val (.int .u8 x)) 0, by simp [hi], fun rd _ => by simp⟩
section
variable {T : Tbl} {M : Nat → Bool} {st : St} {K : V → St → Prop} {Kp : List PanicEntry → St → Prop}
theorem equalB_r {va vb : V} {a b : List Int} (ra : RdB st va a) (rb : RdB st vb b) (hl : a.length ≤ 1000000000) (hK : K (Bo (decide (a = b))) st) : CallV Tryz.prog T M 9 [va, vb] st K Kp := by
 refine fun_ok hmix c_equalB (le_of rfl) ?_
 by_cases hab : a.length = b.length
 ·have hn : ((a.length : Int) != (b.length : Int)) = false := by simp [hab]
  simp [F_equalB, ra.len, rb.len, hab]
  refine wp_mloop (fun fr s => ∃ k : Nat, k ≤ a.length ∧ s = st ∧ fr.df = [] ∧ fr.g 0 = va ∧ fr.g 1 = vb ∧ fr.g 12 = I a.length ∧ fr.g 13 = I k ∧ ∀ j, j < k → a[j]? = b[j]?) (fun fr _ => a.length - nat (fr.g 13)) ⟨0, by simp [hab]⟩ ?_
  rintro fr s ⟨k, hk, rfl, hdf, g0, g1, g12, g13, hj⟩
  by_cases hlt : k < a.length
  ·have ha := List.getElem?_eq_getElem hlt
   have hb := List.getElem?_eq_getElem (show k < b.length by omega)
   obtain ⟨p, p1, p2⟩ := ra.el ha
   obtain ⟨q, q1, q2⟩ := rb.el hb
   generalize hu : a[k] = u at *
   generalize hv : b[k] = v at *
   simp [g12, g13, hlt]
   refine wp_mflat [] [] ?_
   simp [g0, g1, g13, p1, p2, q1, q2]
   by_cases he : u = v
   ·simp [he, g12, hdf, w64 (n := (k : Int) + 1) (by omega) (by omega)]
    refine ⟨⟨k + 1, by omega, by omega, fun j hj2 => ?_⟩, by omega⟩
    rcases Nat.lt_or_ge j k with h | h
    ·exact hj j h
    ·obtain rfl : j = k := by omega
     rw [ha, hb, he]
   ·have hne : a ≠ b := fun e => he (by rw [e] at ha; rw [ha] at hb; exact Option.some.inj hb)
    rw [decide_eq_false hne] at hK
    have hb1 : (u != v) = true := by simp [he]
    simp [hb1, hdf]
    exact hK
  ·obtain rfl : k = a.length := by omega
   have heq : a = b := List.ext_getElem? fun i => by
    by_cases hi : i < a.length
    ·exact hj i hi
    ·rw [List.getElem?_eq_none (by omega), List.getElem?_eq_none (by omega)]
   rw [decide_eq_true heq] at hK
   simp [g12, g13, hdf]
   exact hK
 ·have hne : a ≠ b := fun e => hab (by rw [e])
  rw [decide_eq_false hne] at hK
  have hb1 : ((a.length : Int) != (b.length : Int)) = true := by simp; omega
  simp [F_equalB, ra.len, rb.len, hb1]
  exact hK
end
section
variable {n sb : Nat} {st s : St} {f : Bool} {xs : List Int} {a : Int} {T : Tbl} {M : Nat → Bool} {K : V → St → Prop} {Kp : List PanicEntry → St → Prop}
theorem sBytes_g {fb : Bool} {l0 : List Int} (g : GS n sb st s f xs a) (hM : M sb = true) (ha : 0 ≤ a ∧ a ≤ 100000000) (hl : isB l0) (hlen : l0.length ≤ 500000) (hK : ∀ gg l s' a', isB l → l.length ≤ l0.length + 2 → a ≤ a' ∧ a' ≤ a + 10 → GS n sb st s' f xs a' → But sb s s' → K (.lst gg (bys l)) s') : CallV Tryz.prog T M 12 [.ptr sb 1 0 0, .lst fb (bys l0)] s K Kp :=
 sBytes_v g.str hM g.src ha hl hlen fun gg l a' h1 h2 h3 => hK gg l _ a' h1 h2 h3 (g.next _) (But.set _ _ _)
end
end Go.Proofs.YtkcdgaijklhnaaaGreatDoor.Vm
namespace Go.Proofs.YtkcdgaijklhnaaaGreatDoor.Vm
open Go.RowKit
theorem packU_isB : ∀ (f : Nat) (u : Int), 0 ≤ u → u < 128 ^ (f + 1) → isB (packU f u)
 | 0, u, h0, h1 => fun x hx => by
  simp [packU, lowB] at hx
  simp at h1
  omega
 | f + 1, u, h0, h1 => by
  unfold packU
  split
  ·rw [Int.pow_succ] at h1
   have ih := packU_isB f (u / 128) (by omega) (by omega)
   intro x hx
   rcases List.mem_cons.1 hx with q | q
   ·rw [q, ← more_byte u]; exact u8_rng _
   ·exact ih x q
  ·intro x hx
   simp [lowB] at hx
   omega
theorem packN_isB (n : Int) : isB (packN n) := packU_isB 10 _ (unB_rng n).1 (Int.lt_of_lt_of_le (unB_rng n).2 (by decide))
theorem packS_isB (l : List Int) : isB (packS l) := fun x hx => by
 obtain ⟨y, -, h⟩ := List.mem_flatMap.1 hx
 exact packN_isB y x h
theorem packL_isB (l : List Int) : isB (packL l) := (packN_isB _).app (packS_isB _)
theorem mbytes_isB (m : LModel) : isB (mbytes m) := (packS_isB _).app fun x hx => by
 obtain ⟨y, -, h⟩ := List.mem_flatMap.1 hx
 exact packL_isB y x h
theorem mbytes_len (m : LModel) (h : ∀ x ∈ listsM m, x.length ≤ 2000) : (mbytes m).length ≤ 200000 := by
 have h1 := packS_len [m.kind, m.vocab, m.width, m.top]
 have h2 := packLs_len (listsM m) h
 have h3 : (listsM m).length = 7 := rfl
 simp only [mbytes, List.length_append]
 simp at h1
 omega
theorem zM_lb : LB 2000 200 zM := ⟨fun x hx => by simp [zM] at hx; omega, fun l hl => by simp [zM] at hl; subst hl; simp⟩
end Go.Proofs.YtkcdgaijklhnaaaGreatDoor.Vm
namespace Go.Proofs.YtkcdgaijklhnaaaGreatDoor.Vm
open Go.RowKit
section
variable {T : Tbl} {M : Nat → Bool} {st : St} {K : V → St → Prop} {Kp : List PanicEntry → St → Prop}
theorem sameM_v {fa fb : Nat → Bool} {m : LModel} (hb : LB 2000 200 m) (hK : K (Bo true) st) : CallV Tryz.prog T M 16 [encM fa m, encM fb m] st K Kp := by
 have hl : ∀ x ∈ listsM m, x.length ≤ 2000 := fun x hx => by have := hb.lens x hx; omega
 refine CallV.give (fun_ok hmix c_sameM (le_of rfl) ?_)
 simp [F_sameM, encM]
 refine wp_mflat [] [] ?_
 simp
 rw [← encM, ← encM]
 refine rBytes_v (fl := fa) hl fun g => ?_
 refine rBytes_v (fl := fb) hl fun gg => ?_
 refine equalB_r ⟨g, rfl⟩ ⟨gg, rfl⟩ (by have := mbytes_len m hl; omega) ?_
 simp
 exact ⟨_, .same _ rfl, ((KeepL.refl st).more _).low, hK⟩
end
end Go.Proofs.YtkcdgaijklhnaaaGreatDoor.Vm
