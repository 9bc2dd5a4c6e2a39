/-
  slices.Concat of bytes; the code of bytes: contracts of the old make as calls of the value machine.
  Model files: their code, written and read, run by the value machine.
  Model files read, run by the value machine.
-/
import Derived.Test.YtkcdgaijklhnaaaGreatDoorK22
import Derived.Test.YtkcdgaijklhnaaaGreatDoorK26
import Derived.Test.YtkcdgaijklhnaaaGreatDoorK27
namespace Go.Proofs.YtkcdgaijklhnaaaGreatDoor.Vm
open Go.RowKit
section
variable {P : Program} {B : Nat} {w0 : World} {E : Env} {st : St} {w : World}
theorem sl_of2 (hR : Rows E st w) {v : V} {u : Value} {ys : List V} (h : Rel E st w v u) (hv : rdl st v = some ys) : ∃ A c, u = .slice A ys.length c /\ ys.length <= c /\ c <= maxLen := by
 cases v with
 | lst f xs =>
  cases hv
  cases h with
  | pure h => cases h with
   | nil _ A c h => exact ⟨_, _, rfl, Nat.zero_le _, h.2⟩
   | lst _ _ p n c k us hn hc => exact ⟨_, _, by rw [hn], by omega, hc.2⟩
 | own b L lo n =>
  simp only [rdl] at hv
  split at hv
  ·rename_i t k xs hb
   split at hv
   ·rename_i hL
    cases hv
    cases h with
    | pure h => cases h
    | own _ _ _ _ _ hbl _ hh =>
     obtain ⟨-, g2⟩ := hh t k xs hb
     obtain ⟨g3, A, rfl, -⟩ := g2 hL.symm
     obtain ⟨-, k1, k2, -⟩ := hR b t k xs hb
     have hl : ((xs.drop lo).take n).length = n := by rw [List.length_take, List.length_drop]; omega
     exact ⟨_, _, by rw [hl], by rw [hl]; omega, by omega⟩
   ·cases hv
  ·cases hv
 | _ => cases hv
theorem bi_of (hR : Rows E st w) {v : V} {u : Value} {l : List Int} (h : Rel E st w v u) (hv : rdl st v = some (bys l)) (hb : isB l) (hlen : l.length <= 100000000) : BI w u (l.map Int.toNat) := by
 have hu8 : u8s (l.map Int.toNat) = l.map fun n => Value.int .u8 n := by
  simp only [u8s, List.map_map]
  refine List.map_congr_left fun x hx => ?_
  have := hb x hx
  simp only [Function.comp_apply]
  congr 1
  omega
 refine ⟨?_, by simp [maxLen]; omega, fun x hx => ?_⟩
 ·obtain ⟨A, c, rfl, h1, h2⟩ := sl_of2 hR h hv
  simp only [bys_len] at h1 ⊢
  refine ⟨A, c, by rw [u8s_length, List.length_map], by rw [u8s_length, List.length_map]; exact h1, h2, fun h0 => ?_⟩
  have hne : bys l ≠ [] := fun e => by
   rw [u8s_length, List.length_map, <- bys_len, e] at h0
   simp at h0
  obtain ⟨a, c', us, e, g1, g2, g3, -⟩ := src_ok (k := 1) hR (by omega) h hv (bys_one l) hne
  injection e with e1 e2 e3
  subst e1
  have hfl : flat (bys l) = bys l := by
   have : ∀ q : List Int, flat (bys q) = bys q := fun q => by
    induction q with
    | nil => rfl
    | cons x r ih => rw [bys_cons]; simp only [flat, List.flatMap_cons] at ih ⊢; rw [ih]; rfl
   exact this l
  rw [hfl] at g3
  have hus : us = l.map fun n => Value.int .u8 n := by
   refine List.ext_getElem? fun i => ?_
   by_cases hi : i < us.length
   ·have hi2 : i < (bys l).length := by rw [<- g3.1]; exact hi
    have := g3.2 i _ us[i] (List.getElem?_eq_getElem hi2) (List.getElem?_eq_getElem hi)
    simp only [bys, List.getElem_map] at this
    rw [List.getElem?_eq_getElem hi, this.lit, List.getElem?_map, List.getElem?_eq_getElem (by simpa using hi2)]
    rfl
   ·rw [List.getElem?_eq_none (by omega), List.getElem?_eq_none (by have := g3.1; simp at this ⊢; omega)]
  have hsp : a.spot = none := by
   have hpos : 0 < us.length := by rw [g3.1]; exact List.length_pos_iff.2 hne
   have h3 := g2 0 _ (List.getElem?_eq_getElem hpos)
   obtain ⟨ab, ao, sp⟩ := a
   cases sp with
   | none => rfl
   | some s =>
    exfalso
    simp [World.cell?, Addr.add] at h3
    split at h3 <;> simp at h3
  obtain ⟨ab, ao, sp⟩ := a
  simp only at hsp
  subst hsp
  refine ⟨ab, ao, rfl, fun j x hx => ?_⟩
  rw [hu8, <- hus] at hx
  have := g2 j x hx
  rwa [Addr.add_lit] at this
 ·obtain ⟨y, hy, rfl⟩ := List.mem_map.1 hx
  have := hb y hy
  omega
end
section
variable {P : Program} {T : Tbl} {M : Nat -> Bool} {st : St} {K : V -> St -> Prop} {Kp : List PanicEntry -> St -> Prop}
theorem CallV.of_rd {f : Nat} {args : List V} {uV : V} {u : Value} {G : World -> List Value -> Prop} (hx : entersX P f = true) (hG : ∀ B w0 E w us, Rep B w0 E st w -> T.pin B w0 -> Pw E st w args us -> G w us) (h : ∀ w us, G w us -> Calls P f us.toArray w fun e w' => e = .returned u /\ Below w.heap.size w w') (hr : ∀ E w, Rel E st w uV u) (hK : K uV st) : CallV P T M f args st K Kp := by
 refine ⟨hx, fun B w0 E w us' hR hT hu => ?_⟩
 refine (h w us' (hG B w0 E w us' hR hT.2 hu)).mono fun e w' ⟨h1, h2⟩ => ?_
 subst h1
 obtain ⟨g1, g2⟩ := Rep.idle (M := fun b _ => M b) hR (w' := w') ⟨h2.os, h2.tape, h2.output, h2.size, fun k hk _ => h2.block k hk⟩
 exact ⟨E, st, uV, g1, g2, hr _ _, hK⟩
end
def codeB (l : List Int) : Int := code (l.map Int.toNat)
section
variable {T : Tbl} {M : Nat -> Bool} {st : St} {K : V -> St -> Prop} {Kp : List PanicEntry -> St -> Prop}
theorem code_v {v : V} {l : List Int} (hv : rdl st v = some (bys l)) (hb : isB l) (hlen : l.length <= 100000000) (hK : K (I (codeB l)) st) : CallV Tryz.prog T M 106 [v] st K Kp :=
 CallV.of_rd (uV := I (codeB l)) (u := .int .i64 (codeB l)) (G := fun w us => ∃ u, us = [u] /\ BI w u (l.map Int.toNat)) (by kernel_rfl) (fun B w0 E w us hR _ hu => by
  obtain ⟨u, rfl, h1⟩ := pw1 hu
  exact ⟨u, rfl, bi_of hR.rows h1 hv hb hlen⟩) (fun w us ⟨u, h1, h2⟩ => by
  subst h1
  exact (code_any _ u w h2).mono fun e w' ⟨g1, g2⟩ => ⟨g1, by rw [g2]; exact Below.refl _ _⟩) (fun E w => .pure (.val _)) hK
theorem coded_v {v : V} {l : List Int} (hv : rdl st v = some (bys l)) (hb : isB l) (hlen : l.length <= 100000000) (hK : K (I (codeB l)) st) : CallV Tryz.prog T M 60 [v] st K Kp :=
 CallV.of_rd (uV := I (codeB l)) (u := .int .i64 (codeB l)) (G := fun w us => ∃ u, us = [u] /\ BI w u (l.map Int.toNat)) (by kernel_rfl) (fun B w0 E w us hR _ hu => by
  obtain ⟨u, rfl, h1⟩ := pw1 hu
  exact ⟨u, rfl, bi_of hR.rows h1 hv hb hlen⟩) (fun w us ⟨u, h1, h2⟩ => by
  subst h1
  exact (coded_any _ u w h2).mono fun e w' ⟨g1, g2⟩ => ⟨g1, by rw [g2]; exact Below.refl _ _⟩) (fun E w => .pure (.val _)) hK
end
theorem OutW.app2 {n N : Nat} {s : St} {M : Nat -> Nat -> Bool} {l m : List Int} {v x : V} {k2 : V -> St -> Prop} (h : OutW n N s v l) (hn : n <= s.length) (hx : rdl s x = some (bys m)) (hM : ∀ b j, n <= b -> M b j = true) (hN : N <= 5000000) (hlen : l.length + m.length <= N)
  (hK : ∀ v' s', OutW n N s' v' (l ++ m) -> s.length <= s'.length -> (∀ b, b < n -> s'[b]? = s[b]?) -> k2 v' s') : obind2 (mApp M 5 1 1 s v x) k2 := by
 rcases h with ⟨rfl, rfl⟩ | ⟨b, r, h1, h2, rfl, h4⟩
 ·have : mApp M 5 1 1 s (.lst true []) x = some (.own s.length m.length 0 m.length, s ++ [.row 5 1 (bys m)]) := by
   unfold mApp
   rw [hx]
   simp only [Option.bind_some]
   rw [if_pos (bys_one m)]
   show (if _ then some _ else none) = _
   rw [if_pos ⟨by simp, by simp, by simp at hlen ⊢; omega, by simp at hlen ⊢; omega⟩]
   simp
  exact ⟨_, _, this, hK _ _ (Or.inr ⟨s.length, [], hn, by simp, by simp, by simpa using hlen⟩) (by simp) fun b hb => List.getElem?_append_left (by omega)⟩
 ·refine OutW.app (N := N) (i := l.length) h1 h2 (Nat.le_refl _) hx (fun j => hM b j h1) (by omega) ⟨h4, hlen⟩ fun v' x' w => ?_
  rw [List.take_length] at w
  exact hK _ _ w (by simp) fun b' hb' => List.getElem?_set_ne (by omega)
section
variable {T : Tbl} {M : Nat -> Bool} {st : St} {K : V -> St -> Prop} {Kp : List PanicEntry -> St -> Prop}
theorem growB_v {n : Nat} (hn : n <= 5000000) (h0 : n = 0 -> K (.lst true []) st) (h1 : 0 < n -> K (.own st.length n 0 0) (st ++ [.row 5 1 (List.replicate n (.val (.int .u8 0)))])) : CallV Tryz.prog T M 108 [.lst true [], I n] st K Kp := by
 refine fun_ok hmix c_growB (le_of rfl) ?_
 have hz : IntKind.i64.wrap 0 = 0 := rfl
 rcases Nat.eq_zero_or_pos n with rfl | hp
 ·simp [F_growB, hz]
  exact h0 rfl
 ·have e : IntKind.i64.wrap (n : Int) = (n : Int) := w64 (by omega) (by omega)
  have hn0 : ¬ ((n : Int) < 0) := by omega
  simp [F_growB, hz, e, hp, hn0]
  exact ⟨⟨by omega, by omega⟩, h1 hp⟩
theorem rdl_keep {s : St} (h : KeepL st s) {v : V} {l : List V} (hv : rdl st v = some l) : rdl s v = some l := by
 cases v with
 | own b L lo n =>
  simp only [rdl] at hv ⊢
  split at hv
  ·rename_i t k xs hb
   rw [h.get b (List.getElem?_eq_some_iff.1 hb).1, hb]
   exact hv
  ·cases hv
 | lst f xs => exact hv
 | _ => cases hv
theorem len_rdl {v : V} {l : List V} (hv : rdl st v = some l) (hl : ∀ b L lo n, v = .own b L lo n -> lo + n <= L) : lenV st v = some (I l.length) := by
 cases v with
 | own b L lo n =>
  have := hl b L lo n rfl
  simp only [rdl] at hv
  split at hv
  ·rename_i t k xs hb
   split at hv
   ·rename_i hL
    cases hv
    have e : ((xs.drop lo).take n).length = n := by rw [List.length_take, List.length_drop]; omega
    rw [e]
    simp [hb, hL]
   ·cases hv
  ·cases hv
 | lst f xs => cases hv; rfl
 | _ => cases hv
structure RB (st : St) (v : V) (l : List Int) : Prop where
 rd : rdl st v = some (bys l)
 inb : ∀ b L lo n, v = .own b L lo n -> lo + n <= L
theorem RB.keep {s : St} {v : V} {l : List Int} (h : RB st v l) (hk : KeepL st s) : RB s v l := ⟨rdl_keep hk h.rd, h.inb⟩
theorem RB.len {v : V} {l : List Int} (h : RB st v l) : lenV st v = some (I (l.length : Int)) := by
 have := len_rdl h.rd h.inb
 simpa using this
theorem RB.frz (f : Bool) (l : List Int) : RB st (.lst f (bys l)) l := ⟨rfl, fun _ _ _ _ h => by cases h⟩
theorem RB.own {b : Nat} {l : List Int} (h : st[b]? = some (.row 5 1 (bys l))) : RB st (.own b l.length 0 l.length) l := ⟨by simp [rdl, h]; rw [List.take_of_length_le (by simp)], fun _ _ _ _ e => by cases e; omega⟩
def tl (ls : List (List Int)) (k : Nat) : Nat := (ls.take k).flatten.length
theorem flat_take {ls : List (List Int)} {k : Nat} {x : List Int} (h : ls[k]? = some x) : (ls.take (k + 1)).flatten = (ls.take k).flatten ++ x := by
 rw [List.take_add_one, h]; simp
theorem tl_succ {ls : List (List Int)} {k : Nat} {x : List Int} (h : ls[k]? = some x) : tl ls (k + 1) = tl ls k + x.length := by unfold tl; rw [flat_take h, List.length_append]
theorem tl_le (ls : List (List Int)) (k : Nat) : tl ls k <= tl ls ls.length := by
 unfold tl
 rw [List.take_length, show ls.flatten.length = ((ls.take k) ++ ls.drop k).flatten.length by rw [List.take_append_drop], List.flatten_append, List.length_append]
 omega
theorem concB_v {rb : Nat} {vs : List V} {ls : List (List Int)} (hr : st[rb]? = some (.row 31 1 vs)) (hvl : vs.length = ls.length) (hv : ∀ (i : Nat) (v : V) (l : List Int), vs[i]? = some v -> ls[i]? = some l -> RB st v l) (hone : ∀ v ∈ vs, v.cells = [v]) (hl : vs.length <= 1000) (htot : tl ls ls.length <= 4000000) (hK : ∀ g, K (.lst g (bys ls.flatten)) st) : CallV Tryz.prog T M 59 [.own rb vs.length 0 vs.length] st K Kp := by
 refine CallV.give (fun_ok hmix c_concB (le_of rfl) ?_)
 have hbl : rb < st.length := (List.getElem?_eq_some_iff.1 hr).1
 have e1 : F_concB.code = .seq F_concB.code.l (.seq F_concB.code.r.l (.seq F_concB.code.r.r.l F_concB.code.r.r.r)) := rfl
 have hz : IntKind.i64.wrap 0 = 0 := rfl
 generalize hN : tl ls ls.length = N at htot
 have tail : ∀ (fr : Fr), fr.g 0 = .own rb vs.length 0 vs.length -> fr.g 3 = I N -> fr.df = [] -> wpM Tryz.prog T (liftM (upM st.length M)) F_concB.code.r.r.r (Fin F_concB.res (fun v st' => ∃ v', Frz st.length st' v v' /\ LowSt st st' /\ K v' (st'.take st.length)) (fun c st' => LowSt st st' /\ Kp c (st'.take st.length))) fr st := fun fr z0 z3 zdf => by
  have go : ∀ (fr : Fr) (s : St), KeepL st s -> OutW st.length N s (fr.g 6) [] -> fr.g 0 = .own rb vs.length 0 vs.length -> fr.df = [] -> wpM Tryz.prog T (liftM (upM st.length M)) F_concB.code.r.r.r.r (Fin F_concB.res (fun v st' => ∃ v', Frz st.length st' v v' /\ LowSt st st' /\ K v' (st'.take st.length)) (fun c st' => LowSt st st' /\ Kp c (st'.take st.length))) fr s := fun fr s hk hO z0 zdf => by
   have hr2 := (hk.get rb hbl).trans hr
   simp [F_concB, MC.r, z0, hr2]
   refine wp_mloop (fun fr s => ∃ k : Nat, k <= vs.length /\ KeepL st s /\ OutW st.length N s (fr.g 6) (ls.take k).flatten /\ fr.df = [] /\ fr.g 25 = .own rb vs.length 0 vs.length /\ fr.g 26 = I vs.length /\ fr.g 27 = I k) (fun fr _ => vs.length - nat (fr.g 27))
    ⟨0, by omega, hk, by simpa using hO, by simp [zdf], by simp, by simp, by simp⟩ ?_
   clear hk hO z0 zdf hr2 fr s
   rintro fr s ⟨k, hk, hkl, hO, hdf, z25, z26, z27⟩
   by_cases hk2 : k < vs.length
   ·have hr2 := (hkl.get rb hbl).trans hr
    obtain ⟨v, hg⟩ : ∃ v, vs[k]'hk2 = v := ⟨_, rfl⟩
    have hx : vs[k]? = some v := by rw [<- hg]; exact List.getElem?_eq_getElem hk2
    have hy := List.getElem?_eq_getElem (show k < ls.length by omega)
    have hrb := (hv k _ _ hx hy).keep hkl
    have hc1 := hone _ (List.mem_of_getElem? hx)
    have hf := flat_take hy
    have hle := tl_le ls (k + 1)
    rw [tl_succ hy, hN] at hle
    generalize ls[k]'(by omega) = l at *
    have hw1 : IntKind.i64.wrap ((k : Int) + 1) = ((k + 1 : Nat) : Int) := by rw [w64 (n := (k : Int) + 1) (by omega) (by omega)]; push_cast; rfl
    simp [z25, z26, z27, hk2, hr2, hg, hc1]
    refine hO.app2 hkl.len hrb.rd (fun b j hb => by simp [upM, hb]) (by omega) hle fun v' s' o hl' hb' => ?_
    rw [<- hf] at o
    simp [hw1, hdf, -Int.natCast_add]
    exact ⟨⟨k + 1, by omega, ⟨Nat.le_trans hkl.len hl', fun b hb => (hb' b hb).trans (hkl.get b hb)⟩, o, rfl⟩, by omega⟩
   ·obtain rfl : k = vs.length := by omega
    rw [hvl, List.take_length] at hO
    obtain ⟨gg, hfr⟩ := hO.frz
    simp [z26, z27, hdf]
    exact ⟨_, hfr, hkl.low, by rw [hkl.take]; exact hK gg⟩
  have e2 : F_concB.code.r.r.r = .seq F_concB.code.r.r.r.l F_concB.code.r.r.r.r := rfl
  rw [e2]
  generalize F_concB.code.r.r.r.r = c2 at go
  simp [F_concB, MC.l, MC.r, z3]
  refine growB_v (by omega) (fun h0 => ?_) (fun h0 => ?_)
  ·exact go _ st (KeepL.refl st) (by simp; exact Or.inl ⟨rfl, rfl⟩) (by simp [z0]) (by simp [zdf])
  ·refine go _ _ ((KeepL.refl st).more _) (Or.inr ⟨st.length, List.replicate N 0, Nat.le_refl _, ?_, by simp, by simp⟩) (by simp [z0]) (by simp [zdf])
   simp [bys]
 generalize F_concB.code.r.r.r = c1 at tail e1
 rw [e1]
 simp [F_concB, MC.l, MC.r, hr]
 refine wp_mloop (fun fr s => ∃ k : Nat, k <= vs.length /\ s = st /\ fr.df = [] /\ fr.g 0 = .own rb vs.length 0 vs.length /\ fr.g 3 = I (tl ls k) /\ fr.g 9 = .own rb vs.length 0 vs.length /\ fr.g 10 = I vs.length /\ fr.g 11 = I k) (fun fr _ => vs.length - nat (fr.g 11))
  ⟨0, by simp [tl]⟩ ?_
 rintro fr s ⟨k, hk, rfl, hdf, z0, z3, z9, z10, z11⟩
 by_cases hk2 : k < vs.length
 ·obtain ⟨v, hg⟩ : ∃ v, vs[k]'hk2 = v := ⟨_, rfl⟩
  have hx : vs[k]? = some v := by rw [<- hg]; exact List.getElem?_eq_getElem hk2
  have hy := List.getElem?_eq_getElem (show k < ls.length by omega)
  have hrb := hv k _ _ hx hy
  have hc1 := hone _ (List.mem_of_getElem? hx)
  have hlv := hrb.len
  have hle := tl_le ls (k + 1)
  have hts := tl_succ hy
  generalize ls[k]'(by omega) = l at *
  have hw1 : IntKind.i64.wrap ((k : Int) + 1) = ((k + 1 : Nat) : Int) := by rw [w64 (n := (k : Int) + 1) (by omega) (by omega)]; push_cast; rfl
  have hw2 : IntKind.i64.wrap ((tl ls k : Int) + (l.length : Int)) = (tl ls (k + 1) : Int) := by rw [w64 (by omega) (by omega)]; omega
  have hw3 : ¬ ((tl ls (k + 1) : Int) < 0) := by omega
  simp [z3, z9, z10, z11, hk2, hr, hg, hc1, hlv, hw1, hw2, hw3, hdf, -Int.natCast_add]
  exact ⟨⟨k + 1, by omega, z0, rfl, rfl⟩, by omega⟩
 ·obtain rfl : k = vs.length := by omega
  rw [hvl, hN] at z3
  simp [z10, z11]
  exact tail _ (by simp [z0]) (by simp [z3]) (by simp [hdf])
end
end Go.Proofs.YtkcdgaijklhnaaaGreatDoor.Vm
namespace Go.Proofs.YtkcdgaijklhnaaaGreatDoor.Vm
open Go.RowKit
def low4 (n : Int) : List Int := [IntKind.u8.wrap n, IntKind.u8.wrap (n.fdiv (2 ^ 8)), IntKind.u8.wrap (n.fdiv (2 ^ 16)), IntKind.u8.wrap (n.fdiv (2 ^ 24))]
theorem low4_isB (n : Int) : isB (low4 n) := fun x hx => by
 simp [low4] at hx
 rcases hx with rfl | rfl | rfl | rfl <;> exact u8_rng _
def wide4 : List Int -> Int
 | a :: b :: c :: d :: _ => IntKind.i64.wrap ((IntKind.i64.wrap ((IntKind.i64.wrap (((IntKind.i64.wrap a % 2 ^ IntKind.i64.bits).toNat ||| (IntKind.i64.wrap (IntKind.i64.wrap b * 2 ^ min 8 IntKind.i64.bits) % 2 ^ IntKind.i64.bits).toNat : Nat) : Int) % 2 ^ IntKind.i64.bits).toNat ||| (IntKind.i64.wrap (IntKind.i64.wrap c * 2 ^ min 16 IntKind.i64.bits) % 2 ^ IntKind.i64.bits).toNat : Nat) % 2 ^ IntKind.i64.bits).toNat ||| (IntKind.i64.wrap (IntKind.i64.wrap d * 2 ^ min 24 IntKind.i64.bits) % 2 ^ IntKind.i64.bits).toNat : Nat)
 | _ => 0
def sealB (l : List Int) : List Int := low4 (codeB l) ++ l
theorem isB.drop {l : List Int} (h : isB l) (k : Nat) : isB (l.drop k) := fun x hx => h x (List.mem_of_mem_drop hx)
theorem bys_drop (l : List Int) (k : Nat) : (bys l).drop k = bys (l.drop k) := by simp [bys]
theorem bys_tail (l : List Int) (k : Nat) : List.take (l.length - k) (List.drop k (bys l)) = bys (l.drop k) := by rw [bys_drop, List.take_of_length_le (by simp)]
theorem four {l : List Int} (h : 4 <= l.length) : ∃ a b c d r, l = a :: b :: c :: d :: r := by
 match l, h with
 | a :: b :: c :: d :: r, _ => exact ⟨a, b, c, d, r, rfl⟩
section
variable {T : Tbl} {M : Nat -> Bool} {st : St} {K : V -> St -> Prop} {Kp : List PanicEntry -> St -> Prop}
theorem number4_v {n : Int} (hK : K (.own st.length 4 0 4) (st ++ [.row 5 1 (bys (low4 n))])) : CallV Tryz.prog T M 105 [I n] st K Kp := by
 refine fun_ok hmix c_number4 (le_of rfl) ?_
 simp [F_number4]
 exact hK
theorem low_v {n : Int} (hK : K (.own st.length 4 0 4) (st ++ [.row 5 1 (bys (low4 n))])) : CallV Tryz.prog T M 107 [I n] st K Kp := by
 refine fun_ok hmix c_low (le_of rfl) ?_
 simp [F_low]
 exact hK
theorem read4_v {f : Bool} {l : List Int} (hl : 4 <= l.length) (hK : K (I (wide4 l)) st) : CallV Tryz.prog T M 109 [.lst f (bys l)] st K Kp := by
 refine fun_ok hmix c_read4 (le_of rfl) ?_
 obtain ⟨a, b, c, d, r, rfl⟩ := four hl
 simp [F_read4, bys]
 refine wp_mflat [] [] ?_
 simp
 exact hK
theorem wide_v {f : Bool} {l : List Int} (hl : 4 <= l.length) (hK : K (I (wide4 l)) st) : CallV Tryz.prog T M 62 [.lst f (bys l)] st K Kp := by
 refine fun_ok hmix c_wide (le_of rfl) ?_
 obtain ⟨a, b, c, d, r, rfl⟩ := four hl
 simp [F_wide, bys]
 refine wp_mflat [] [] ?_
 simp
 exact hK
theorem sealed_v {v : V} {l : List Int} (hne : l ≠ []) (hv : RB st v l) (hb : isB l) (hlen : l.length <= 1000000) (hK : ∀ g, K (.lst g (bys (sealB l))) st) : CallV Tryz.prog T M 57 [v] st K Kp := by
 refine CallV.give (fun_ok hmix c_sealed (le_of rfl) ?_)
 simp [F_sealed]
 refine code_v hv.rd hb (by omega) ?_
 refine number4_v ?_
 have hk : KeepL st (st ++ [.row 5 1 (bys (low4 (codeB l)))]) := (KeepL.refl st).more _
 have o : OutS st.length 5 1 (st ++ [.row 5 1 (bys (low4 (codeB l)))]) (.own st.length 4 0 4) (bys (low4 (codeB l))) := Or.inr ⟨st.length, Nat.le_refl _, by simp, rfl⟩
 have h4 : (bys (low4 (codeB l))).length = 4 := rfl
 refine app_out o (by simp) ((hv.keep hk).rd) (bys_one l) (Or.inl ?_) (fun b L hb _ j => by simp [upM, hb]) (by rw [h4, bys_len]; omega) (by rw [h4, bys_len]; omega) fun v' s' o' hl' hb' hk' hn' => ?_
 ·simpa [bys] using hne
 ·rw [<- bys_append] at o'
  obtain ⟨gg, hfr⟩ := o'.frz (bys_cells _)
  have k : KeepL st s' := ⟨by simp at hl'; omega, fun b hb => by rw [hb' b hb, List.getElem?_append_left hb]⟩
  exact ⟨_, hfr, k.low, by rw [k.take]; exact hK gg⟩
theorem RB.one {v : V} {l : List Int} (h : RB st v l) : v.cells = [v] /\ v.leaf = true /\ v.cok = true := by
 have := h.rd
 cases v <;> first | exact ⟨rfl, rfl, rfl⟩ | cases this
theorem rcoded_v {v : V} {l : List Int} (hv : RB st v l) (hb : isB l) (hlen : l.length <= 1000000) (hK : ∀ g, K (.lst g (bys (sealB l))) st) : CallV Tryz.prog T M 58 [v] st K Kp := by
 refine CallV.give (fun_ok hmix c_coded (le_of rfl) ?_)
 obtain ⟨q1, q2, q3⟩ := hv.one
 simp [F_coded]
 refine coded_v hv.rd hb (by omega) ?_
 refine low_v ?_
 have h4 : (low4 (codeB l)).length = 4 := rfl
 have hs : sealB l = low4 (codeB l) ++ l := rfl
 generalize low4 (codeB l) = q at h4 hs
 rw [hs] at hK
 simp [q1, q2]
 have hk : KeepL st (st ++ [.row 5 1 (bys q), .row 31 1 [.own st.length 4 0 4, v]]) := (KeepL.refl st).more _
 have ho : RB (st ++ [.row 5 1 (bys q), .row 31 1 [.own st.length 4 0 4, v]]) (.own st.length 4 0 4) q := by
  have := RB.own (st := st ++ [.row 5 1 (bys q), .row 31 1 [.own st.length 4 0 4, v]]) (b := st.length) (l := q) (by simp)
  rwa [h4] at this
 refine concB_v (vs := [.own st.length 4 0 4, v]) (ls := [q, l]) (rb := st.length + 1) (by simp) rfl (fun i x y hx hy => ?_) (fun x hx => ?_) (by simp) (by simp [tl, h4]; omega) fun g => ?_
 ·match i with
  | 0 => cases hx; cases hy; exact ho
  | 1 => cases hx; cases hy; exact hv.keep hk
 ·simp at hx
  rcases hx with rfl | rfl
  ·rfl
  ·exact q1
 ·exact ⟨_, .same _ rfl, hk.low, by rw [hk.take]; simpa using hK g⟩
theorem intact_v {f : Bool} {l : List Int} (hl : 4 <= l.length) (hb : isB l) (hlen : l.length <= 1000000) (hK : K (Bo (wide4 l == codeB (l.drop 4))) st) : CallV Tryz.prog T M 61 [.lst f (bys l)] st K Kp := by
 refine fun_ok hmix c_intact (le_of rfl) ?_
 simp [F_intact]
 refine wp_mflat [] [] ?_
 simp [bys_tail l 4, hl]
 refine ⟨bys_one l, ?_⟩
 refine read4_v hl ?_
 refine code_v (l := l.drop 4) (by simp) (hb.drop 4) (by simp; omega) ?_
 simp [binV]
 exact hK
def topM (m : LModel) (v : Int) : LModel := if v = 1 then { m with top := 0 } else m
def fileM (m : LModel) (v : Int) : List Int := sealB ([119, 109, IntKind.u8.wrap v] ++ mbytes (topM m v))
def wE (m : LModel) (v : Int) : Int := if chkM m ≠ 0 then chkM m else if v ≠ 1 /\ v ≠ 2 then 1 else if v = 1 /\ m.top ≠ m.vocab then 17 else 0
theorem topM_lists (m : LModel) (v : Int) : listsM (topM m v) = listsM m := by unfold topM; split <;> rfl
theorem rFile_v {fl : Nat -> Bool} {m : LModel} {v : Int} (hl : ∀ x ∈ listsM m, x.length <= 2000) (hK : ∀ g, K (.lst g (bys (fileM m v))) st) : CallV Tryz.prog T M 19 [encM fl m, I v] st K Kp := by
 refine CallV.give (fun_ok hmix c_rFile (le_of rfl) ?_)
 have hlt : ∀ x ∈ listsM (topM m v), x.length <= 2000 := by rw [topM_lists]; exact hl
 have hml := mbytes_len _ hlt
 have hib : isB ([119, 109, IntKind.u8.wrap v] ++ mbytes (topM m v)) := isB.app (fun x hx => by
  simp at hx
  have := u8_rng v
  rcases hx with rfl | rfl | rfl <;> omega) (mbytes_isB _)
 have tail : ∀ (fr : Fr) (s : St), KeepL st s -> s.length = st.length + 1 -> s[st.length]? = some (mB fl (topM m v)) -> fr.g 1 = I v -> fr.g 2 = .ptr st.length 1 0 0 -> fr.df = [] -> wpM Tryz.prog T (liftM (upM st.length M)) F_rFile.code.r.r (Fin F_rFile.res (fun v st' => ∃ v', Frz st.length st' v v' /\ LowSt st st' /\ K v' (st'.take st.length)) (fun c st' => LowSt st st' /\ Kp c (st'.take st.length))) fr s := fun fr s hk hsl hm z1 z2 zdf => by
  have hm' := hm
  simp only [mB, encM] at hm'
  obtain ⟨q, hq⟩ : ∃ q, s.length = q := ⟨_, rfl⟩
  simp [F_rFile, MC.r, z1, z2, get_more hm']
  rw [<- encM]
  refine rBytes_v (fl := fl) hlt fun gg => ?_
  simp
  refine concB_v (vs := [.own s.length 3 0 3, .lst gg (bys (mbytes (topM m v)))]) (ls := [[119, 109, IntKind.u8.wrap v], mbytes (topM m v)]) (rb := s.length + 1) (by simp) rfl (fun i x y hx hy => ?_) (fun x hx => ?_) (by simp) (by simp [tl]; omega) fun g => ?_
  ·match i with
   | 0 => cases hx; cases hy; exact RB.own (l := [119, 109, IntKind.u8.wrap v]) (by simp [bys])
   | 1 => cases hx; cases hy; exact RB.frz _ _
  ·simp at hx
   rcases hx with rfl | rfl <;> rfl
  ·refine rcoded_v (RB.frz _ _) (by simpa using hib) (by simp; omega) fun g2 => ?_
   simp [zdf]
   exact ⟨_, .same _ rfl, (hk.more _).low, by rw [(hk.more _).take]; simpa [fileM] using hK g2⟩
 have e1 : F_rFile.code = .seq F_rFile.code.l (.seq F_rFile.code.r.l F_rFile.code.r.r) := rfl
 generalize F_rFile.code.r.r = cT at tail e1
 rw [e1]
 simp [F_rFile, MC.l, MC.r, encM]
 by_cases h1 : v = 1
 ·subst h1
  simp
  exact tail _ _ ((KeepL.refl st).more _) (by simp) (by simp [topM, mB, encM]) (by simp) (by simp) (by simp)
 ·have h1' : (v == 1) = false := by simpa using h1
  simp [h1']
  exact tail _ _ ((KeepL.refl st).more _) (by simp) (by simp [topM, h1, mB, encM]) (by simp) (by simp) (by simp)
def repB (l : List Int) : List Int := if l.length < 5 then l else sealB (l.drop 4)
theorem repB_isB {l : List Int} (h : isB l) : isB (repB l) := by
 unfold repB
 split
 ·exact h
 ·exact isB.app (low4_isB _) (h.drop 4)
theorem repB_len (l : List Int) : (repB l).length = l.length := by
 unfold repB
 split
 ·rfl
 ·have h4 : (low4 (codeB (l.drop 4))).length = 4 := rfl
  rw [sealB, List.length_append, h4, List.length_drop]
  omega
theorem repaired_v {f : Bool} {l : List Int} (hb : isB l) (hlen : l.length <= 1000000) (hK : ∀ g, K (.lst g (bys (repB l))) st) : CallV Tryz.prog T M 20 [.lst f (bys l)] st K Kp := by
 refine CallV.give (fun_ok hmix c_repaired (le_of rfl) ?_)
 by_cases h5 : l.length < 5
 ·have hr : repB l = l := if_pos h5
  rw [hr] at hK
  have h5' : (l.length : Int) < 5 := by omega
  simp [F_repaired, h5']
  exact ⟨_, .same _ rfl, (KeepL.refl st).low, hK f⟩
 ·have hr : repB l = sealB (l.drop 4) := if_neg h5
  rw [hr] at hK
  have h5' : ¬ (l.length : Int) < 5 := by omega
  have h4l : 4 <= l.length := by omega
  simp [F_repaired, h5', bys_tail l 4, h4l]
  refine ⟨bys_one l, ?_⟩
  refine coded_v (l := l.drop 4) rfl (hb.drop 4) (by simp; omega) ?_
  have hs : sealB (l.drop 4) = low4 (codeB (l.drop 4)) ++ l.drop 4 := rfl
  have h4 : (low4 (codeB (l.drop 4))).length = 4 := rfl
  have hq : bys (low4 (codeB (l.drop 4))) = [.val (.int .u8 (IntKind.u8.wrap (codeB (l.drop 4)))), .val (.int .u8 (IntKind.u8.wrap ((codeB (l.drop 4)).fdiv (2 ^ min 8 IntKind.i64.bits)))), .val (.int .u8 (IntKind.u8.wrap ((codeB (l.drop 4)).fdiv (2 ^ min 16 IntKind.i64.bits)))), .val (.int .u8 (IntKind.u8.wrap ((codeB (l.drop 4)).fdiv (2 ^ min 24 IntKind.i64.bits))))] := rfl
  simp
  rw [<- hq]
  refine ⟨bys_one l, ?_⟩
  generalize low4 (codeB (l.drop 4)) = q at h4 hs
  rw [hs] at hK
  have hk : KeepL st (st ++ [.row 5 1 (bys q), .row 31 1 [.own st.length 4 0 4, .lst f (bys (l.drop 4))]]) := (KeepL.refl st).more _
  have ho : RB (st ++ [.row 5 1 (bys q), .row 31 1 [.own st.length 4 0 4, .lst f (bys (l.drop 4))]]) (.own st.length 4 0 4) q := by
   have := RB.own (st := st ++ [.row 5 1 (bys q), .row 31 1 [.own st.length 4 0 4, .lst f (bys (l.drop 4))]]) (b := st.length) (l := q) (by simp)
   rwa [h4] at this
  refine concB_v (vs := [.own st.length 4 0 4, .lst f (bys (l.drop 4))]) (ls := [q, l.drop 4]) (rb := st.length + 1) (by simp) rfl (fun i x y hx hy => ?_) (fun x hx => ?_) (by simp) (by simp [tl, h4]; omega) fun g => ?_
  ·match i with
   | 0 => cases hx; cases hy; exact ho
   | 1 => cases hx; cases hy; exact RB.frz _ _
  ·simp at hx
   rcases hx with rfl | rfl <;> rfl
  ·simp
   exact ⟨_, .same _ rfl, hk.low, by simpa using hK g⟩
theorem frz2 {n : Nat} {s : St} {a b : V} (ha : Frz n s a a) (hb : Frz n s b b) : Frz n s (.tup [a, b]) (.tup [a, b]) := by
 refine .tup _ _ rfl fun i x y hx hy => ?_
 rw [hx] at hy
 cases hy
 match i with
 | 0 => cases hx; exact ha
 | 1 => cases hx; exact hb
 | i + 2 => cases hx
theorem frz3 {n : Nat} {s : St} {a b c : V} (ha : Frz n s a a) (hb : Frz n s b b) (hc : Frz n s c c) : Frz n s (.tup [a, b, c]) (.tup [a, b, c]) := by
 refine .tup _ _ rfl fun i x y hx hy => ?_
 rw [hx] at hy
 cases hy
 match i with
 | 0 => cases hx; exact ha
 | 1 => cases hx; exact hb
 | 2 => cases hx; exact hc
 | i + 3 => cases hx
theorem packU_ne (f : Nat) (u : Int) : packU f u ≠ [] := by
 cases f with
 | zero => simp [packU]
 | succ f => unfold packU; split <;> simp
theorem mWrite_v {fl : Nat -> Bool} {m : LModel} {v : Int} (hl : ∀ x ∈ listsM m, x.length <= 2000) (hK : ∀ g, K (.tup [.lst g (bys (if wE m v = 0 then fileM m v else [])), I (wE m v)]) st) : CallV Tryz.prog T M 18 [encM fl m, I v] st K Kp := by
 refine CallV.give (fun_ok hmix c_mWrite (le_of rfl) ?_)
 have hs : sumLen (listsM m) <= 14000 := by
  have h : ∀ x ∈ listsM m, x.length <= 2000 := hl
  simp [listsM] at h
  simp [listsM, sumLen]
  omega
 have hlt : ∀ x ∈ listsM (topM m v), x.length <= 2000 := by rw [topM_lists]; exact hl
 have hml := mbytes_len _ hlt
 have hib : isB ([119, 109, IntKind.u8.wrap v] ++ mbytes (topM m v)) := isB.app (fun x hx => by
  simp at hx
  have := u8_rng v
  rcases hx with rfl | rfl | rfl <;> omega) (mbytes_isB _)
 have fail : ∀ e : Int, e ≠ 0 -> wE m v = e -> ∀ s, ∃ v', Frz st.length (st ++ s) (.tup [.lst true [], I e]) v' /\ LowSt st (st ++ s) /\ K v' st := fun e he hw s => by
  refine ⟨_, frz2 (.same _ rfl) (.same _ rfl), ((KeepL.refl st).more _).low, ?_⟩
  have := hK true
  rw [hw, if_neg he] at this
  exact this
 have tail : wE m v = 0 -> ∀ (fr : Fr) (s : St), KeepL st s -> s.length = st.length + 1 -> s[st.length]? = some (mB fl (topM m v)) -> fr.g 1 = I v -> fr.g 2 = .ptr st.length 1 0 0 -> fr.df = [] -> wpM Tryz.prog T (liftM (upM st.length M)) F_mWrite.code.r.r.r (Fin F_mWrite.res (fun v st' => ∃ v', Frz st.length st' v v' /\ LowSt st st' /\ K v' (st'.take st.length)) (fun c st' => LowSt st st' /\ Kp c (st'.take st.length))) fr s := fun hw fr s hk hsl hm z1 z2 zdf => by
  have hm' := hm
  simp only [mB, encM] at hm'
  simp [F_mWrite, MC.r, z1, z2, get_more hm']
  rw [<- encM]
  refine bytesOf_v (fl := fl) hlt fun gg => ?_
  have o : OutS st.length 5 1 (s ++ [.row 5 1 (bys [119, 109, IntKind.u8.wrap v])]) (.own s.length 3 0 3) (bys [119, 109, IntKind.u8.wrap v]) := Or.inr ⟨s.length, hk.len, by simp, rfl⟩
  have hne : bys (mbytes (topM m v)) ≠ [] \/ bys [119, 109, IntKind.u8.wrap v] = [] := by
   refine Or.inl fun e => ?_
   have h0 : mbytes (topM m v) = [] := by simpa [bys] using e
   simp only [mbytes, packS, List.append_eq_nil_iff, List.flatMap_cons] at h0
   exact packU_ne _ _ h0.1.1
  refine app_out o (by simp; omega) rfl (bys_one _) hne (fun b L hb _ j => by simp [upM, hb]) (by simp; omega) (by simp; omega) fun v' s' o' hl' hb' hk' hn' => ?_
  rw [<- bys_append] at o'
  have k : KeepL st s' := ⟨by simp at hl'; omega, fun b hb => by rw [hb' b hb, List.getElem?_append_left (by omega)]; exact hk.get b hb⟩
  have hrb : RB s' v' ([119, 109, IntKind.u8.wrap v] ++ mbytes (topM m v)) := by
   rcases o' with ⟨h, -⟩ | ⟨b, h1, h2, rfl⟩
   ·simp [bys] at h
   ·have := RB.own h2
    simpa using this
  refine sealed_v (by simp) hrb hib (by simp; omega) fun g2 => ?_
  simp [zdf]
  have := hK g2
  rw [hw, if_pos rfl] at this
  exact ⟨_, frz2 (.same _ rfl) (.same _ rfl), k.low, by rw [k.take]; simpa [fileM] using this⟩
 have e1 : F_mWrite.code = .seq F_mWrite.code.l (.seq F_mWrite.code.r.l (.seq F_mWrite.code.r.r.l F_mWrite.code.r.r.r)) := rfl
 generalize F_mWrite.code.r.r.r = cT at tail e1
 rw [e1]
 simp [F_mWrite, MC.l, MC.r, encM]
 rw [<- encM]
 refine check_s fl (by omega) ?_
 by_cases hc : chkM m = 0
 ·have hcb : (chkM m != 0) = false := by simpa using hc
  simp [hcb, encM]
  by_cases h1 : v = 1
  ·subst h1
   by_cases ht : m.top = m.vocab
   ·have hw : wE m 1 = 0 := by unfold wE; rw [if_neg (fun h => h hc), if_neg (by omega), if_neg (fun h => h.2 ht)]
    simp [ht]
    exact tail hw _ _ ((KeepL.refl st).more _) (by simp) (by simp [topM, mB, encM]) (by simp) (by simp) (by simp)
   ·have hw : wE m 1 = 17 := by unfold wE; rw [if_neg (fun h => h hc), if_neg (by omega), if_pos ⟨rfl, ht⟩]
    have htb : (m.top != m.vocab) = true := by simpa using ht
    simp [htb]
    exact fail 17 (by omega) hw _
  ·by_cases h2 : v = 2
   ·subst h2
    have hw : wE m 2 = 0 := by unfold wE; rw [if_neg (fun h => h hc), if_neg (by omega), if_neg (by omega)]
    simp
    exact tail hw _ _ ((KeepL.refl st).more _) (by simp) (by simp [topM, mB, encM]) (by simp) (by simp) (by simp)
   ·have hw : wE m v = 1 := by unfold wE; rw [if_neg (fun h => h hc), if_pos ⟨h1, h2⟩]
    have h1n : (v != 1) = true := by simpa using h1
    have h2n : (v != 2) = true := by simpa using h2
    simp [h1n, h2n, h1]
    exact fail 1 (by omega) hw _
 ·have hcb : (chkM m != 0) = true := by simpa using hc
  have hw : wE m v = chkM m := by unfold wE; rw [if_pos hc]
  simp [hcb]
  exact fail (chkM m) hc hw _
end
end Go.Proofs.YtkcdgaijklhnaaaGreatDoor.Vm
namespace Go.Proofs.YtkcdgaijklhnaaaGreatDoor.Vm
open Go.RowKit
def MC.yes : MC -> MC
 | .cond _ a _ => a
 | c => c
def MC.no : MC -> MC
 | .cond _ _ b => b
 | c => c
section
variable {T : Tbl} {M : Nat -> Bool} {st : St} {K : V -> St -> Prop} {Kp : List PanicEntry -> St -> Prop}
def opM (l : List Int) : LModel × Int × Int :=
 if l.length < 7 then (zM, 0, 11) else if wide4 l ≠ codeB (l.drop 4) then (zM, 0, 12)
 else if l[4]? ≠ some 119 \/ l[5]? ≠ some 109 \/ (l[6]? ≠ some 1 /\ l[6]? ≠ some 2) then (zM, 0, 4)
 else if (pAll (l.drop 7)).2 ≠ 0 then (zM, 0, (pAll (l.drop 7)).2)
 else if l[6]? = some 1 then (if (pAll (l.drop 7)).1.top ≠ 0 then (zM, 0, 3)
  else if chkM { (pAll (l.drop 7)).1 with top := (pAll (l.drop 7)).1.vocab } ≠ 0 then (zM, 0, chkM { (pAll (l.drop 7)).1 with top := (pAll (l.drop 7)).1.vocab })
  else ({ (pAll (l.drop 7)).1 with top := (pAll (l.drop 7)).1.vocab }, 1, 0))
 else if chkM (pAll (l.drop 7)).1 ≠ 0 then (zM, 0, chkM (pAll (l.drop 7)).1) else ((pAll (l.drop 7)).1, 2, 0)
theorem seven {l : List Int} (h : 7 <= l.length) : ∃ a b c d e f g r, l = a :: b :: c :: d :: e :: f :: g :: r := by
 match l, h with
 | a :: b :: c :: d :: e :: f :: g :: r, _ => exact ⟨a, b, c, d, e, f, g, r, rfl⟩
set_option maxHeartbeats 1000000 in
set_option maxRecDepth 20000 in
theorem mOpen_v {f : Bool} {l : List Int} (hb : isB l) (hlen : l.length <= 1000000) (hK : ∀ fl, K (.tup [encM fl (opM l).1, I (opM l).2.1, I (opM l).2.2]) st) : CallV Tryz.prog T M 21 [.lst f (bys l)] st K Kp := by
 refine CallV.give (fun_ok hmix c_mOpen (le_of rfl) ?_)
 have fin : ∀ (fl : Nat -> Bool) (m : LModel) (v e : Int) (s : St), opM l = (m, v, e) -> ∃ v', Frz st.length (st ++ s) (.tup [encM fl m, I v, I e]) v' /\ LowSt st (st ++ s) /\ K v' st := fun fl m v e s h => by
  refine ⟨_, frz3 (encM_frz _ _ fl m) (.same _ rfl) (.same _ rfl), ((KeepL.refl st).more _).low, ?_⟩
  have := hK fl
  rw [h] at this
  exact this
 have finz := fun e s h => fin (fun _ => true) zM 0 e s h
 simp only [encM, zM, ints, List.map_nil] at finz
 have e1 : F_mOpen.code = .seq F_mOpen.code.l (.seq F_mOpen.code.r.l F_mOpen.code.r.r) := rfl
 by_cases h7 : l.length < 7
 ·have ho : opM l = (zM, 0, 11) := by unfold opM; rw [if_pos h7]
  have h7' : (l.length : Int) < 7 := by omega
  generalize F_mOpen.code.r.r = cT at e1
  rw [e1]
  have e2 : F_mOpen.code.r.l = .block 0 (.seq F_mOpen.code.r.l.bb.l (.cond (.t 8) F_mOpen.code.r.l.bb.r.yes F_mOpen.code.r.l.bb.r.no)) := rfl
  rw [e2]
  generalize F_mOpen.code.r.l.bb.r.no = cN
  simp [F_mOpen, MC.l, MC.r, MC.bb, MC.yes, h7']
  exact finz 11 _ ho
 ·obtain ⟨b0, b1, b2, b3, b4, b5, b6, r, hl⟩ := seven (l := l) (by omega)
  have h7' : ¬ (l.length : Int) < 7 := by omega
  have hby : bys l = .val (.int .u8 b0) :: .val (.int .u8 b1) :: .val (.int .u8 b2) :: .val (.int .u8 b3) :: .val (.int .u8 b4) :: .val (.int .u8 b5) :: .val (.int .u8 b6) :: bys r := by rw [hl]; rfl
  have g4 : l[4]? = some b4 := by rw [hl]; rfl
  have g5 : l[5]? = some b5 := by rw [hl]; rfl
  have g6 : l[6]? = some b6 := by rw [hl]; rfl
  have i4 : (bys l)[4]? = some (.val (.int .u8 b4)) := by rw [hby]; rfl
  have i5 : (bys l)[5]? = some (.val (.int .u8 b5)) := by rw [hby]; rfl
  have i6 : (bys l)[6]? = some (.val (.int .u8 b6)) := by rw [hby]; rfl
  have tail : ∀ (fr : Fr), b4 = 119 -> b5 = 109 -> (b6 = 1 \/ b6 = 2) -> wide4 l = codeB (l.drop 4) -> fr.g 0 = .lst f (bys l) -> fr.g 2 = .ptr st.length 1 0 0 -> fr.df = [] -> wpM Tryz.prog T (liftM (upM st.length M)) F_mOpen.code.r.r (Fin F_mOpen.res (fun v st' => ∃ v', Frz st.length st' v v' /\ LowSt st st' /\ K v' (st'.take st.length)) (fun c st' => LowSt st st' /\ Kp c (st'.take st.length))) fr (st ++ [mdl 0 0 0 0 nils]) := fun fr q4 q5 q6 hw z0 z2 zdf => by
   have hop : opM l = if (pAll (l.drop 7)).2 ≠ 0 then (zM, 0, (pAll (l.drop 7)).2)
     else if b6 = 1 then (if (pAll (l.drop 7)).1.top ≠ 0 then (zM, 0, 3)
      else if chkM { (pAll (l.drop 7)).1 with top := (pAll (l.drop 7)).1.vocab } ≠ 0 then (zM, 0, chkM { (pAll (l.drop 7)).1 with top := (pAll (l.drop 7)).1.vocab })
      else ({ (pAll (l.drop 7)).1 with top := (pAll (l.drop 7)).1.vocab }, 1, 0))
     else if chkM (pAll (l.drop 7)).1 ≠ 0 then (zM, 0, chkM (pAll (l.drop 7)).1) else ((pAll (l.drop 7)).1, 2, 0) := by
    unfold opM
    rw [if_neg h7, if_neg (fun h => h hw), g4, g5, g6, if_neg (by rw [q4, q5]; rcases q6 with rfl | rfl <;> simp)]
    simp
   have hib := hb.drop 7
   have hsum := pAll_sum hib
   have hll : (l.drop 7).length <= l.length := by simp
   have e3 : F_mOpen.code.r.r = .seq F_mOpen.code.r.r.l (.seq F_mOpen.code.r.r.r.l (.seq F_mOpen.code.r.r.r.r.l (.seq F_mOpen.code.r.r.r.r.r.l F_mOpen.code.r.r.r.r.r.r))) := rfl
   -- behind the parse: what is done with a model
   have last : ∀ (fr : Fr) (fl : Nat -> Bool) (m : LModel) (v : Int) (s : St), sumLen (listsM m) <= 1000000 -> (chkM m ≠ 0 -> opM l = (zM, 0, chkM m)) -> (chkM m = 0 -> opM l = (m, v, 0)) -> s = st ++ [mdl 0 0 0 0 nils, mB fl m] -> fr.g 2 = .ptr st.length 1 0 0 -> fr.g 5 = I v -> fr.g 6 = .ptr (st.length + 1) 1 0 0 -> fr.df = [] -> wpM Tryz.prog T (liftM (upM st.length M)) F_mOpen.code.r.r.r.r.r.r (Fin F_mOpen.res (fun v st' => ∃ v', Frz st.length st' v v' /\ LowSt st st' /\ K v' (st'.take st.length)) (fun c st' => LowSt st st' /\ Kp c (st'.take st.length))) fr s := fun fr fl m v s hsm k1 k2 hs z2 z5 z6 zdf => by
    subst hs
    simp [F_mOpen, MC.r, z6, mB, encM]
    rw [<- encM]
    refine mchecked_v (fl := fl) hsm fun fl2 => ?_
    by_cases hc : chkM m = 0
    ·simp [hc, encM, z2, z5, mdl, zdf]
     exact fin fl2 m v 0 _ (k2 hc)
    ·have hcb : (chkM m != 0) = true := by simpa using hc
     simp [hc, hcb, encM, zM, z2, mdl, zdf]
     exact finz _ _ (k1 hc)
   generalize F_mOpen.code.r.r.r.r.r.r = c5 at last e3
   rw [e3]
   generalize hc4 : F_mOpen.code.r.r.r.r.r.l = c4
   simp [F_mOpen, MC.l, MC.r, z0, i6, bys_tail l 7, show 7 <= l.length by omega]
   refine ⟨bys_one l, ?_⟩
   refine mparse_v hib (by omega) fun fl => ?_
   generalize pAll (l.drop 7) = pp at hop hsum
   obtain ⟨m, e⟩ := pp
   simp only at hop hsum
   by_cases he : e = 0
   ·subst he
    simp [encM]
    rw [<- encM]
    have hw6 : IntKind.i64.wrap b6 = b6 := by rcases q6 with rfl | rfl <;> rfl
    rw [<- hc4]
    by_cases h1 : b6 = 1
    ·subst h1
     by_cases ht : m.top = 0
     ·simp [F_mOpen, MC.l, MC.r, hw6, encM, ht]
      refine last _ fl { m with top := m.vocab } 1 _ (by simp [listsM] at hsum ⊢; omega) (fun h => ?_) (fun h => ?_) ?_ ?_ ?_ ?_ ?_
      ·rw [hop]; simp [ht, h]
      ·rw [hop]; simp [ht, h]
      ·simp [mdl, mB, encM]
      ·simp [z2]
      ·simp
      ·simp
      ·simp [zdf]
     ·have htb : (m.top != 0) = true := by simpa using ht
      simp [F_mOpen, MC.l, MC.r, hw6, encM, htb, z2, mdl, zdf]
      exact finz 3 _ (by rw [hop]; simp [ht]; rfl)
    ·have h2 : b6 = 2 := by rcases q6 with h | h; exact absurd h h1; exact h
     subst h2
     simp [F_mOpen, MC.l, MC.r, hw6]
     refine last _ fl m 2 _ (by omega) (fun h => ?_) (fun h => ?_) ?_ ?_ ?_ ?_ ?_
     ·rw [hop]; simp [h]
     ·rw [hop]; simp [h]
     ·simp [mdl, mB, encM]
     ·simp [z2]
     ·simp
     ·simp
     ·simp [zdf]
   ·have heb : (e != 0) = true := by simpa using he
    simp [encM, heb, z2, mdl, zdf]
    exact finz e _ (by rw [hop]; simp [he]; rfl)
  generalize F_mOpen.code.r.r = cT at tail e1
  rw [e1]
  have e2 : F_mOpen.code.r.l = .block 0 (.seq F_mOpen.code.r.l.bb.l (.cond (.t 8) F_mOpen.code.r.l.bb.r.yes (.seq F_mOpen.code.r.l.bb.r.no.l (.cond (.t 13) F_mOpen.code.r.l.bb.r.no.r.yes F_mOpen.code.r.l.bb.r.no.r.no)))) := rfl
  rw [e2]
  generalize hcY : F_mOpen.code.r.l.bb.r.no.r.yes = cY
  generalize hcN : F_mOpen.code.r.l.bb.r.no.r.no = cN
  simp [F_mOpen, MC.l, MC.r, MC.bb, MC.yes, MC.no, h7']
  refine intact_v (by omega) hb hlen ?_
  by_cases hw : wide4 l = codeB (l.drop 4)
  ·simp [hw]
   rw [<- hcN]
   have bad : ∀ h : l[4]? ≠ some 119 \/ l[5]? ≠ some 109 \/ (l[6]? ≠ some 1 /\ l[6]? ≠ some 2), opM l = (zM, 0, 4) := fun h => by
    unfold opM
    rw [if_neg h7, if_neg (fun h => h hw), if_pos h]
   rw [g4, g5, g6] at bad
   by_cases q4 : b4 = 119
   ·by_cases q5 : b5 = 109
    ·by_cases q6 : b6 = 1
     ·simp [F_mOpen, MC.l, MC.r, MC.bb, MC.no, i4, i5, i6, q4, q5, q6]
      exact tail _ q4 q5 (Or.inl q6) hw (by simp) (by simp) (by simp)
     ·by_cases q7 : b6 = 2
      ·simp [F_mOpen, MC.l, MC.r, MC.bb, MC.no, i4, i5, i6, q4, q5, q7]
       exact tail _ q4 q5 (Or.inr q7) hw (by simp) (by simp) (by simp)
      ·have n6 : (b6 != 1) = true := by simpa using q6
       have n7 : (b6 != 2) = true := by simpa using q7
       simp [F_mOpen, MC.l, MC.r, MC.bb, MC.no, i4, i5, i6, q4, q5, n6, n7]
       exact finz 4 _ (bad (Or.inr (Or.inr ⟨by simpa using q6, by simpa using q7⟩)))
    ·have n5 : (b5 != 109) = true := by simpa using q5
     simp [F_mOpen, MC.l, MC.r, MC.bb, MC.no, i4, i5, q4, n5]
     exact finz 4 _ (bad (Or.inr (Or.inl (by simpa using q5))))
   ·have n4 : (b4 != 119) = true := by simpa using q4
    simp [F_mOpen, MC.l, MC.r, MC.bb, MC.no, i4, n4]
    exact finz 4 _ (bad (Or.inl (by simpa using q4)))
  ·have ho : opM l = (zM, 0, 12) := by unfold opM; rw [if_neg h7, if_pos hw]
   have hwb : (wide4 l == codeB (l.drop 4)) = false := by simpa using hw
   simp [hwb]
   rw [<- hcY]
   simp [F_mOpen, MC.l, MC.r, MC.bb, MC.yes, MC.no]
   exact finz 12 _ ho
set_option maxHeartbeats 1000000 in
set_option maxRecDepth 20000 in
theorem rOpen_v {f : Bool} {l : List Int} (hb : isB l) (hlen : l.length <= 1000000) (hK : ∀ fl, K (.tup [encM fl (opM l).1, I (opM l).2.1, I (opM l).2.2]) st) : CallV Tryz.prog T M 22 [.lst f (bys l)] st K Kp := by
 refine CallV.give (fun_ok hmix c_rOpen (le_of rfl) ?_)
 have fin : ∀ (fl : Nat -> Bool) (m : LModel) (v e : Int) (s : St), opM l = (m, v, e) -> ∃ v', Frz st.length (st ++ s) (.tup [encM fl m, I v, I e]) v' /\ LowSt st (st ++ s) /\ K v' st := fun fl m v e s h => by
  refine ⟨_, frz3 (encM_frz _ _ fl m) (.same _ rfl) (.same _ rfl), ((KeepL.refl st).more _).low, ?_⟩
  have := hK fl
  rw [h] at this
  exact this
 have finz := fun e s h => fin (fun _ => true) zM 0 e s h
 simp only [encM, zM, ints, List.map_nil] at finz
 have e1 : F_rOpen.code = .seq F_rOpen.code.l (.seq F_rOpen.code.r.l F_rOpen.code.r.r) := rfl
 by_cases h7 : l.length < 7
 ·have ho : opM l = (zM, 0, 11) := by unfold opM; rw [if_pos h7]
  have h7' : (l.length : Int) < 7 := by omega
  generalize F_rOpen.code.r.r = cT at e1
  rw [e1]
  have e2 : F_rOpen.code.r.l = .block 0 (.seq F_rOpen.code.r.l.bb.l (.cond (.t 7) F_rOpen.code.r.l.bb.r.yes F_rOpen.code.r.l.bb.r.no)) := rfl
  rw [e2]
  generalize F_rOpen.code.r.l.bb.r.no = cN
  simp [F_rOpen, MC.l, MC.r, MC.bb, MC.yes, h7']
  exact finz 11 _ ho
 ·obtain ⟨b0, b1, b2, b3, b4, b5, b6, r, hl⟩ := seven (l := l) (by omega)
  have h7' : ¬ (l.length : Int) < 7 := by omega
  have hby : bys l = .val (.int .u8 b0) :: .val (.int .u8 b1) :: .val (.int .u8 b2) :: .val (.int .u8 b3) :: .val (.int .u8 b4) :: .val (.int .u8 b5) :: .val (.int .u8 b6) :: bys r := by rw [hl]; rfl
  have g4 : l[4]? = some b4 := by rw [hl]; rfl
  have g5 : l[5]? = some b5 := by rw [hl]; rfl
  have g6 : l[6]? = some b6 := by rw [hl]; rfl
  have i4 : (bys l)[4]? = some (.val (.int .u8 b4)) := by rw [hby]; rfl
  have i5 : (bys l)[5]? = some (.val (.int .u8 b5)) := by rw [hby]; rfl
  have i6 : (bys l)[6]? = some (.val (.int .u8 b6)) := by rw [hby]; rfl
  have r6 : 0 <= b6 /\ b6 <= 255 := hb b6 (List.mem_of_getElem? g6)
  have tail : ∀ (fr : Fr), b4 = 119 -> b5 = 109 -> (b6 = 1 \/ b6 = 2) -> wide4 l = codeB (l.drop 4) -> fr.g 0 = .lst f (bys l) -> fr.g 2 = .ptr st.length 1 0 0 -> fr.df = [] -> wpM Tryz.prog T (liftM (upM st.length M)) F_rOpen.code.r.r (Fin F_rOpen.res (fun v st' => ∃ v', Frz st.length st' v v' /\ LowSt st st' /\ K v' (st'.take st.length)) (fun c st' => LowSt st st' /\ Kp c (st'.take st.length))) fr (st ++ [mdl 0 0 0 0 nils]) := fun fr q4 q5 q6 hw z0 z2 zdf => by
   have hop : opM l = if (pAll (l.drop 7)).2 ≠ 0 then (zM, 0, (pAll (l.drop 7)).2)
     else if b6 = 1 then (if (pAll (l.drop 7)).1.top ≠ 0 then (zM, 0, 3)
      else if chkM { (pAll (l.drop 7)).1 with top := (pAll (l.drop 7)).1.vocab } ≠ 0 then (zM, 0, chkM { (pAll (l.drop 7)).1 with top := (pAll (l.drop 7)).1.vocab })
      else ({ (pAll (l.drop 7)).1 with top := (pAll (l.drop 7)).1.vocab }, 1, 0))
     else if chkM (pAll (l.drop 7)).1 ≠ 0 then (zM, 0, chkM (pAll (l.drop 7)).1) else ((pAll (l.drop 7)).1, 2, 0) := by
    unfold opM
    rw [if_neg h7, if_neg (fun h => h hw), g4, g5, g6, if_neg (by rw [q4, q5]; rcases q6 with rfl | rfl <;> simp)]
    simp
   have hib := hb.drop 7
   have hsum := pAll_sum hib
   have hll : (l.drop 7).length <= l.length := by simp
   have hw6 : IntKind.i64.wrap b6 = b6 := by rcases q6 with rfl | rfl <;> rfl
   have e3 : F_rOpen.code.r.r = .seq F_rOpen.code.r.r.l (.seq F_rOpen.code.r.r.r.l (.seq F_rOpen.code.r.r.r.r.l F_rOpen.code.r.r.r.r.r)) := rfl
   have over : ∀ (fr : Fr) (fl : Nat -> Bool) (m : LModel) (e : Int) (s : St), (e ≠ 0 -> opM l = (zM, 0, e)) -> (e = 0 -> opM l = (m, b6, 0)) -> s = st ++ [mdl 0 0 0 0 nils, mB fl m] -> fr.g 0 = .lst f (bys l) -> fr.g 2 = .ptr st.length 1 0 0 -> fr.g 5 = .ptr (st.length + 1) 1 0 0 -> fr.g 6 = I e -> fr.df = [] -> wpM Tryz.prog T (liftM (upM st.length M)) F_rOpen.code.r.r.r.r.r (Fin F_rOpen.res (fun v st' => ∃ v', Frz st.length st' v v' /\ LowSt st st' /\ K v' (st'.take st.length)) (fun c st' => LowSt st st' /\ Kp c (st'.take st.length))) fr s := fun fr fl m e s k1 k2 hs z0 z2 z5 z6 zdf => by
    subst hs
    by_cases he : e = 0
    ·subst he
     have he4 : F_rOpen.code.r.r.r.r.r = .seq F_rOpen.code.r.r.r.r.r.l F_rOpen.code.r.r.r.r.r.r := rfl
     rw [he4]
     generalize hc6 : F_rOpen.code.r.r.r.r.r.r = c6
     simp [F_rOpen, MC.l, MC.r, z6]
     rw [<- hc6]
     have e7 : F_rOpen.code.r.r.r.r.r.r = .seq F_rOpen.code.r.r.r.r.r.r.l F_rOpen.code.r.r.r.r.r.r.r := rfl
     rw [e7, wp_mseq]
     refine wp_mflat [st.length] [] ?_
     have hrd : ∀ j, rdW [st.length] [] (st.length + 1) j = true := fun j => by simp [rdW]
     have hin : ∀ j, inW (st.length + 2) [st.length] [] (liftM (upM st.length M)) st.length j = true := fun j => by simp [inW]
     simp [F_rOpen, MC.r, z0, z2, z5, z6, mB, mdl, encM, i6, hw6, zdf, hrd, hin]
     exact fin fl m b6 0 _ (k2 rfl)
    ·have heb : (e != 0) = true := by simpa using he
     simp [F_rOpen, MC.r, z6, heb, z2, mdl, zdf]
     exact finz e _ (k1 he)
   generalize F_rOpen.code.r.r.r.r.r = c5 at over e3
   rw [e3]
   generalize hc3 : F_rOpen.code.r.r.r.l = c3
   generalize hc4 : F_rOpen.code.r.r.r.r.l = c4
   simp [F_rOpen, MC.l, MC.r, z0, bys_tail l 7, show 7 <= l.length by omega]
   refine ⟨bys_one l, ?_⟩
   refine rmFrom_v hib (by omega) fun fl m hm => ?_
   generalize pAll (l.drop 7) = pp at hop hsum hm
   obtain ⟨m0, e⟩ := pp
   simp only at hop hsum hm
   by_cases he : e = 0
   ·have hmm := hm he
    subst he hmm
    simp [encM]
    rw [<- encM, <- hc3]
    by_cases h1 : b6 = 1
    ·subst h1
     by_cases ht : m.top = 0
     ·simp [F_rOpen, MC.l, MC.r, z0, i6, encM, ht]
      rw [<- hc4]
      have hfe : V.agg [I m.kind, I m.vocab, I m.width, I m.vocab, .lst (fl 0) (ints m.cuts), .lst (fl 1) (ints m.embed), .lst (fl 2) (ints m.place), .lst (fl 3) (ints m.mix), .lst (fl 4) (ints m.out), .lst (fl 5) (ints m.soft), .lst (fl 6) (ints m.odds)] = encM fl { m with top := m.vocab } := rfl
      simp [F_rOpen, MC.l, MC.r]
      rw [hfe]
      refine fault_s fl (m := { m with top := m.vocab }) (by simp [listsM] at hsum ⊢; omega) ?_
      refine over _ fl { m with top := m.vocab } (chkM { m with top := m.vocab }) _ (fun h => ?_) (fun h => ?_) ?_ ?_ ?_ ?_ ?_ ?_
      ·rw [hop]; simp [ht, h]
      ·rw [hop]; simp [ht, h]
      ·simp [mdl, mB, encM]
      ·simp [z0]
      ·simp [z2]
      ·simp
      ·simp
      ·simp [zdf]
     ·have htb : (m.top != 0) = true := by simpa using ht
      simp [F_rOpen, MC.l, MC.r, z0, i6, encM, htb]
      rw [<- hc4]
      simp [F_rOpen, MC.l, MC.r]
      refine over _ fl { m with top := m.vocab } 3 _ (fun h => ?_) (fun h => by omega) ?_ ?_ ?_ ?_ ?_ ?_
      ·rw [hop]; simp [ht]
      ·simp [mdl, mB, encM]
      ·simp [z0]
      ·simp [z2]
      ·simp
      ·simp
      ·simp [zdf]
    ·have h2 : b6 = 2 := by rcases q6 with h | h; exact absurd h h1; exact h
     subst h2
     simp [F_rOpen, MC.l, MC.r, z0, i6]
     rw [<- hc4]
     simp [F_rOpen, MC.l, MC.r, encM]
     rw [<- encM]
     refine fault_s fl (m := m) (by omega) ?_
     refine over _ fl m (chkM m) _ (fun h => ?_) (fun h => ?_) ?_ ?_ ?_ ?_ ?_ ?_
     ·rw [hop]; simp [h]
     ·rw [hop]; simp [h]
     ·simp [mdl, mB, encM]
     ·simp [z0]
     ·simp [z2]
     ·simp
     ·simp
     ·simp [zdf]
   ·have heb : (e == 0) = false := by simpa using he
    simp [encM]
    rw [<- encM, <- hc3]
    simp [F_rOpen, MC.l, MC.r, heb]
    rw [<- hc4]
    simp [F_rOpen, MC.l, MC.r, heb]
    refine over _ fl m e _ (fun h => ?_) (fun h => absurd h he) ?_ ?_ ?_ ?_ ?_ ?_
    ·rw [hop]; simp [he]
    ·simp [mdl, mB, encM]
    ·simp [z0]
    ·simp [z2]
    ·simp
    ·simp
    ·simp [zdf]
  generalize F_rOpen.code.r.r = cT at tail e1
  rw [e1]
  have e2 : F_rOpen.code.r.l = .block 0 (.seq F_rOpen.code.r.l.bb.l (.cond (.t 7) F_rOpen.code.r.l.bb.r.yes (.seq F_rOpen.code.r.l.bb.r.no.l (.cond (.t 12) F_rOpen.code.r.l.bb.r.no.r.yes F_rOpen.code.r.l.bb.r.no.r.no)))) := rfl
  rw [e2]
  generalize hcI : F_rOpen.code.r.l.bb.r.no.l = cI
  generalize hcY : F_rOpen.code.r.l.bb.r.no.r.yes = cY
  generalize hcN : F_rOpen.code.r.l.bb.r.no.r.no = cN
  simp [F_rOpen, MC.l, MC.r, MC.bb, MC.yes, h7']
  rw [<- hcI]
  have e5 : F_rOpen.code.r.l.bb.r.no.l = .flat F_rOpen.code.r.l.bb.r.no.l.ops := rfl
  rw [e5]
  refine wp_mflat [] [] ?_
  simp [F_rOpen, MC.l, MC.r, MC.bb, MC.no, MC.ops, bys_tail l 4, show 4 <= l.length by omega]
  refine ⟨bys_one l, ?_⟩
  refine wide_v (by omega) ?_
  refine coded_v (l := l.drop 4) rfl (hb.drop 4) (by simp; omega) ?_
  by_cases hw : wide4 l = codeB (l.drop 4)
  ·simp [binV, intV, hw]
   rw [<- hcN]
   have bad : ∀ h : l[4]? ≠ some 119 \/ l[5]? ≠ some 109 \/ (l[6]? ≠ some 1 /\ l[6]? ≠ some 2), opM l = (zM, 0, 4) := fun h => by
    unfold opM
    rw [if_neg h7, if_neg (fun h => h hw), if_pos h]
   rw [g4, g5, g6] at bad
   by_cases q4 : b4 = 119
   ·by_cases q5 : b5 = 109
    ·by_cases q6 : b6 = 1
     ·simp [F_rOpen, MC.l, MC.r, MC.bb, MC.no, i4, i5, i6, q4, q5, q6]
      exact tail _ q4 q5 (Or.inl q6) hw (by simp) (by simp) (by simp)
     ·by_cases q7 : b6 = 2
      ·simp [F_rOpen, MC.l, MC.r, MC.bb, MC.no, i4, i5, i6, q4, q5, q7]
       exact tail _ q4 q5 (Or.inr q7) hw (by simp) (by simp) (by simp)
      ·rcases (show b6 < 1 \/ 2 < b6 by omega) with q | q
       ·simp [F_rOpen, MC.l, MC.r, MC.bb, MC.no, i4, i5, i6, q4, q5, q]
        exact finz 4 _ (bad (Or.inr (Or.inr ⟨by simpa using q6, by simpa using q7⟩)))
       ·have qn : ¬ b6 < 1 := by omega
        simp [F_rOpen, MC.l, MC.r, MC.bb, MC.no, i4, i5, i6, q4, q5, q, qn]
        exact finz 4 _ (bad (Or.inr (Or.inr ⟨by simpa using q6, by simpa using q7⟩)))
    ·have n5 : (b5 != 109) = true := by simpa using q5
     simp [F_rOpen, MC.l, MC.r, MC.bb, MC.no, i4, i5, q4, n5]
     exact finz 4 _ (bad (Or.inr (Or.inl (by simpa using q5))))
   ·have n4 : (b4 != 119) = true := by simpa using q4
    simp [F_rOpen, MC.l, MC.r, MC.bb, MC.no, i4, n4]
    exact finz 4 _ (bad (Or.inl (by simpa using q4)))
  ·have ho : opM l = (zM, 0, 12) := by unfold opM; rw [if_neg h7, if_pos hw]
   have hwb : (wide4 l != codeB (l.drop 4)) = true := by simpa using hw
   simp [binV, intV, hwb]
   rw [<- hcY]
   simp [F_rOpen, MC.l, MC.r, MC.bb, MC.yes, MC.no]
   exact finz 12 _ ho
end
end Go.Proofs.YtkcdgaijklhnaaaGreatDoor.Vm
