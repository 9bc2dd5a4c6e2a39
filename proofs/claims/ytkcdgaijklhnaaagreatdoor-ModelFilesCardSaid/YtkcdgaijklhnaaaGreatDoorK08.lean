/-
  Stream.Model, run by the value machine.
-/
import Derived.Test.YtkcdgaijklhnaaaGreatDoorK07
import Derived.Test.YtkcdgaijklhnaaaGreatDoorK05
namespace Go.Proofs.YtkcdgaijklhnaaaGreatDoor.Vm
open Go.RowKit
def mdl (K V D T : Int) (c : Nat → Vm.V) : Blk := .row 27 11 [.agg [I K, I V, I D, I T, c 0, c 1, c 2, c 3, c 4, c 5, c 6]]
def nils : Nat → V := fun _ => .lst true []
def upd1 (c : Nat → V) (i : Nat) (v : V) : Nat → V := fun j => if j = i then v else c j
@[simp] theorem upd1_eq (c : Nat → V) (i : Nat) (v : V) (j : Nat) : upd1 c i v j = if j = i then v else c j := nr rfl
def encM (fl : Nat → Bool) (m : LModel) : V := .agg [I m.kind, I m.vocab, I m.width, I m.top, .lst (fl 0) (ints m.cuts), .lst (fl 1) (ints m.embed), .lst (fl 2) (ints m.place), .lst (fl 3) (ints m.mix), .lst (fl 4) (ints m.out), .lst (fl 5) (ints m.soft), .lst (fl 6) (ints m.odds)]
structure GmS (st : St) (s0 : Nat) (f : Bool) (xs : List Int) (a b : Int) (mb : Nat) (fr : Fr) (s : St) (K V D T : Int) (c : Nat → Vm.V) : Prop where
 gs : ∃ a', a ≤ a' ∧ a' ≤ b ∧ GS st.length s0 st s f xs a'
 rb : s[st.length]? = some (mdl 0 0 0 0 nils)
 md : s[mb]? = some (mdl K V D T c)
 hmb : st.length < mb
 g0 : fr.g 0 = .ptr s0 1 0 0
 g2 : fr.g 2 = .ptr st.length 1 0 0
 g3 : fr.g 3 = .ptr mb 1 0 0
 df : fr.df = []
def GQ (st : St) (K : V → St → Prop) (Kp : List PanicEntry → St → Prop) : Post := Fin F_gmodel.res (fun v st' => ∃ v', Frz st.length st' v v' ∧ LowSt st st' ∧ K v' (st'.take st.length)) (fun c st' => LowSt st st' ∧ Kp c (st'.take st.length))
def GK (st : St) (s0 : Nat) (f : Bool) (xs : List Int) (a : Int) (K : V → St → Prop) : Prop := ∀ (fl : Nat → Bool) m a', GenM m → a ≤ a' → a' ≤ a + 10000 → K (encM fl m) (st.set s0 (strm f xs a'))
section
variable {st s : St} {s0 mb : Nat} {fr : Fr} {f : Bool} {xs : List Int} {a b : Int} {T : Tbl} {M : Nat → Bool} {K : V → St → Prop} {Kp : List PanicEntry → St → Prop} {Kd Vo Wd Tp : Int} {c : Nat → V}
theorem GmS.lt (h : GmS st s0 f xs a b mb fr s Kd Vo Wd Tp c) : s0 < st.length := by obtain ⟨a', -, -, g⟩ := h.gs; exact g.hsb
theorem GmS.up (h : GmS st s0 f xs a b mb fr s Kd Vo Wd Tp c) (M : Nat → Bool) : upM st.length M mb = true := by have := h.hmb; simp [upM]; omega
set_option maxRecDepth 10000 in
theorem gm_end (hK : GK st s0 f xs a K) (_hM : M s0 = true) (h : GmS st s0 f xs a (a + 10000) mb fr s Kd Vo Wd Tp c) {l : Nat → List Int} (h0 : OutS st.length 3 1 s (c 0) (ints (l 0))) (h5 : OutS st.length 3 1 s (c 5) (ints (l 5))) (h6 : OutS st.length 3 1 s (c 6) (ints (l 6)))
  {fl : Nat → Bool} (h1 : c 1 = .lst (fl 1) (ints (l 1))) (h2 : c 2 = .lst (fl 2) (ints (l 2))) (h3 : c 3 = .lst (fl 3) (ints (l 3))) (h4 : c 4 = .lst (fl 4) (ints (l 4))) (hg : GenM ⟨Kd, Vo, Wd, Tp, l 0, l 1, l 2, l 3, l 4, l 5, l 6⟩) :
  wpM Tryz.prog T (liftM (upM st.length M)) F_gmodel.code.r.r.r.r.r.r.r.r.r.r.r.r (GQ st K Kp) fr s := by
 obtain ⟨a', e1, e2, g⟩ := h.gs
 have md := h.md
 have rb := h.rb
 have rb2 : ∀ x, (s.set st.length x)[st.length]? = some x := fun x => get_set rb x
 have lf : ∀ {v : V} {l : List V}, OutS st.length 3 1 s v l → v.leaf = true := fun {v l} ho => by
  rcases ho with ⟨-, rfl⟩ | ⟨_, -, -, rfl⟩ <;> rfl
 simp [F_gmodel, MC.r, GQ, h.g2, h.g3, md, rb, mdl, nils, lf h0, lf h5, lf h6, h1, h2, h3, h4, rb2, h.df]
 generalize Blk.row 27 11 _ = xb
 have g' := g.set (Nat.le_refl st.length) xb
 obtain ⟨f0, z0⟩ := (h0.apart rb (by decide) xb).frz (ints_cells _)
 obtain ⟨f5, z5⟩ := (h5.apart rb (by decide) xb).frz (ints_cells _)
 obtain ⟨f6, z6⟩ := (h6.apart rb (by decide) xb).frz (ints_cells _)
 have hlow := g'.same.low g'.str (by simp [V.low])
 have hk := hK (fun i => if i = 0 then f0 else if i = 5 then f5 else if i = 6 then f6 else fl i) _ a' hg e1 e2
 refine ⟨_, .agg _ [I Kd, I Vo, I Wd, I Tp, .lst f0 (ints (l 0)), .lst (fl 1) (ints (l 1)), .lst (fl 2) (ints (l 2)), .lst (fl 3) (ints (l 3)), .lst (fl 4) (ints (l 4)), .lst f5 (ints (l 5)), .lst f6 (ints (l 6))] rfl fun i x y hx hy => ?_, hlow, ?_⟩
 ·match i with
  | 0 => simp at hx hy; subst hx hy; exact .same _ rfl
  | 1 => simp at hx hy; subst hx hy; exact .same _ rfl
  | 2 => simp at hx hy; subst hx hy; exact .same _ rfl
  | 3 => simp at hx hy; subst hx hy; exact .same _ rfl
  | 4 => simp at hx hy; subst hx hy; exact z0
  | 5 => simp at hx hy; subst hx hy; exact .same _ rfl
  | 6 => simp at hx hy; subst hx hy; exact .same _ rfl
  | 7 => simp at hx hy; subst hx hy; exact .same _ rfl
  | 8 => simp at hx hy; subst hx hy; exact .same _ rfl
  | 9 => simp at hx hy; subst hx hy; exact z5
  | 10 => simp at hx hy; subst hx hy; exact z6
  | i + 11 => simp at hx
 ·rw [g'.same.take g'.str]
  exact hk
structure GmO (n : Nat) (s : St) (c : Nat → V) (l : Nat → List Int) : Prop where
 o : ∀ i, i = 0 ∨ i = 5 ∨ i = 6 → OutS n 3 1 s (c i) (ints (l i))
 d : ∀ i j, i ≠ j → (i = 0 ∨ i = 5 ∨ i = 6) → (j = 0 ∨ j = 5 ∨ j = 6) → ∀ b ∈ ownL (c i), b ∉ ownL (c j)
theorem GmO.but {n sb : Nat} {s s' : St} {c : Nat → V} {l : Nat → List Int} (h : GmO n s c l) (hb : But sb s s') (hn : sb < n) : GmO n s' c l := ⟨fun i hi => (h.o i hi).but hb hn, h.d⟩
theorem GmO.more {n : Nat} {s : St} {c : Nat → V} {l : Nat → List Int} (h : GmO n s c l) (e : St) : GmO n (s ++ e) c l := ⟨fun i hi => (h.o i hi).more e, h.d⟩
theorem GmO.apart {n : Nat} {s : St} {c : Nat → V} {l : Nat → List Int} (h : GmO n s c l) {m t2 k2 : Nat} {ys : List V} (hc : s[m]? = some (.row t2 k2 ys)) (hk : k2 ≠ 1) (x : Blk) : GmO n (s.set m x) c l := ⟨fun i hi => (h.o i hi).apart hc hk x, h.d⟩
theorem GmO.grow {n : Nat} {s s' : St} {c : Nat → V} {l : Nat → List Int} (h : GmO n s c l) {i : Nat} (hi : i = 0 ∨ i = 5 ∨ i = 6) {v : V} {m : List Int} (ho : OutS n 3 1 s' v (ints m)) (h1 : ∀ b, b < s.length → b ∉ ownL (c i) → s'[b]? = s[b]?) (h2 : ∀ b, b ∈ ownL v → b ∈ ownL (c i) ∨ s.length ≤ b) :
  GmO n s' (upd1 c i v) (fun j => if j = i then m else l j) := by
 refine ⟨fun j hj => ?_, fun j k hjk hj hk b hb1 hb2 => ?_⟩
 ·by_cases hji : j = i
  ·subst hji; simpa using ho
  ·simp only [upd1_eq, if_neg hji]
   exact (h.o j hj).keep2 fun b hb => h1 b ((h.o j hj).lt b hb).2 (h.d j i hji hj hi b hb)
 ·simp only [upd1_eq] at hb1 hb2
  by_cases hji : j = i
  ·subst hji
   rw [if_pos rfl] at hb1
   rw [if_neg (Ne.symm hjk)] at hb2
   rcases h2 b hb1 with e | e
   ·exact h.d j k hjk hj hk b e hb2
   ·have := ((h.o k hk).lt b hb2).2; omega
  ·rw [if_neg hji] at hb1
   by_cases hki : k = i
   ·subst hki
    rw [if_pos rfl] at hb2
    rcases h2 b hb2 with e | e
    ·exact h.d j k hjk hj hk b hb1 e
    ·have := ((h.o j hj).lt b hb1).2; omega
   ·rw [if_neg hki] at hb2
    exact h.d j k hjk hj hk b hb1 hb2
theorem upd1_id (c : Nat → V) (i : Nat) : upd1 c i (c i) = c := funext fun j => by by_cases h : j = i <;> simp [h]
theorem GmO.id {n : Nat} {s : St} {c : Nat → V} {l : Nat → List Int} (h : GmO n s c l) (i : Nat) : GmO n s (upd1 c i (c i)) (fun j => if j = i then l i else l j) := by
 rw [upd1_id, show (fun j => if j = i then l i else l j) = l from funext fun j => by by_cases hj : j = i <;> simp [hj]]
 exact h
theorem GmS.step (h : GmS st s0 f xs a b mb fr s Kd Vo Wd Tp c) {s' : St} {b' a' : Int} (g : GS st.length s0 st s' f xs a') (h1 : a ≤ a') (h2 : a' ≤ b') (hr : s'[st.length]? = some (mdl 0 0 0 0 nils)) {Kd' Vo' Wd' Tp' : Int} {c' : Nat → V} (hm : s'[mb]? = some (mdl Kd' Vo' Wd' Tp' c')) {fr' : Fr} (e0 : fr'.g 0 = fr.g 0) (e2 : fr'.g 2 = fr.g 2) (e3 : fr'.g 3 = fr.g 3) (ed : fr'.df = fr.df) :
  GmS st s0 f xs a b' mb fr' s' Kd' Vo' Wd' Tp' c' := ⟨⟨a', h1, h2, g⟩, hr, hm, h.hmb, e0.trans h.g0, e2.trans h.g2, e3.trans h.g3, ed.trans h.df⟩
theorem rd_ne {s0 m : Nat} {v : V} (h1 : m ≠ s0) (h2 : m ∉ ownL v) (j : Nat) : rdW (s0 :: ownL v) [] m j = true := by simp [rdW, h1, h2]
theorem inW_hd {n s0 : Nat} {W : List Nat} {X : List (Nat × Nat)} {M : Nat → Bool} (h : M s0 = true) : callM (inW n (s0 :: W) X (liftM M)) s0 = true := by simp [callM, inW, h]
theorem inW_mem {n m : Nat} {W : List Nat} {X : List (Nat × Nat)} {M : Nat → Bool} (h : M m = true) (hw : m ∈ W) (j : Nat) : inW n W X (liftM M) m j = true := by simp [inW, h, hw]
def LInv_cuts (st : St) (s0 mb : Nat) (f : Bool) (xs : List Int) (a b : Int) (c0 : Nat → V) (l0 : Nat → List Int) (Kd Vo Wd Tp : Int) (N : Nat) (w4 : V) (fr : Fr) (s : St) : Prop :=
 ∃ (k : Nat) (v : V) (l : List Int), k ≤ N ∧ l.length = (l0 0).length + k ∧ (∀ x ∈ l, x ∈ l0 0 ∨ x ∈ ([1, 1, 2, 3, 5, 8, 15] : List Int)) ∧ (∀ x, (l0 0)[0]? = some x → l[0]? = some x) ∧ GmS st s0 f xs a (b + k) mb fr s Kd Vo Wd Tp (upd1 c0 0 v) ∧ GmO st.length s (upd1 c0 0 v) (fun j => if j = 0 then l else l0 j) ∧ fr.g 24 = I k ∧ fr.g 4 = w4 ∧ N = 4
set_option maxRecDepth 10000 in
theorem gm_cuts {l0 : Nat → List Int} {N : Nat} {w4 : V} (hM : M s0 = true) (hN : N ≤ 64) (hab : 0 ≤ a ∧ a ≤ b ∧ b ≤ a + 8000 ∧ a ≤ 10000000) (hl0 : (l0 0).length ≤ 10) {b0 : MC} (hb0 : b0 = F_gmodel.code.r.r.r.r.l.r.bb.bb) {Q : Post}
  (h : LInv_cuts st s0 mb f xs a b c l0 Kd Vo Wd Tp N w4 fr s) (hQ : ∀ fr s, LInv_cuts st s0 mb f xs a b c l0 Kd Vo Wd Tp N w4 fr s → fr.g 24 = I N → Q (.exit 0) fr s) : wpM Tryz.prog T (liftM (upM st.length M)) (.loop b0) Q fr s := by
 subst hb0
 refine wp_mloop (LInv_cuts st s0 mb f xs a b c l0 Kd Vo Wd Tp N w4) (fun fr _ => N - nat (fr.g 24)) h ?_
 clear h
 rintro fr s h
 obtain ⟨k, v, l, hk, hl, hr, hf0, hS, hO, hc, h4, hbnd⟩ := id h
 have hbi : (N : Int) = 4 := by omega
 by_cases hlt : k < N
 ·have hup : upM st.length M s0 = true := upM_of hM
  obtain ⟨a', e1, e2, g⟩ := hS.gs
  have hlt0 := hS.lt
  have hmb := hS.hmb
  have hmbl : mb < s.length := (List.getElem?_eq_some_iff.1 hS.md).1
  have ho := hO.o 0 (by decide)
  simp only [upd1_eq, if_true] at ho
  have hmv : mb ∉ ownL v := fun hm => by
   rcases ho with ⟨-, rfl⟩ | ⟨b2, h1, h2, rfl⟩
   ·simp [ownL] at hm
   ·simp [ownL] at hm; subst hm; rw [hS.md] at h2; simp [mdl] at h2
  have hrd := rd_ne (s0 := s0) (v := v) (show mb ≠ s0 by omega) hmv
  have md := hS.md
  simp [F_gmodel, MC.l, MC.r, MC.bb, hc, hlt, ← hbi]
  refine wp_mtail (s0 :: ownL v) [] ?_
  simp [hS.g3, hS.g0, md, mdl, hrd]
  have e5 : (s ++ [Blk.row 3 1 [I 1, I 1, I 2, I 3, I 5, I 8, I 15]])[s.length]? = some (.row 3 1 (ints [1, 1, 2, 3, 5, 8, 15])) := by simp [ints]
  refine pick_g (g.more _) (inW_hd hup) (by omega) e5 (by omega) rfl (by simp) fun x s2 hx g2 b2 => ?_
  have R2 := get_but (get_more hS.rb _) b2 (by omega)
  have m2 := get_but (get_more hS.md _) b2 (by omega)
  have O2 := (hO.more [Blk.row 3 1 [I 1, I 1, I 2, I 3, I 5, I 8, I 15]]).but b2 hlt0
  have hl2 : s.length < s2.length := by rw [b2.1]; simp
  simp
  have ho2 := O2.o 0 (by decide)
  simp only [upd1_eq, if_true] at ho2
  refine app_out (ho2.more [Blk.row 3 1 [I x]]) (by simp; have := g2.same.len; omega) (news := [I x]) (by simp) (by simp) (Or.inl (by simp)) (fun b3 L h1 h2 j => inW_mem (by simp [upM, h1]) (by rw [h2]; simp [ownL]) j) (by simp; omega) (by simp; omega) fun v' s3 o3 hl3 hb3 hk3 hn3 => ?_
  have m3 : s3[mb]? = some (mdl Kd Vo Wd Tp (upd1 c 0 v)) := by rw [hk3 mb (by simp; omega) hmv]; exact get_more m2 _
  have R3 : s3[st.length]? = some (mdl 0 0 0 0 nils) := by
   rw [hk3 st.length (by simp; omega) ?_]
   ·exact get_more R2 _
   ·intro hm
    rcases ho with ⟨-, rfl⟩ | ⟨b2', h1, h2, rfl⟩
    ·simp [ownL] at hm
    ·simp [ownL] at hm; subst hm; rw [hS.rb] at h2; simp [mdl] at h2
  have g3 := (g2.more [Blk.row 3 1 [I x]]).to hl3 hb3
  have O3 := (O2.more [Blk.row 3 1 [I x]]).grow (i := 0) (by decide) (v := v') (m := l ++ [x]) (by rw [ints_append]; exact o3) (fun b hb hnb => hk3 b hb (by simpa using hnb)) (fun b hb => by simpa using hn3 b hb)
  have lv : v'.leaf = true := by rcases o3 with ⟨-, rfl⟩ | ⟨_, -, -, rfl⟩ <;> rfl
  have c' : v'.cells = [v'] := by rcases o3 with ⟨-, rfl⟩ | ⟨_, -, -, rfl⟩ <;> rfl
  have hrd3 : mb < st.length → False := by omega
  simp [m3, mdl, hS.up, lv, c', hc, w64 (n := (k : Int) + 1) (by omega) (by omega)]
  refine ⟨⟨k + 1, v', l ++ [x], by omega, by simp [hl]; omega, fun y hy => ?_, fun y hy => ?_, hS.step (g3.set (by omega) _) (by omega) (by push_cast; omega) (get_ne R3 (by omega) _) (c' := upd1 c 0 v') (get_set m3 _) (by simp) (by simp) (by simp) (by simp), ?_, by simp, by simp [h4], hbnd⟩, by omega⟩
  ·rcases List.mem_append.1 hy with hy | hy
   ·exact hr y hy
   ·simp at hy; subst hy; exact Or.inr hx
  ·have h0 := hf0 y hy
   rw [List.getElem?_append_left (List.getElem?_eq_some_iff.1 h0).1]; exact h0
  ·have O4 := O3.apart (m := mb) m3 (by decide) (mdl Kd Vo Wd Tp (upd1 c 0 v'))
   refine ⟨fun j hj => ?_, fun j j2 h1 h2 h3 => ?_⟩
   ·have := O4.o j hj
    by_cases hji : j = 0
    ·subst hji; simpa [mdl] using this
    ·simpa [hji, mdl] using this
   ·have := O4.d j j2 h1 h2 h3
    by_cases hji : j = 0 <;> by_cases hji2 : j2 = 0 <;> simpa [hji, hji2] using this
 ·obtain rfl : k = N := by omega
  simp [F_gmodel, MC.l, MC.r, MC.bb, hc, ← hbi]
  obtain ⟨a', e1, e2, g⟩ := hS.gs
  exact hQ _ s ⟨_, v, l, hk, hl, hr, hf0, hS.step g e1 e2 hS.rb hS.md (by simp) (by simp) (by simp) (by simp), hO, by simp [hc], by simp [h4], hbnd⟩ (by simp [hc])
def LInv_soft (st : St) (s0 mb : Nat) (f : Bool) (xs : List Int) (a b : Int) (c0 : Nat → V) (l0 : Nat → List Int) (Kd Vo Wd Tp : Int) (N : Nat) (w4 : V) (fr : Fr) (s : St) : Prop :=
 ∃ (k : Nat) (v : V) (l : List Int), k ≤ N ∧ l.length = (l0 5).length + k ∧ (∀ x ∈ l, x ∈ l0 5 ∨ x ∈ ([0, 1, 8, 64, 1000] : List Int)) ∧ (∀ x, (l0 5)[0]? = some x → l[0]? = some x) ∧ GmS st s0 f xs a (b + k) mb fr s Kd Vo Wd Tp (upd1 c0 5 v) ∧ GmO st.length s (upd1 c0 5 v) (fun j => if j = 5 then l else l0 j) ∧ fr.g 81 = I k ∧ fr.g 4 = w4 ∧ fr.g 80 = I N
set_option maxRecDepth 10000 in
theorem gm_soft {l0 : Nat → List Int} {N : Nat} {w4 : V} (hM : M s0 = true) (hN : N ≤ 64) (hab : 0 ≤ a ∧ a ≤ b ∧ b ≤ a + 8000 ∧ a ≤ 10000000) (hl0 : (l0 5).length ≤ 10) {b0 : MC} (hb0 : b0 = F_gmodel.code.r.r.r.r.r.r.r.r.r.l.r.bb.bb) {Q : Post}
  (h : LInv_soft st s0 mb f xs a b c l0 Kd Vo Wd Tp N w4 fr s) (hQ : ∀ fr s, LInv_soft st s0 mb f xs a b c l0 Kd Vo Wd Tp N w4 fr s → fr.g 81 = I N → Q (.exit 3) fr s) : wpM Tryz.prog T (liftM (upM st.length M)) (.loop b0) Q fr s := by
 subst hb0
 refine wp_mloop (LInv_soft st s0 mb f xs a b c l0 Kd Vo Wd Tp N w4) (fun fr _ => N - nat (fr.g 81)) h ?_
 clear h
 rintro fr s h
 obtain ⟨k, v, l, hk, hl, hr, hf0, hS, hO, hc, h4, hbnd⟩ := id h
 by_cases hlt : k < N
 ·have hup : upM st.length M s0 = true := upM_of hM
  obtain ⟨a', e1, e2, g⟩ := hS.gs
  have hlt0 := hS.lt
  have hmb := hS.hmb
  have hmbl : mb < s.length := (List.getElem?_eq_some_iff.1 hS.md).1
  have ho := hO.o 5 (by decide)
  simp only [upd1_eq, if_true] at ho
  have hmv : mb ∉ ownL v := fun hm => by
   rcases ho with ⟨-, rfl⟩ | ⟨b2, h1, h2, rfl⟩
   ·simp [ownL] at hm
   ·simp [ownL] at hm; subst hm; rw [hS.md] at h2; simp [mdl] at h2
  have hrd := rd_ne (s0 := s0) (v := v) (show mb ≠ s0 by omega) hmv
  have md := hS.md
  simp [F_gmodel, MC.l, MC.r, MC.bb, hc, hlt, hbnd]
  refine wp_mtail (s0 :: ownL v) [] ?_
  simp [hS.g3, hS.g0, md, mdl, hrd]
  have e5 : (s ++ [Blk.row 3 1 [I 0, I 1, I 8, I 64, I 1000]])[s.length]? = some (.row 3 1 (ints [0, 1, 8, 64, 1000])) := by simp [ints]
  refine pick_g (g.more _) (inW_hd hup) (by omega) e5 (by omega) rfl (by simp) fun x s2 hx g2 b2 => ?_
  have R2 := get_but (get_more hS.rb _) b2 (by omega)
  have m2 := get_but (get_more hS.md _) b2 (by omega)
  have O2 := (hO.more [Blk.row 3 1 [I 0, I 1, I 8, I 64, I 1000]]).but b2 hlt0
  have hl2 : s.length < s2.length := by rw [b2.1]; simp
  simp
  have ho2 := O2.o 5 (by decide)
  simp only [upd1_eq, if_true] at ho2
  refine app_out (ho2.more [Blk.row 3 1 [I x]]) (by simp; have := g2.same.len; omega) (news := [I x]) (by simp) (by simp) (Or.inl (by simp)) (fun b3 L h1 h2 j => inW_mem (by simp [upM, h1]) (by rw [h2]; simp [ownL]) j) (by simp; omega) (by simp; omega) fun v' s3 o3 hl3 hb3 hk3 hn3 => ?_
  have m3 : s3[mb]? = some (mdl Kd Vo Wd Tp (upd1 c 5 v)) := by rw [hk3 mb (by simp; omega) hmv]; exact get_more m2 _
  have R3 : s3[st.length]? = some (mdl 0 0 0 0 nils) := by
   rw [hk3 st.length (by simp; omega) ?_]
   ·exact get_more R2 _
   ·intro hm
    rcases ho with ⟨-, rfl⟩ | ⟨b2', h1, h2, rfl⟩
    ·simp [ownL] at hm
    ·simp [ownL] at hm; subst hm; rw [hS.rb] at h2; simp [mdl] at h2
  have g3 := (g2.more [Blk.row 3 1 [I x]]).to hl3 hb3
  have O3 := (O2.more [Blk.row 3 1 [I x]]).grow (i := 5) (by decide) (v := v') (m := l ++ [x]) (by rw [ints_append]; exact o3) (fun b hb hnb => hk3 b hb (by simpa using hnb)) (fun b hb => by simpa using hn3 b hb)
  have lv : v'.leaf = true := by rcases o3 with ⟨-, rfl⟩ | ⟨_, -, -, rfl⟩ <;> rfl
  have c' : v'.cells = [v'] := by rcases o3 with ⟨-, rfl⟩ | ⟨_, -, -, rfl⟩ <;> rfl
  have hrd3 : mb < st.length → False := by omega
  simp [m3, mdl, hS.up, lv, c', hc, w64 (n := (k : Int) + 1) (by omega) (by omega)]
  refine ⟨⟨k + 1, v', l ++ [x], by omega, by simp [hl]; omega, fun y hy => ?_, fun y hy => ?_, hS.step (g3.set (by omega) _) (by omega) (by push_cast; omega) (get_ne R3 (by omega) _) (c' := upd1 c 5 v') (get_set m3 _) (by simp) (by simp) (by simp) (by simp), ?_, by simp, by simp [h4], by simp [hbnd]⟩, by omega⟩
  ·rcases List.mem_append.1 hy with hy | hy
   ·exact hr y hy
   ·simp at hy; subst hy; exact Or.inr hx
  ·have h0 := hf0 y hy
   rw [List.getElem?_append_left (List.getElem?_eq_some_iff.1 h0).1]; exact h0
  ·have O4 := O3.apart (m := mb) m3 (by decide) (mdl Kd Vo Wd Tp (upd1 c 5 v'))
   refine ⟨fun j hj => ?_, fun j j2 h1 h2 h3 => ?_⟩
   ·have := O4.o j hj
    by_cases hji : j = 5
    ·subst hji; simpa [mdl] using this
    ·simpa [hji, mdl] using this
   ·have := O4.d j j2 h1 h2 h3
    by_cases hji : j = 5 <;> by_cases hji2 : j2 = 5 <;> simpa [hji, hji2] using this
 ·obtain rfl : k = N := by omega
  simp [F_gmodel, MC.l, MC.r, MC.bb, hc, hbnd]
  obtain ⟨a', e1, e2, g⟩ := hS.gs
  exact hQ _ s ⟨_, v, l, hk, hl, hr, hf0, hS.step g e1 e2 hS.rb hS.md (by simp) (by simp) (by simp) (by simp), hO, by simp [hc], by simp [h4], by simp [hbnd]⟩ (by simp [hc])
def LInv_odds (st : St) (s0 mb : Nat) (f : Bool) (xs : List Int) (a b : Int) (c0 : Nat → V) (l0 : Nat → List Int) (Kd Vo Wd Tp : Int) (N : Nat) (w4 : V) (fr : Fr) (s : St) : Prop :=
 ∃ (k : Nat) (v : V) (l : List Int), k ≤ N ∧ l.length = (l0 6).length + k ∧ (∀ x ∈ l, x ∈ l0 6 ∨ x ∈ ([0, 1, 8, 1000] : List Int)) ∧ (∀ x, (l0 6)[0]? = some x → l[0]? = some x) ∧ GmS st s0 f xs a (b + k) mb fr s Kd Vo Wd Tp (upd1 c0 6 v) ∧ GmO st.length s (upd1 c0 6 v) (fun j => if j = 6 then l else l0 j) ∧ fr.g 99 = I k ∧ fr.g 4 = w4 ∧ fr.g 98 = I N
set_option maxRecDepth 10000 in
theorem gm_odds {l0 : Nat → List Int} {N : Nat} {w4 : V} (hM : M s0 = true) (hN : N ≤ 64) (hab : 0 ≤ a ∧ a ≤ b ∧ b ≤ a + 8000 ∧ a ≤ 10000000) (hl0 : (l0 6).length ≤ 10) {b0 : MC} (hb0 : b0 = F_gmodel.code.r.r.r.r.r.r.r.r.r.r.r.l.r.bb.bb) {Q : Post}
  (h : LInv_odds st s0 mb f xs a b c l0 Kd Vo Wd Tp N w4 fr s) (hQ : ∀ fr s, LInv_odds st s0 mb f xs a b c l0 Kd Vo Wd Tp N w4 fr s → fr.g 99 = I N → Q (.exit 5) fr s) : wpM Tryz.prog T (liftM (upM st.length M)) (.loop b0) Q fr s := by
 subst hb0
 refine wp_mloop (LInv_odds st s0 mb f xs a b c l0 Kd Vo Wd Tp N w4) (fun fr _ => N - nat (fr.g 99)) h ?_
 clear h
 rintro fr s h
 obtain ⟨k, v, l, hk, hl, hr, hf0, hS, hO, hc, h4, hbnd⟩ := id h
 by_cases hlt : k < N
 ·have hup : upM st.length M s0 = true := upM_of hM
  obtain ⟨a', e1, e2, g⟩ := hS.gs
  have hlt0 := hS.lt
  have hmb := hS.hmb
  have hmbl : mb < s.length := (List.getElem?_eq_some_iff.1 hS.md).1
  have ho := hO.o 6 (by decide)
  simp only [upd1_eq, if_true] at ho
  have hmv : mb ∉ ownL v := fun hm => by
   rcases ho with ⟨-, rfl⟩ | ⟨b2, h1, h2, rfl⟩
   ·simp [ownL] at hm
   ·simp [ownL] at hm; subst hm; rw [hS.md] at h2; simp [mdl] at h2
  have hrd := rd_ne (s0 := s0) (v := v) (show mb ≠ s0 by omega) hmv
  have md := hS.md
  simp [F_gmodel, MC.l, MC.r, MC.bb, hc, hlt, hbnd]
  refine wp_mtail (s0 :: ownL v) [] ?_
  simp [hS.g3, hS.g0, md, mdl, hrd]
  have e5 : (s ++ [Blk.row 3 1 [I 0, I 1, I 8, I 1000]])[s.length]? = some (.row 3 1 (ints [0, 1, 8, 1000])) := by simp [ints]
  refine pick_g (g.more _) (inW_hd hup) (by omega) e5 (by omega) rfl (by simp) fun x s2 hx g2 b2 => ?_
  have R2 := get_but (get_more hS.rb _) b2 (by omega)
  have m2 := get_but (get_more hS.md _) b2 (by omega)
  have O2 := (hO.more [Blk.row 3 1 [I 0, I 1, I 8, I 1000]]).but b2 hlt0
  have hl2 : s.length < s2.length := by rw [b2.1]; simp
  simp
  have ho2 := O2.o 6 (by decide)
  simp only [upd1_eq, if_true] at ho2
  refine app_out (ho2.more [Blk.row 3 1 [I x]]) (by simp; have := g2.same.len; omega) (news := [I x]) (by simp) (by simp) (Or.inl (by simp)) (fun b3 L h1 h2 j => inW_mem (by simp [upM, h1]) (by rw [h2]; simp [ownL]) j) (by simp; omega) (by simp; omega) fun v' s3 o3 hl3 hb3 hk3 hn3 => ?_
  have m3 : s3[mb]? = some (mdl Kd Vo Wd Tp (upd1 c 6 v)) := by rw [hk3 mb (by simp; omega) hmv]; exact get_more m2 _
  have R3 : s3[st.length]? = some (mdl 0 0 0 0 nils) := by
   rw [hk3 st.length (by simp; omega) ?_]
   ·exact get_more R2 _
   ·intro hm
    rcases ho with ⟨-, rfl⟩ | ⟨b2', h1, h2, rfl⟩
    ·simp [ownL] at hm
    ·simp [ownL] at hm; subst hm; rw [hS.rb] at h2; simp [mdl] at h2
  have g3 := (g2.more [Blk.row 3 1 [I x]]).to hl3 hb3
  have O3 := (O2.more [Blk.row 3 1 [I x]]).grow (i := 6) (by decide) (v := v') (m := l ++ [x]) (by rw [ints_append]; exact o3) (fun b hb hnb => hk3 b hb (by simpa using hnb)) (fun b hb => by simpa using hn3 b hb)
  have lv : v'.leaf = true := by rcases o3 with ⟨-, rfl⟩ | ⟨_, -, -, rfl⟩ <;> rfl
  have c' : v'.cells = [v'] := by rcases o3 with ⟨-, rfl⟩ | ⟨_, -, -, rfl⟩ <;> rfl
  have hrd3 : mb < st.length → False := by omega
  simp [m3, mdl, hS.up, lv, c', hc, w64 (n := (k : Int) + 1) (by omega) (by omega)]
  refine ⟨⟨k + 1, v', l ++ [x], by omega, by simp [hl]; omega, fun y hy => ?_, fun y hy => ?_, hS.step (g3.set (by omega) _) (by omega) (by push_cast; omega) (get_ne R3 (by omega) _) (c' := upd1 c 6 v') (get_set m3 _) (by simp) (by simp) (by simp) (by simp), ?_, by simp, by simp [h4], by simp [hbnd]⟩, by omega⟩
  ·rcases List.mem_append.1 hy with hy | hy
   ·exact hr y hy
   ·simp at hy; subst hy; exact Or.inr hx
  ·have h0 := hf0 y hy
   rw [List.getElem?_append_left (List.getElem?_eq_some_iff.1 h0).1]; exact h0
  ·have O4 := O3.apart (m := mb) m3 (by decide) (mdl Kd Vo Wd Tp (upd1 c 6 v'))
   refine ⟨fun j hj => ?_, fun j j2 h1 h2 h3 => ?_⟩
   ·have := O4.o j hj
    by_cases hji : j = 6
    ·subst hji; simpa [mdl] using this
    ·simpa [hji, mdl] using this
   ·have := O4.d j j2 h1 h2 h3
    by_cases hji : j = 6 <;> by_cases hji2 : j2 = 6 <;> simpa [hji, hji2] using this
 ·obtain rfl : k = N := by omega
  simp [F_gmodel, MC.l, MC.r, MC.bb, hc, hbnd]
  obtain ⟨a', e1, e2, g⟩ := hS.gs
  exact hQ _ s ⟨_, v, l, hk, hl, hr, hf0, hS.step g e1 e2 hS.rb hS.md (by simp) (by simp) (by simp) (by simp), hO, by simp [hc], by simp [h4], by simp [hbnd]⟩ (by simp [hc])
theorem sbytes_g {n sb : Nat} {a : Int} (g : GS n sb st s f xs a) (hM : M sb = true) (ha : 0 ≤ a ∧ a ≤ 100000000) (m : Int) (hm : 0 ≤ m ∧ m ≤ 400) (hK : ∀ gg l a' s', (l.length : Int) = m → (∀ x ∈ l, -128 ≤ x ∧ x ≤ 127) → a ≤ a' → a' ≤ a + 2 * m → GS n sb st s' f xs a' → But sb s s' → K (.lst gg (ints l)) s') :
  CallV Tryz.prog T M 83 [.ptr sb 1 0 0, I m] s K Kp := by
 obtain ⟨k, rfl⟩ : ∃ k : Nat, m = k := ⟨m.toNat, by omega⟩
 exact sbytes_v sb k (by omega) g.str hM g.src ha fun gg l a' h1 h2 h3 h4 => hK gg l a' _ (by omega) h2 h3 h4 (g.next _) (But.set _ _ _)
structure GmF (c : Nat → V) (l : Nat → List Int) (fl : Nat → Bool) : Prop where
 h1 : c 1 = .lst (fl 1) (ints (l 1))
 h2 : c 2 = .lst (fl 2) (ints (l 2))
 h3 : c 3 = .lst (fl 3) (ints (l 3))
 h4 : c 4 = .lst (fl 4) (ints (l 4))
theorem GmS.wide (h : GmS st s0 f xs a b mb fr s Kd Vo Wd Tp c) {b' : Int} (hb : b ≤ b') : GmS st s0 f xs a b' mb fr s Kd Vo Wd Tp c := by
 obtain ⟨a', h1, h2, h3⟩ := h.gs
 exact ⟨⟨a', h1, by omega, h3⟩, h.rb, h.md, h.hmb, h.g0, h.g2, h.g3, h.df⟩
set_option maxRecDepth 10000 in
theorem gm_11 (hK : GK st s0 f xs a K) (hM : M s0 = true) (ha : 0 ≤ a ∧ a ≤ 10000000) (h : GmS st s0 f xs a (a + 5000) mb fr s Kd Vo Wd Tp c) {l : Nat → List Int} (hO : GmO st.length s c l) {fl : Nat → Bool} (hF : GmF c l fl) {y : Int} (hy : l 6 = [y]) (hy2 : 1 ≤ y ∧ y ≤ 40)
  (hgen : ∀ o : List Int, (1 ≤ o.length ∧ o.length ≤ 64) → (∀ x ∈ o, 0 ≤ x ∧ x ≤ 1000) → (∃ x0, o[0]? = some x0 ∧ 1 ≤ x0) → GenM ⟨Kd, Vo, Wd, Tp, l 0, l 1, l 2, l 3, l 4, l 5, o⟩) :
  wpM Tryz.prog T (liftM (upM st.length M)) F_gmodel.code.r.r.r.r.r.r.r.r.r.r.r (GQ st K Kp) fr s := by
 have hend : ∀ (fr : Fr) (s : St) (c : Nat → V) (l : Nat → List Int), GmS st s0 f xs a (a + 10000) mb fr s Kd Vo Wd Tp c → GmO st.length s c l → GmF c l fl → GenM ⟨Kd, Vo, Wd, Tp, l 0, l 1, l 2, l 3, l 4, l 5, l 6⟩ → wpM Tryz.prog T (liftM (upM st.length M)) F_gmodel.code.r.r.r.r.r.r.r.r.r.r.r.r (GQ st K Kp) fr s := fun fr s c l h1 h2 h3 h4 =>
  gm_end hK hM h1 (h2.o 0 (by decide)) (h2.o 5 (by decide)) (h2.o 6 (by decide)) h3.h1 h3.h2 h3.h3 h3.h4 h4
 have e : F_gmodel.code.r.r.r.r.r.r.r.r.r.r.r = .seq F_gmodel.code.r.r.r.r.r.r.r.r.r.r.r.l F_gmodel.code.r.r.r.r.r.r.r.r.r.r.r.r := rfl
 rw [e, wp_mseq]
 generalize wpM Tryz.prog T (liftM (upM st.length M)) F_gmodel.code.r.r.r.r.r.r.r.r.r.r.r.r (GQ st K Kp) = k12 at hend ⊢
 have hup : upM st.length M s0 = true := upM_of hM
 obtain ⟨a', e1, e2, g⟩ := h.gs
 have hlt := h.lt
 simp [F_gmodel, MC.l, MC.r, h.g0]
 have e5 : (s ++ [Blk.row 3 1 [I 0, I 1, I 4, I 63]])[s.length]? = some (.row 3 1 (ints [0, 1, 4, 63])) := by simp [ints]
 refine pick_g (g.more _) hup (by omega) e5 (Nat.ne_of_gt (Nat.lt_of_lt_of_le hlt g.same.len)) rfl (by simp) fun N s2 hN g2 b2 => ?_
 have hN' : 0 ≤ N ∧ N ≤ 63 := by simp at hN; omega
 obtain ⟨n, rfl⟩ : ∃ n : Nat, N = n := ⟨N.toNat, by omega⟩
 have hmb := h.hmb
 have O2 := (hO.more [Blk.row 3 1 [I 0, I 1, I 4, I 63]]).but b2 hlt
 have R2 := get_but (get_more h.rb _) b2 (by omega)
 have m2 := get_but (get_more h.md _) b2 (by omega)
 try simp
 refine gm_odds (a := a) (b := a + 5010) (l0 := l) (N := n) (w4 := fr.g 4) (c := c) hM (by omega) (by omega) (by rw [hy]; simp) rfl ⟨0, c 6, l 6, by omega, by simp, fun x hx => Or.inl hx, fun x hx => hx, h.step g2 (by omega) (by omega) R2 (c' := upd1 c 6 (c 6)) (by simpa [mdl] using m2) (by simp) (by simp) (by simp) (by simp), ?_, by simp, by simp, by simp⟩ ?_
 ·exact O2.id 6
 ·rintro fr3 s3 ⟨k, v, o, q1, q2, q3, q4, hS, hO3, q5, q6, q7⟩ q8
  simp
  have hkn : k = n := by rw [q8] at q5; simp at q5; omega
  refine hend fr3 s3 (upd1 c 6 v) _ (hS.wide (by omega)) hO3 ⟨by simpa using hF.h1, by simpa using hF.h2, by simpa using hF.h3, by simpa using hF.h4⟩ ?_
  simp
  have q2' : o.length = 1 + k := by rw [q2, hy]; rfl
  refine hgen o ⟨by omega, by omega⟩ (fun x hx => ?_) ⟨y, q4 y (by rw [hy]; rfl), hy2.1⟩
  rcases q3 x hx with hx | hx
  ·rw [hy] at hx; simp at hx; omega
  ·simp at hx; omega
set_option maxRecDepth 10000 in
theorem gm_10 (hK : GK st s0 f xs a K) (hM : M s0 = true) (ha : 0 ≤ a ∧ a ≤ 10000000) (h : GmS st s0 f xs a (a + 4900) mb fr s Kd Vo Wd Tp c) {l : Nat → List Int} (hO : GmO st.length s c l) {fl : Nat → Bool} (hF : GmF c l fl)
  (hgen : ∀ o : List Int, (1 ≤ o.length ∧ o.length ≤ 64) → (∀ x ∈ o, 0 ≤ x ∧ x ≤ 1000) → (∃ x0, o[0]? = some x0 ∧ 1 ≤ x0) → GenM ⟨Kd, Vo, Wd, Tp, l 0, l 1, l 2, l 3, l 4, l 5, o⟩) :
  wpM Tryz.prog T (liftM (upM st.length M)) F_gmodel.code.r.r.r.r.r.r.r.r.r.r (GQ st K Kp) fr s := by
 have hend : ∀ (fr : Fr) (s : St) (c : Nat → V) (l' : Nat → List Int) (y : Int), GmS st s0 f xs a (a + 5000) mb fr s Kd Vo Wd Tp c → GmO st.length s c l' → GmF c l' fl → l' 6 = [y] → 1 ≤ y ∧ y ≤ 40 → (∀ i, i ≠ 6 → l' i = l i) → wpM Tryz.prog T (liftM (upM st.length M)) F_gmodel.code.r.r.r.r.r.r.r.r.r.r.r (GQ st K Kp) fr s := fun fr s c l' y h1 h2 h3 h4 h5 h6 =>
  gm_11 hK hM ha h1 h2 h3 h4 h5 fun o q1 q2 q3 => by rw [h6 0 (by decide), h6 1 (by decide), h6 2 (by decide), h6 3 (by decide), h6 4 (by decide), h6 5 (by decide)]; exact hgen o q1 q2 q3
 have e : F_gmodel.code.r.r.r.r.r.r.r.r.r.r = .seq F_gmodel.code.r.r.r.r.r.r.r.r.r.r.l F_gmodel.code.r.r.r.r.r.r.r.r.r.r.r := rfl
 rw [e, wp_mseq]
 generalize wpM Tryz.prog T (liftM (upM st.length M)) F_gmodel.code.r.r.r.r.r.r.r.r.r.r.r (GQ st K Kp) = k12 at hend ⊢
 have hup : upM st.length M s0 = true := upM_of hM
 obtain ⟨a', e1, e2, g⟩ := h.gs
 have hlt := h.lt
 have hmb := h.hmb
 simp [F_gmodel, MC.l, MC.r, h.g0]
 refine range_g g hup (by omega) 1 40 (by omega) (by omega) (by omega) fun y s2 y1 y2 g2 b2 => ?_
 have R2 := get_but h.rb b2 (by omega)
 have m2 := get_but h.md b2 (by omega)
 have O2 := hO.but b2 hlt
 have m3 := get_more m2 [Blk.row 3 1 [I y]]
 simp [h.g3, m3, mdl, h.up]
 have o3 : OutS st.length 3 1 (s2 ++ [Blk.row 3 1 [I y]]) (.own s2.length 1 0 1) (ints [y]) := Or.inr ⟨s2.length, g2.same.len, by simp [ints], by simp [ints]⟩
 have O3 := O2.grow (i := 6) (by decide) o3 (fun b hb _ => List.getElem?_append_left hb) (fun b hb => by simp [ownL] at hb; exact Or.inr (by omega))
 have O4 := O3.apart m3 (by decide) (mdl Kd Vo Wd Tp (upd1 c 6 (.own s2.length 1 0 1)))
 refine hend _ _ (upd1 c 6 (.own s2.length 1 0 1)) (fun j => if j = 6 then [y] else l j) y (h.step ((g2.more _).set (by omega) _) (by omega) (by omega) (get_ne (get_more R2 _) (by omega) _) (get_set m3 (mdl Kd Vo Wd Tp (upd1 c 6 (.own s2.length 1 0 1)))) (by simp) (by simp) (by simp) (by simp)) ?_ ⟨by simpa using hF.h1, by simpa using hF.h2, by simpa using hF.h3, by simpa using hF.h4⟩ (by simp) ⟨y1, y2⟩ (fun i hi => by simp [hi])
 simpa [mdl] using O4
set_option maxRecDepth 10000 in
theorem gm_9 (hK : GK st s0 f xs a K) (hM : M s0 = true) (ha : 0 ≤ a ∧ a ≤ 10000000) (h : GmS st s0 f xs a (a + 4800) mb fr s Kd Vo Wd Tp c) {l : Nat → List Int} (hO : GmO st.length s c l) {fl : Nat → Bool} (hF : GmF c l fl) (hl5 : l 5 = [])
  (hgen : ∀ q o : List Int, (1 ≤ q.length ∧ q.length ≤ 64) → (∀ x ∈ q, 0 ≤ x ∧ x ≤ 1000) → (1 ≤ o.length ∧ o.length ≤ 64) → (∀ x ∈ o, 0 ≤ x ∧ x ≤ 1000) → (∃ x0, o[0]? = some x0 ∧ 1 ≤ x0) → GenM ⟨Kd, Vo, Wd, Tp, l 0, l 1, l 2, l 3, l 4, q, o⟩) :
  wpM Tryz.prog T (liftM (upM st.length M)) F_gmodel.code.r.r.r.r.r.r.r.r.r (GQ st K Kp) fr s := by
 have hend : ∀ (fr : Fr) (s : St) (c : Nat → V) (l' : Nat → List Int), GmS st s0 f xs a (a + 4900) mb fr s Kd Vo Wd Tp c → GmO st.length s c l' → GmF c l' fl → (1 ≤ (l' 5).length ∧ (l' 5).length ≤ 64) → (∀ x ∈ l' 5, 0 ≤ x ∧ x ≤ 1000) → (∀ i, i ≠ 5 → l' i = l i) → wpM Tryz.prog T (liftM (upM st.length M)) F_gmodel.code.r.r.r.r.r.r.r.r.r.r (GQ st K Kp) fr s := fun fr s c l' h1 h2 h3 h4 h5 h6 =>
  gm_10 hK hM ha h1 h2 h3 fun o q1 q2 q3 => by rw [h6 0 (by decide), h6 1 (by decide), h6 2 (by decide), h6 3 (by decide), h6 4 (by decide)]; exact hgen _ o h4 h5 q1 q2 q3
 have e : F_gmodel.code.r.r.r.r.r.r.r.r.r = .seq F_gmodel.code.r.r.r.r.r.r.r.r.r.l F_gmodel.code.r.r.r.r.r.r.r.r.r.r := rfl
 rw [e, wp_mseq]
 generalize wpM Tryz.prog T (liftM (upM st.length M)) F_gmodel.code.r.r.r.r.r.r.r.r.r.r (GQ st K Kp) = k12 at hend ⊢
 have hup : upM st.length M s0 = true := upM_of hM
 obtain ⟨a', e1, e2, g⟩ := h.gs
 have hlt := h.lt
 have hmb := h.hmb
 simp [F_gmodel, MC.l, MC.r, h.g0]
 have e5 : (s ++ [Blk.row 3 1 [I 1, I 2, I 5, I 64]])[s.length]? = some (.row 3 1 (ints [1, 2, 5, 64])) := by simp [ints]
 refine pick_g (g.more _) hup (by omega) e5 (Nat.ne_of_gt (Nat.lt_of_lt_of_le hlt g.same.len)) rfl (by simp) fun N s2 hN g2 b2 => ?_
 have hN' : 1 ≤ N ∧ N ≤ 64 := by simp at hN; omega
 obtain ⟨n, rfl⟩ : ∃ n : Nat, N = n := ⟨N.toNat, by omega⟩
 have O2 := (hO.more [Blk.row 3 1 [I 1, I 2, I 5, I 64]]).but b2 hlt
 have R2 := get_but (get_more h.rb _) b2 (by omega)
 have m2 := get_but (get_more h.md _) b2 (by omega)
 try simp
 refine gm_soft (a := a) (b := a + 4810) (l0 := l) (N := n) (w4 := fr.g 4) (c := c) hM (by omega) (by omega) (by rw [hl5]; simp) rfl ⟨0, c 5, l 5, by omega, by simp, fun x hx => Or.inl hx, fun x hx => hx, h.step g2 (by omega) (by omega) R2 (c' := upd1 c 5 (c 5)) (by simpa [mdl] using m2) (by simp) (by simp) (by simp) (by simp), ?_, by simp, by simp, by simp⟩ ?_
 ·exact O2.id 5
 ·rintro fr3 s3 ⟨k, v, o, q1, q2, q3, q4, hS, hO3, q5, q6, q7⟩ q8
  simp
  have hkn : k = n := by rw [q8] at q5; simp at q5; omega
  refine hend fr3 s3 (upd1 c 5 v) _ (hS.wide (by omega)) hO3 ⟨by simpa using hF.h1, by simpa using hF.h2, by simpa using hF.h3, by simpa using hF.h4⟩ ?_ ?_ (fun i hi => by simp [hi])
  ·have q2' : o.length = 0 + k := by rw [q2, hl5]; rfl
   simp
   omega
  ·simp
   intro x hx
   rcases q3 x hx with hx | hx
   ·rw [hl5] at hx; simp at hx
   ·simp at hx; omega
theorem GmO.val {n : Nat} {s : St} {c : Nat → V} {l : Nat → List Int} (h : GmO n s c l) {i : Nat} (hi : i ≠ 0 ∧ i ≠ 5 ∧ i ≠ 6) (v : V) (m : List Int) : GmO n s (upd1 c i v) (fun j => if j = i then m else l j) :=
 ⟨fun j hj => by
  have hji : j ≠ i := by omega
  simpa [hji] using h.o j hj, fun j k h1 h2 h3 => by
  have hji : j ≠ i := by omega
  have hki : k ≠ i := by omega
  simpa [hji, hki] using h.d j k h1 h2 h3⟩
set_option maxRecDepth 10000 in
theorem gm_8 (hK : GK st s0 f xs a K) (hM : M s0 = true) (ha : 0 ≤ a ∧ a ≤ 10000000) (h : GmS st s0 f xs a (a + 2000) mb fr s Kd Vo Wd Tp c) {l : Nat → List Int} (hO : GmO st.length s c l) {fl : Nat → Bool} (h1 : c 1 = .lst (fl 1) (ints (l 1))) (h4 : c 4 = .lst (fl 4) (ints (l 4))) (hl5 : l 5 = [])
  {mn : Int} (h4m : fr.g 4 = I mn) (hmn : 1 ≤ mn ∧ mn ≤ 4) (hwd : 1 ≤ Wd ∧ Wd ≤ 5)
  (hgen : ∀ p x q o : List Int, ((∃ r : Int, 1 ≤ r ∧ r ≤ 16 ∧ (p.length : Int) = r * Wd) ∧ ∀ y ∈ p, -128 ≤ y ∧ y ≤ 127) → ((x.length : Int) = mn * Wd * Wd ∧ ∀ y ∈ x, -128 ≤ y ∧ y ≤ 127) → (1 ≤ q.length ∧ q.length ≤ 64) → (∀ x ∈ q, 0 ≤ x ∧ x ≤ 1000) → (1 ≤ o.length ∧ o.length ≤ 64) → (∀ x ∈ o, 0 ≤ x ∧ x ≤ 1000) → (∃ x0, o[0]? = some x0 ∧ 1 ≤ x0) → GenM ⟨Kd, Vo, Wd, Tp, l 0, l 1, p, x, l 4, q, o⟩) :
  wpM Tryz.prog T (liftM (upM st.length M)) F_gmodel.code.r.r.r.r.r.r.r.r (GQ st K Kp) fr s := by
 have hend : ∀ (fr : Fr) (s : St) (p x : List Int) (g2 g3 : Bool), GmS st s0 f xs a (a + 4800) mb fr s Kd Vo Wd Tp (upd1 (upd1 c 2 (.lst g2 (ints p))) 3 (.lst g3 (ints x))) → GmO st.length s (upd1 (upd1 c 2 (.lst g2 (ints p))) 3 (.lst g3 (ints x))) (fun j => if j = 3 then x else if j = 2 then p else l j) →
   ((∃ r : Int, 1 ≤ r ∧ r ≤ 16 ∧ (p.length : Int) = r * Wd) ∧ ∀ y ∈ p, -128 ≤ y ∧ y ≤ 127) → ((x.length : Int) = mn * Wd * Wd ∧ ∀ y ∈ x, -128 ≤ y ∧ y ≤ 127) → wpM Tryz.prog T (liftM (upM st.length M)) F_gmodel.code.r.r.r.r.r.r.r.r.r (GQ st K Kp) fr s := fun fr s p x g2 g3 q1 q2 q3 q4 =>
  gm_9 hK hM ha q1 q2 (fl := fun i => if i = 2 then g2 else if i = 3 then g3 else fl i) ⟨by simpa using h1, by simp, by simp, by simpa using h4⟩ (by simpa using hl5) fun q o z1 z2 z3 z4 z5 => by simpa using hgen p x q o q3 q4 z1 z2 z3 z4 z5
 have e : F_gmodel.code.r.r.r.r.r.r.r.r = .seq F_gmodel.code.r.r.r.r.r.r.r.r.l F_gmodel.code.r.r.r.r.r.r.r.r.r := rfl
 rw [e, wp_mseq]
 generalize wpM Tryz.prog T (liftM (upM st.length M)) F_gmodel.code.r.r.r.r.r.r.r.r.r (GQ st K Kp) = k12 at hend ⊢
 have hup : upM st.length M s0 = true := upM_of hM
 obtain ⟨a', e1, e2, g⟩ := h.gs
 have hlt := h.lt
 have hmb := h.hmb
 have hmbl : mb < s.length := (List.getElem?_eq_some_iff.1 h.md).1
 have hw2 : 0 ≤ mn * Wd ∧ mn * Wd ≤ 20 := ⟨Int.mul_nonneg (by omega) (by omega), Int.mul_le_mul hmn.2 hwd.2 (by omega) (by omega)⟩
 have hw3 : 0 ≤ mn * Wd * Wd ∧ mn * Wd * Wd ≤ 100 := ⟨Int.mul_nonneg hw2.1 (by omega), Int.mul_le_mul hw2.2 hwd.2 (by omega) (by omega)⟩
 have hr1 : rdW [s0] [(mb, 6)] mb 1 = true := by simp [rdW]; omega
 have hr2 : rdW [s0] [(mb, 6)] mb 2 = true := by simp [rdW]; omega
 have hw6 : inW s.length [s0] [(mb, 6)] (liftM (upM st.length M)) mb 6 = true := by simp [inW, h.up]
 simp only [F_gmodel, MC.l, MC.r]
 refine wp_mtail [s0] [(mb, 6)] ?_
 simp [h.g0, h.g3, h.md, mdl, hr2, h4m, w64 (n := mn * Wd) (by omega) (by omega), w64 (n := mn * Wd * Wd) (by omega) (by omega)]
 have e5 : (s ++ [Blk.row 3 1 [I 1, I 2, I 4, I 16]])[s.length]? = some (.row 3 1 (ints [1, 2, 4, 16])) := by simp [ints]
 refine pick_g (g.more _) (inW_hd hup) (by omega) e5 (by omega) rfl (by simp) fun r s2 hr g2 b2 => ?_
 have hr' : 1 ≤ r ∧ r ≤ 16 := by simp at hr; omega
 have O2 := (hO.more [Blk.row 3 1 [I 1, I 2, I 4, I 16]]).but b2 hlt
 have R2 := get_but (get_more h.rb _) b2 (by omega)
 have m2 := get_but (get_more h.md _) b2 (by omega)
 have hp : 0 ≤ r * Wd ∧ r * Wd ≤ 80 := ⟨Int.mul_nonneg (by omega) (by omega), Int.mul_le_mul hr'.2 hwd.2 (by omega) (by omega)⟩
 simp [w64 (n := r * Wd) (by omega) (by omega)]
 refine sbytes_g g2 (inW_hd hup) (by omega) (r * Wd) (by omega) fun gp p a3 s3 p1 p2 p3 p4 g3 b3 => ?_
 have O3 := O2.but b3 hlt
 have R3 := get_but R2 b3 (by omega)
 have m3 := get_but m2 b3 (by omega)
 simp
 refine sbytes_g g3 (inW_hd hup) (by omega) (mn * Wd * Wd) (by omega) fun gx x a4 s4 x1 x2 x3 x4 g4 b4 => ?_
 have O4 := O3.but b4 hlt
 have F_gmodel.code.r.r.r.r := get_but R3 b4 (by omega)
 have m4 := get_but m3 b4 (by omega)
 have m5 := get_set m4 (mdl Kd Vo Wd Tp (upd1 c 2 (.lst gp (ints p))))
 simp [m4, mdl, h.up, hw6]
 simp [mdl] at m5
 simp [m5]
 have O5 := ((O4.apart m4 (by decide) (mdl Kd Vo Wd Tp (upd1 (upd1 c 2 (.lst gp (ints p))) 3 (.lst gx (ints x))))).val (i := 2) (by decide) (.lst gp (ints p)) p).val (i := 3) (by decide) (.lst gx (ints x)) x
 refine hend _ _ p x gp gx (h.step (g4.set (by omega) _) (by omega) (by omega) (get_ne F_gmodel.code.r.r.r.r (by omega) _) (get_set m4 (mdl Kd Vo Wd Tp (upd1 (upd1 c 2 (.lst gp (ints p))) 3 (.lst gx (ints x))))) (by simp) (by simp) (by simp) (by simp)) (by simpa [mdl] using O5) ⟨⟨r, hr'.1, hr'.2, p1⟩, p2⟩ ⟨x1, x2⟩
set_option maxRecDepth 10000 in
theorem gm_7 (hK : GK st s0 f xs a K) (hM : M s0 = true) (ha : 0 ≤ a ∧ a ≤ 10000000) (h : GmS st s0 f xs a (a + 100) mb fr s Kd Vo Wd Tp c) {l : Nat → List Int} (hO : GmO st.length s c l) (hl5 : l 5 = [])
  {mn : Int} (h4m : fr.g 4 = I mn) (hmn : 1 ≤ mn ∧ mn ≤ 4) (hwd : 1 ≤ Wd ∧ Wd ≤ 5) (hvo : 2 ≤ Vo ∧ Vo ≤ 16)
  (hgen : ∀ em ou p x q o : List Int, ((em.length : Int) = Vo * Wd ∧ ∀ y ∈ em, -128 ≤ y ∧ y ≤ 127) → ((ou.length : Int) = Vo * Wd ∧ ∀ y ∈ ou, -128 ≤ y ∧ y ≤ 127) → ((∃ r : Int, 1 ≤ r ∧ r ≤ 16 ∧ (p.length : Int) = r * Wd) ∧ ∀ y ∈ p, -128 ≤ y ∧ y ≤ 127) → ((x.length : Int) = mn * Wd * Wd ∧ ∀ y ∈ x, -128 ≤ y ∧ y ≤ 127) → (1 ≤ q.length ∧ q.length ≤ 64) → (∀ x ∈ q, 0 ≤ x ∧ x ≤ 1000) → (1 ≤ o.length ∧ o.length ≤ 64) → (∀ x ∈ o, 0 ≤ x ∧ x ≤ 1000) → (∃ x0, o[0]? = some x0 ∧ 1 ≤ x0) → GenM ⟨Kd, Vo, Wd, Tp, l 0, em, p, x, ou, q, o⟩) :
  wpM Tryz.prog T (liftM (upM st.length M)) F_gmodel.code.r.r.r.r.r.r.r (GQ st K Kp) fr s := by
 have hend : ∀ (fr : Fr) (s : St) (p x : List Int) (g2 g3 : Bool), GmS st s0 f xs a (a + 2000) mb fr s Kd Vo Wd Tp (upd1 (upd1 c 1 (.lst g2 (ints p))) 4 (.lst g3 (ints x))) → GmO st.length s (upd1 (upd1 c 1 (.lst g2 (ints p))) 4 (.lst g3 (ints x))) (fun j => if j = 4 then x else if j = 1 then p else l j) → fr.g 4 = I mn →
   ((p.length : Int) = Vo * Wd ∧ ∀ y ∈ p, -128 ≤ y ∧ y ≤ 127) → ((x.length : Int) = Vo * Wd ∧ ∀ y ∈ x, -128 ≤ y ∧ y ≤ 127) → wpM Tryz.prog T (liftM (upM st.length M)) F_gmodel.code.r.r.r.r.r.r.r.r (GQ st K Kp) fr s := fun fr s p x g2 g3 q1 q2 q5 q3 q4 =>
  gm_8 hK hM ha q1 q2 (fl := fun i => if i = 1 then g2 else g3) (by simp) (by simp) (by simpa using hl5) q5 hmn hwd fun p' x' q o z1 z2 z3 z4 z5 z6 z7 => by simpa using hgen p x p' x' q o q3 q4 z1 z2 z3 z4 z5 z6 z7
 have e : F_gmodel.code.r.r.r.r.r.r.r = .seq F_gmodel.code.r.r.r.r.r.r.r.l F_gmodel.code.r.r.r.r.r.r.r.r := rfl
 rw [e, wp_mseq]
 generalize wpM Tryz.prog T (liftM (upM st.length M)) F_gmodel.code.r.r.r.r.r.r.r.r (GQ st K Kp) = k12 at hend ⊢
 have hup : upM st.length M s0 = true := upM_of hM
 obtain ⟨a', e1, e2, g⟩ := h.gs
 have hlt := h.lt
 have hmb := h.hmb
 have hmbl : mb < s.length := (List.getElem?_eq_some_iff.1 h.md).1
 have hw2 : 0 ≤ Vo * Wd ∧ Vo * Wd ≤ 80 := ⟨Int.mul_nonneg (by omega) (by omega), Int.mul_le_mul hvo.2 hwd.2 (by omega) (by omega)⟩
 have hr1 : rdW [s0] [(mb, 5)] mb 1 = true := by simp [rdW]; omega
 have hr2 : rdW [s0] [(mb, 5)] mb 2 = true := by simp [rdW]; omega
 have hw6 : inW s.length [s0] [(mb, 5)] (liftM (upM st.length M)) mb 5 = true := by simp [inW, h.up]
 simp only [F_gmodel, MC.l, MC.r]
 refine wp_mtail [s0] [(mb, 5)] ?_
 simp [h.g0, h.g3, h.md, mdl, hr1, hr2, w64 (n := Vo * Wd) (by omega) (by omega)]
 refine sbytes_g g (inW_hd hup) (by omega) (Vo * Wd) (by omega) fun gp p a3 s3 p1 p2 p3 p4 g3 b3 => ?_
 have O3 := hO.but b3 hlt
 have R3 := get_but h.rb b3 (by omega)
 have m3 := get_but h.md b3 (by omega)
 simp
 refine sbytes_g g3 (inW_hd hup) (by omega) (Vo * Wd) (by omega) fun gx x a4 s4 x1 x2 x3 x4 g4 b4 => ?_
 have O4 := O3.but b4 hlt
 have F_gmodel.code.r.r.r.r := get_but R3 b4 (by omega)
 have m4 := get_but m3 b4 (by omega)
 have m5 := get_set m4 (mdl Kd Vo Wd Tp (upd1 c 1 (.lst gp (ints p))))
 simp [m4, mdl, h.up, hw6]
 simp [mdl] at m5
 simp [m5]
 have O5 := ((O4.apart m4 (by decide) (mdl Kd Vo Wd Tp (upd1 (upd1 c 1 (.lst gp (ints p))) 4 (.lst gx (ints x))))).val (i := 1) (by decide) (.lst gp (ints p)) p).val (i := 4) (by decide) (.lst gx (ints x)) x
 refine hend _ _ p x gp gx (h.step (g4.set (by omega) _) (by omega) (by omega) (get_ne F_gmodel.code.r.r.r.r (by omega) _) (get_set m4 (mdl Kd Vo Wd Tp (upd1 (upd1 c 1 (.lst gp (ints p))) 4 (.lst gx (ints x))))) (by simp) (by simp) (by simp) (by simp)) (by simpa [mdl] using O5) (by simp [h4m]) ⟨p1, p2⟩ ⟨x1, x2⟩
def GmG (Kd Vo Wd Tp : Int) (cu : List Int) : Prop := ∀ (mn : Int) (em ou p x q o : List Int), (1 ≤ mn ∧ mn ≤ 4 ∧ (Kd = 1 → mn = 3) ∧ (Kd = 2 → mn = 2)) → ((em.length : Int) = Vo * Wd ∧ ∀ y ∈ em, -128 ≤ y ∧ y ≤ 127) → ((ou.length : Int) = Vo * Wd ∧ ∀ y ∈ ou, -128 ≤ y ∧ y ≤ 127) → ((∃ r : Int, 1 ≤ r ∧ r ≤ 16 ∧ (p.length : Int) = r * Wd) ∧ ∀ y ∈ p, -128 ≤ y ∧ y ≤ 127) → ((x.length : Int) = mn * Wd * Wd ∧ ∀ y ∈ x, -128 ≤ y ∧ y ≤ 127) → (1 ≤ q.length ∧ q.length ≤ 64) → (∀ x ∈ q, 0 ≤ x ∧ x ≤ 1000) → (1 ≤ o.length ∧ o.length ≤ 64) → (∀ x ∈ o, 0 ≤ x ∧ x ≤ 1000) → (∃ x0, o[0]? = some x0 ∧ 1 ≤ x0) → GenM ⟨Kd, Vo, Wd, Tp, cu, em, p, x, ou, q, o⟩
set_option maxRecDepth 10000 in
theorem gm_6 (hK : GK st s0 f xs a K) (hM : M s0 = true) (ha : 0 ≤ a ∧ a ≤ 10000000) (h : GmS st s0 f xs a (a + 90) mb fr s Kd Vo Wd Tp c) {l : Nat → List Int} (hO : GmO st.length s c l) (hl5 : l 5 = []) (h4 : fr.g 4 = I 3)
  (_hkd : 1 ≤ Kd ∧ Kd ≤ 3) (hwd : 1 ≤ Wd ∧ Wd ≤ 5) (hvo : 2 ≤ Vo ∧ Vo ≤ 16) (hgen : GmG Kd Vo Wd Tp (l 0)) :
  wpM Tryz.prog T (liftM (upM st.length M)) F_gmodel.code.r.r.r.r.r.r (GQ st K Kp) fr s := by
 have hend : ∀ (fr : Fr) (s : St) (mn : Int), GmS st s0 f xs a (a + 100) mb fr s Kd Vo Wd Tp c → GmO st.length s c l → fr.g 4 = I mn → (1 ≤ mn ∧ mn ≤ 4 ∧ (Kd = 1 → mn = 3) ∧ (Kd = 2 → mn = 2)) → wpM Tryz.prog T (liftM (upM st.length M)) F_gmodel.code.r.r.r.r.r.r.r (GQ st K Kp) fr s := fun fr s mn q1 q2 q3 q4 =>
  gm_7 hK hM ha q1 q2 hl5 q3 ⟨q4.1, q4.2.1⟩ hwd hvo fun em ou p x q o => hgen mn em ou p x q o q4
 have e : F_gmodel.code.r.r.r.r.r.r = .seq F_gmodel.code.r.r.r.r.r.r.l F_gmodel.code.r.r.r.r.r.r.r := rfl
 rw [e, wp_mseq]
 generalize wpM Tryz.prog T (liftM (upM st.length M)) F_gmodel.code.r.r.r.r.r.r.r (GQ st K Kp) = k12 at hend ⊢
 have hup : upM st.length M s0 = true := upM_of hM
 obtain ⟨a', e1, e2, g⟩ := h.gs
 have hlt := h.lt
 have hmb := h.hmb
 by_cases k2 : Kd = 2
 ·simp [F_gmodel, MC.l, MC.r, h.g3, h.md, mdl, k2]
  exact hend _ _ 2 (h.step g e1 (by omega) h.rb (by rw [h.md, k2]) (by simp) (by simp) (by simp) (by simp)) hO (by simp) ⟨by omega, by omega, by omega, by omega⟩
 ·by_cases k3 : Kd = 3
  ·simp [F_gmodel, MC.l, MC.r, h.g3, h.g0, h.md, mdl, k3]
   refine range_g g hup (by omega) 1 4 (by omega) (by omega) (by omega) fun mn s2 y1 y2 g2 b2 => ?_
   exact hend _ _ mn (h.step g2 (by omega) (by omega) (get_but h.rb b2 (by omega)) (get_but h.md b2 (by omega)) (by simp) (by simp) (by simp) (by simp)) (hO.but b2 hlt) (by simp) ⟨by omega, by omega, by omega, by omega⟩
  ·simp [F_gmodel, MC.l, MC.r, h.g3, h.md, mdl, show (Kd == 2) = false by simpa using k2, show (Kd == 3) = false by simpa using k3]
   exact hend _ _ 3 (h.step g e1 (by omega) h.rb h.md (by simp) (by simp) (by simp) (by simp)) hO (by simp [h4]) ⟨by omega, by omega, by omega, by omega⟩
set_option maxRecDepth 10000 in
theorem gm_5 (hK : GK st s0 f xs a K) (hM : M s0 = true) (ha : 0 ≤ a ∧ a ≤ 10000000) (h : GmS st s0 f xs a (a + 90) mb fr s Kd Vo Wd Tp c) {l : Nat → List Int} (hO : GmO st.length s c l) (hl5 : l 5 = [])
  (hkd : 1 ≤ Kd ∧ Kd ≤ 3) (hwd : 1 ≤ Wd ∧ Wd ≤ 5) (hvo : 2 ≤ Vo ∧ Vo ≤ 16) (hgen : GmG Kd Vo Wd Tp (l 0)) :
  wpM Tryz.prog T (liftM (upM st.length M)) F_gmodel.code.r.r.r.r.r (GQ st K Kp) fr s := by
 have hend : ∀ (fr : Fr) (s : St), GmS st s0 f xs a (a + 90) mb fr s Kd Vo Wd Tp c → GmO st.length s c l → fr.g 4 = I 3 → wpM Tryz.prog T (liftM (upM st.length M)) F_gmodel.code.r.r.r.r.r.r (GQ st K Kp) fr s := fun fr s q1 q2 q3 =>
  gm_6 hK hM ha q1 q2 hl5 q3 hkd hwd hvo hgen
 have e : F_gmodel.code.r.r.r.r.r = .seq F_gmodel.code.r.r.r.r.r.l F_gmodel.code.r.r.r.r.r.r := rfl
 rw [e, wp_mseq]
 generalize wpM Tryz.prog T (liftM (upM st.length M)) F_gmodel.code.r.r.r.r.r.r (GQ st K Kp) = k12 at hend ⊢
 obtain ⟨a', e1, e2, g⟩ := h.gs
 simp [F_gmodel, MC.l, MC.r]
 exact hend _ _ (h.step g e1 e2 h.rb h.md (by simp) (by simp) (by simp) (by simp)) hO (by simp)
set_option maxRecDepth 10000 in
theorem gm_4 (hK : GK st s0 f xs a K) (hM : M s0 = true) (ha : 0 ≤ a ∧ a ≤ 10000000) (h : GmS st s0 f xs a (a + 10) mb fr s Kd Vo Wd Tp c) {l : Nat → List Int} (hO : GmO st.length s c l) (hl0 : l 0 = []) (hl5 : l 5 = [])
  (hkd : 1 ≤ Kd ∧ Kd ≤ 3) (hwd : 1 ≤ Wd ∧ Wd ≤ 5) (hvo : 2 ≤ Vo ∧ Vo ≤ 16) (htp : 1 ≤ Tp ∧ Tp ≤ Vo) :
  wpM Tryz.prog T (liftM (upM st.length M)) F_gmodel.code.r.r.r.r (GQ st K Kp) fr s := by
 have hend : ∀ (fr : Fr) (s : St) (c : Nat → V) (l' : Nat → List Int), GmS st s0 f xs a (a + 90) mb fr s Kd Vo Wd Tp c → GmO st.length s c l' → l' 5 = [] → ((l' 0).length = 4 ∧ ∀ x ∈ l' 0, 1 ≤ x ∧ x ≤ 15) → wpM Tryz.prog T (liftM (upM st.length M)) F_gmodel.code.r.r.r.r.r (GQ st K Kp) fr s := fun fr s c l' q1 q2 q3 q4 =>
  gm_5 hK hM ha q1 q2 q3 hkd hwd hvo fun mn em ou p x q o z1 z2 z3 z4 z5 z6 z7 z8 z9 z10 => ⟨hkd, hvo, hwd, htp, q4, z2, z4, ⟨⟨mn, z1.1, z1.2.1, z1.2.2.1, z1.2.2.2, z5.1⟩, z5.2⟩, z3, ⟨z6, z7⟩, ⟨z8, z9, z10⟩⟩
 have e : F_gmodel.code.r.r.r.r = .seq F_gmodel.code.r.r.r.r.l F_gmodel.code.r.r.r.r.r := rfl
 rw [e, wp_mseq]
 generalize wpM Tryz.prog T (liftM (upM st.length M)) F_gmodel.code.r.r.r.r.r (GQ st K Kp) = k12 at hend ⊢
 have hup : upM st.length M s0 = true := upM_of hM
 obtain ⟨a', e1, e2, g⟩ := h.gs
 simp [F_gmodel, MC.l, MC.r]
 refine gm_cuts (a := a) (b := a + 10) (l0 := l) (N := 4) (w4 := fr.g 4) (c := c) hM (by omega) (by omega) (by rw [hl0]; simp) rfl ⟨0, c 0, l 0, by omega, by simp, fun x hx => Or.inl hx, fun x hx => hx, h.step g (by omega) (by simp; omega) h.rb (c' := upd1 c 0 (c 0)) (by simpa [mdl] using h.md) (by simp) (by simp) (by simp) (by simp), ?_, by simp, by simp, rfl⟩ ?_
 ·exact hO.id 0
 ·rintro fr3 s3 ⟨k, v, o, q1, q2, q3, q4, hS, hO3, q5, q6, q7⟩ q8
  simp
  have hkn : k = 4 := by rw [q8] at q5; simp at q5; omega
  refine hend fr3 s3 (upd1 c 0 v) _ (hS.wide (by omega)) hO3 (by simp [hl5]) ⟨?_, ?_⟩
  ·have q2' : o.length = 0 + k := by rw [q2, hl0]; rfl
   simp
   omega
  ·simp
   intro x hx
   rcases q3 x hx with hx | hx
   ·rw [hl0] at hx; simp at hx
   ·simp at hx; omega
theorem GmO.nils (n : Nat) (s : St) : GmO n s nils (fun _ => []) := ⟨fun i _ => by simpa [YtkcdgaijklhnaaaGreatDoor.Vm.nils, ints] using OutS.nil _ _ _ _, fun i j _ _ _ b hb => by simp [YtkcdgaijklhnaaaGreatDoor.Vm.nils, ownL] at hb⟩
set_option maxRecDepth 10000 in
theorem gmodel_v (s0 : Nat) (hs : st[s0]? = some (strm f xs a)) (hM : M s0 = true) (src : xs.length ≤ 9223372036854775807 ∧ ∀ x ∈ xs, -9223372036854775808 ≤ x ∧ x ≤ 9223372036854775807) (ha : 0 ≤ a ∧ a ≤ 10000000) (hK : GK st s0 f xs a K) :
  CallV Tryz.prog T M 38 [.ptr s0 1 0 0] st K Kp := by
 have hlt : s0 < st.length := (List.getElem?_eq_some_iff.1 hs).1
 have hup : upM st.length M s0 = true := upM_of hM
 have g00 : GS st.length s0 st st f xs a := ⟨Same.refl (Nat.le_refl _), hs, hlt, src⟩
 have hend : ∀ (fr : Fr) (s : St) (mb : Nat) (Kd Vo Wd Tp : Int), GmS st s0 f xs a (a + 10) mb fr s Kd Vo Wd Tp nils → (1 ≤ Kd ∧ Kd ≤ 3) → (1 ≤ Wd ∧ Wd ≤ 5) → (2 ≤ Vo ∧ Vo ≤ 16) → (1 ≤ Tp ∧ Tp ≤ Vo) → wpM Tryz.prog T (liftM (upM st.length M)) F_gmodel.code.r.r.r.r (GQ st K Kp) fr s := fun fr s mb Kd Vo Wd Tp q1 q2 q3 q4 q5 =>
  gm_4 hK hM ha q1 (GmO.nils _ _) rfl rfl q2 q3 q4 q5
 refine CallV.give (fun_ok hmix c_gmodel (le_of rfl) ?_)
 have e : F_gmodel.code = .seq F_gmodel.code.l (.seq F_gmodel.code.r.l (.seq F_gmodel.code.r.r.l (.seq F_gmodel.code.r.r.r.l F_gmodel.code.r.r.r.r))) := rfl
 rw [show Fin F_gmodel.res (fun v st' => ∃ v', Frz st.length st' v v' ∧ LowSt st st' ∧ K v' (st'.take st.length)) (fun c st' => LowSt st st' ∧ Kp c (st'.take st.length)) = GQ st K Kp from rfl]
 generalize F_gmodel.code.r.r.r.r = c4 at hend e
 rw [e]
 simp [F_gmodel, MC.l, MC.r]
 have R0 : (st ++ [mdl 0 0 0 0 nils])[st.length]? = some (mdl 0 0 0 0 nils) := by simp
 refine range_g (g00.more _) hup (by omega) 1 3 (by omega) (by omega) (by omega) fun kd s1 k1 k2 g1 b1 => ?_
 have R1 := get_but R0 b1 (by omega)
 simp
 have e1 : (s1 ++ [Blk.row 3 1 [I 2, I 3, I 5, I 8, I 16]])[s1.length]? = some (.row 3 1 (ints [2, 3, 5, 8, 16])) := by simp [ints]
 refine pick_g (g1.more _) hup (by omega) e1 (Nat.ne_of_gt (Nat.lt_of_lt_of_le hlt g1.same.len)) rfl (by simp) fun vo s2 hvo g2 b2 => ?_
 have R2 := get_but (get_more R1 _) b2 (by omega)
 simp
 have e2 : (s2 ++ [Blk.row 3 1 [I 1, I 2, I 3, I 4, I 5]])[s2.length]? = some (.row 3 1 (ints [1, 2, 3, 4, 5])) := by simp [ints]
 refine pick_g (g2.more _) hup (by omega) e2 (Nat.ne_of_gt (Nat.lt_of_lt_of_le hlt g2.same.len)) rfl (by simp) fun wd s3 hwd g3 b3 => ?_
 have R3 := get_but (get_more R2 _) b3 (by omega)
 have hvo' : 2 ≤ vo ∧ vo ≤ 16 := by simp at hvo; omega
 have hwd' : 1 ≤ wd ∧ wd ≤ 5 := by simp at hwd; omega
 simp [g3.up]
 have m3 : (s3 ++ [mdl kd vo wd 0 nils])[s3.length]? = some (mdl kd vo wd 0 nils) := by simp
 obtain ⟨mb, hmb⟩ : ∃ mb, s3.length = mb := ⟨_, rfl⟩
 have hmn : st.length < mb := by have := (List.getElem?_eq_some_iff.1 R3).1; omega
 have hmu : upM st.length M mb = true := by simp [upM]; omega
 simp only [mdl, nils] at m3
 rw [hmb] at m3 ⊢
 refine range_g (g3.more _) hup (by omega) 1 vo (by omega) (by omega) (by omega) fun tp s4 t1 t2 g4 b4 => ?_
 have m4 := get_but m3 b4 (by omega)
 have rr4 := get_but (get_more R3 _) b4 (by omega)
 simp [m4]
 have m5 : (s4.set mb (mdl kd vo wd tp nils))[mb]? = some (mdl kd vo wd tp nils) := get_set m4 _
 have g5 := g4.set (b := mb) (by omega) (mdl kd vo wd tp nils)
 have rr5 := get_ne rr4 (show mb ≠ st.length by omega) (mdl kd vo wd tp nils)
 refine flip_g g5 hup (by omega) 2 (by omega) fun b s6 g6 b6 => ?_
 have m6 := get_but m5 b6 (by omega)
 have rr6 := get_but rr5 b6 (by omega)
 cases b with
 | false =>
  simp
  exact hend _ _ mb kd vo wd tp ⟨⟨_, by omega, by omega, g6⟩, rr6, m6, hmn, by simp, by simp, by simp, by simp⟩ ⟨k1, k2⟩ hwd' hvo' ⟨t1, t2⟩
 | true =>
  simp only [mdl, nils] at m6
  simp [m6]
  have m7 : (s6.set mb (mdl kd vo wd vo nils))[mb]? = some (mdl kd vo wd vo nils) := get_set m6 _
  have g7 := g6.set (b := mb) (by omega) (mdl kd vo wd vo nils)
  have rr7 := get_ne rr6 (show mb ≠ st.length by omega) (mdl kd vo wd vo nils)
  exact hend _ _ mb kd vo wd vo ⟨⟨_, by omega, by omega, g7⟩, rr7, m7, hmn, by simp, by simp, by simp, by simp⟩ ⟨k1, k2⟩ hwd' hvo' (by omega)
end
structure LB (B : Int) (n : Nat) (m : LModel) : Prop where
 sc : ∀ x ∈ [m.kind, m.vocab, m.width, m.top], -B ≤ x ∧ x ≤ B
 ls : ∀ l ∈ [m.cuts, m.embed, m.place, m.mix, m.out, m.soft, m.odds], l.length ≤ n ∧ ∀ x ∈ l, -B ≤ x ∧ x ≤ B
def mls (m : LModel) : Nat → List Int
 | 0 => m.cuts
 | 1 => m.embed
 | 2 => m.place
 | 3 => m.mix
 | 4 => m.out
 | 5 => m.soft
 | _ => m.odds
end Go.Proofs.YtkcdgaijklhnaaaGreatDoor.Vm
