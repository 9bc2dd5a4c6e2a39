/-
  Stream.Model, run by the value machine.
  Entries of a model, in plain terms and run by the value machine.
-/
import Derived.Test.YtadkhechobeccaaGreatDoorK07
import Derived.Test.YtadkhechobeccaaGreatDoorK05
namespace Go.Proofs.YtadkhechobeccaaGreatDoor.Vm
open Go.RowKit
/-- a model's block -/
def mdl (K V D T : Int) (c : Nat → Vm.V) : Blk := .row 27 11 [.agg [I K, I V, I D, I T, c 0, c 1, c 2, c 3, c 4, c 5, c 6]]
def nils : Nat → V := fun _ => .lst true []
def upd1 (c : Nat → V) (i : Nat) (v : V) : Nat → V := fun j => if j = i then v else c j
@[simp] theorem upd1_eq (c : Nat → V) (i : Nat) (v : V) (j : Nat) : upd1 c i v j = if j = i then v else c j := nr rfl
def encM (fl : Nat → Bool) (m : LModel) : V := .agg [I m.kind, I m.vocab, I m.width, I m.top, .lst (fl 0) (ints m.cuts), .lst (fl 1) (ints m.embed), .lst (fl 2) (ints m.place), .lst (fl 3) (ints m.mix), .lst (fl 4) (ints m.out), .lst (fl 5) (ints m.soft), .lst (fl 6) (ints m.odds)]
/-- the model of which part is drawn -/
structure GmS (st : St) (s0 : Nat) (f : Bool) (xs : List Int) (a b : Int) (mb : Nat) (fr : Fr) (s : St) (K V D T : Int) (c : Nat → Vm.V) : Prop where
  gs : ∃ a', a ≤ a' ∧ a' ≤ b ∧ GS st.length s0 st s f xs a'
  rb : s[st.length]? = some (mdl 0 0 0 0 nils)
  md : s[mb]? = some (mdl K V D T c)
  hmb : st.length < mb
  g0 : fr.g 0 = .ptr s0 1 0 0
  g2 : fr.g 2 = .ptr st.length 1 0 0
  g3 : fr.g 3 = .ptr mb 1 0 0
  df : fr.df = []
def GQ (st : St) (K : V → St → Prop) (Kp : List PanicEntry → St → Prop) : Post := Fin F_gmodel.res (fun v st' => ∃ v', Frz st.length st' v v' ∧ LowSt st st' ∧ K v' (st'.take st.length)) (fun c st' => LowSt st st' ∧ Kp c (st'.take st.length))
def GK (st : St) (s0 : Nat) (f : Bool) (xs : List Int) (a : Int) (K : V → St → Prop) : Prop := ∀ (fl : Nat → Bool) m a', GenM m → a ≤ a' → a' ≤ a + 10000 → K (encM fl m) (st.set s0 (strm f xs a'))
section
variable {st s : St} {s0 mb : Nat} {fr : Fr} {f : Bool} {xs : List Int} {a b : Int} {T : Tbl} {M : Nat → Bool} {K : V → St → Prop} {Kp : List PanicEntry → St → Prop} {Kd Vo Wd Tp : Int} {c : Nat → V}
theorem GmS.lt (h : GmS st s0 f xs a b mb fr s Kd Vo Wd Tp c) : s0 < st.length := by obtain ⟨a', -, -, g⟩ := h.gs; exact g.hsb
theorem GmS.up (h : GmS st s0 f xs a b mb fr s Kd Vo Wd Tp c) (M : Nat → Bool) : upM st.length M mb = true := by have := h.hmb; simp [upM]; omega
set_option maxRecDepth 10000 in
theorem gm_end (hK : GK st s0 f xs a K) (_hM : M s0 = true) (h : GmS st s0 f xs a (a + 10000) mb fr s Kd Vo Wd Tp c) {l : Nat → List Int} (h0 : OutS st.length 3 1 s (c 0) (ints (l 0))) (h5 : OutS st.length 3 1 s (c 5) (ints (l 5))) (h6 : OutS st.length 3 1 s (c 6) (ints (l 6)))
    {fl : Nat → Bool} (h1 : c 1 = .lst (fl 1) (ints (l 1))) (h2 : c 2 = .lst (fl 2) (ints (l 2))) (h3 : c 3 = .lst (fl 3) (ints (l 3))) (h4 : c 4 = .lst (fl 4) (ints (l 4))) (hg : GenM ⟨Kd, Vo, Wd, Tp, l 0, l 1, l 2, l 3, l 4, l 5, l 6⟩) :
    wpM Tryz.prog T (liftM (upM st.length M)) F_gmodel.code.r.r.r.r.r.r.r.r.r.r.r.r (GQ st K Kp) fr s := by
  obtain ⟨a', e1, e2, g⟩ := h.gs
  have md := h.md
  have rb := h.rb
  have rb2 : ∀ x, (s.set st.length x)[st.length]? = some x := fun x => get_set rb x
  have lf : ∀ {v : V} {l : List V}, OutS st.length 3 1 s v l → v.leaf = true := fun {v l} ho => by
    rcases ho with ⟨-, rfl⟩ | ⟨_, -, -, rfl⟩ <;> rfl
  simp [F_gmodel, MC.r, GQ, h.g2, h.g3, md, rb, mdl, nils, lf h0, lf h5, lf h6, h1, h2, h3, h4, rb2, h.df]
  generalize Blk.row 27 11 _ = xb
  have g' := g.set (Nat.le_refl st.length) xb
  obtain ⟨f0, z0⟩ := (h0.apart rb (by decide) xb).frz (ints_cells _)
  obtain ⟨f5, z5⟩ := (h5.apart rb (by decide) xb).frz (ints_cells _)
  obtain ⟨f6, z6⟩ := (h6.apart rb (by decide) xb).frz (ints_cells _)
  have hlow := g'.same.low g'.str (by simp [V.low])
  have hk := hK (fun i => if i = 0 then f0 else if i = 5 then f5 else if i = 6 then f6 else fl i) _ a' hg e1 e2
  refine ⟨_, .agg _ [I Kd, I Vo, I Wd, I Tp, .lst f0 (ints (l 0)), .lst (fl 1) (ints (l 1)), .lst (fl 2) (ints (l 2)), .lst (fl 3) (ints (l 3)), .lst (fl 4) (ints (l 4)), .lst f5 (ints (l 5)), .lst f6 (ints (l 6))] rfl fun i x y hx hy => ?_, hlow, ?_⟩
  · match i with
    | 0 => simp at hx hy; subst hx hy; exact .same _ rfl
    | 1 => simp at hx hy; subst hx hy; exact .same _ rfl
    | 2 => simp at hx hy; subst hx hy; exact .same _ rfl
    | 3 => simp at hx hy; subst hx hy; exact .same _ rfl
    | 4 => simp at hx hy; subst hx hy; exact z0
    | 5 => simp at hx hy; subst hx hy; exact .same _ rfl
    | 6 => simp at hx hy; subst hx hy; exact .same _ rfl
    | 7 => simp at hx hy; subst hx hy; exact .same _ rfl
    | 8 => simp at hx hy; subst hx hy; exact .same _ rfl
    | 9 => simp at hx hy; subst hx hy; exact z5
    | 10 => simp at hx hy; subst hx hy; exact z6
    | i + 11 => simp at hx
  · rw [g'.same.take g'.str]
    exact hk
/-- three of the model's slices grow -/
structure GmO (n : Nat) (s : St) (c : Nat → V) (l : Nat → List Int) : Prop where
  o : ∀ i, i = 0 ∨ i = 5 ∨ i = 6 → OutS n 3 1 s (c i) (ints (l i))
  d : ∀ i j, i ≠ j → (i = 0 ∨ i = 5 ∨ i = 6) → (j = 0 ∨ j = 5 ∨ j = 6) → ∀ b ∈ ownL (c i), b ∉ ownL (c j)
theorem GmO.but {n sb : Nat} {s s' : St} {c : Nat → V} {l : Nat → List Int} (h : GmO n s c l) (hb : But sb s s') (hn : sb < n) : GmO n s' c l := ⟨fun i hi => (h.o i hi).but hb hn, h.d⟩
theorem GmO.more {n : Nat} {s : St} {c : Nat → V} {l : Nat → List Int} (h : GmO n s c l) (e : St) : GmO n (s ++ e) c l := ⟨fun i hi => (h.o i hi).more e, h.d⟩
theorem GmO.apart {n : Nat} {s : St} {c : Nat → V} {l : Nat → List Int} (h : GmO n s c l) {m t2 k2 : Nat} {ys : List V} (hc : s[m]? = some (.row t2 k2 ys)) (hk : k2 ≠ 1) (x : Blk) : GmO n (s.set m x) c l := ⟨fun i hi => (h.o i hi).apart hc hk x, h.d⟩
/-- one of them has grown -/
theorem GmO.grow {n : Nat} {s s' : St} {c : Nat → V} {l : Nat → List Int} (h : GmO n s c l) {i : Nat} (hi : i = 0 ∨ i = 5 ∨ i = 6) {v : V} {m : List Int} (ho : OutS n 3 1 s' v (ints m)) (h1 : ∀ b, b < s.length → b ∉ ownL (c i) → s'[b]? = s[b]?) (h2 : ∀ b, b ∈ ownL v → b ∈ ownL (c i) ∨ s.length ≤ b) :
    GmO n s' (upd1 c i v) (fun j => if j = i then m else l j) := by
  refine ⟨fun j hj => ?_, fun j k hjk hj hk b hb1 hb2 => ?_⟩
  · by_cases hji : j = i
    · subst hji; simpa using ho
    · simp only [upd1_eq, if_neg hji]
      exact (h.o j hj).keep2 fun b hb => h1 b ((h.o j hj).lt b hb).2 (h.d j i hji hj hi b hb)
  · simp only [upd1_eq] at hb1 hb2
    by_cases hji : j = i
    · subst hji
      rw [if_pos rfl] at hb1
      rw [if_neg (Ne.symm hjk)] at hb2
      rcases h2 b hb1 with e | e
      · exact h.d j k hjk hj hk b e hb2
      · have := ((h.o k hk).lt b hb2).2; omega
    · rw [if_neg hji] at hb1
      by_cases hki : k = i
      · subst hki
        rw [if_pos rfl] at hb2
        rcases h2 b hb2 with e | e
        · exact h.d j k hjk hj hk b hb1 e
        · have := ((h.o j hj).lt b hb1).2; omega
      · rw [if_neg hki] at hb2
        exact h.d j k hjk hj hk b hb1 hb2
theorem upd1_id (c : Nat → V) (i : Nat) : upd1 c i (c i) = c := funext fun j => by by_cases h : j = i <;> simp [h]
theorem GmO.id {n : Nat} {s : St} {c : Nat → V} {l : Nat → List Int} (h : GmO n s c l) (i : Nat) : GmO n s (upd1 c i (c i)) (fun j => if j = i then l i else l j) := by
  rw [upd1_id, show (fun j => if j = i then l i else l j) = l from funext fun j => by by_cases hj : j = i <;> simp [hj]]
  exact h
theorem GmS.step (h : GmS st s0 f xs a b mb fr s Kd Vo Wd Tp c) {s' : St} {b' a' : Int} (g : GS st.length s0 st s' f xs a') (h1 : a ≤ a') (h2 : a' ≤ b') (hr : s'[st.length]? = some (mdl 0 0 0 0 nils)) {Kd' Vo' Wd' Tp' : Int} {c' : Nat → V} (hm : s'[mb]? = some (mdl Kd' Vo' Wd' Tp' c')) {fr' : Fr} (e0 : fr'.g 0 = fr.g 0) (e2 : fr'.g 2 = fr.g 2) (e3 : fr'.g 3 = fr.g 3) (ed : fr'.df = fr.df) :
    GmS st s0 f xs a b' mb fr' s' Kd' Vo' Wd' Tp' c' := ⟨⟨a', h1, h2, g⟩, hr, hm, h.hmb, e0.trans h.g0, e2.trans h.g2, e3.trans h.g3, ed.trans h.df⟩
theorem rd_ne {s0 m : Nat} {v : V} (h1 : m ≠ s0) (h2 : m ∉ ownL v) (j : Nat) : rdW (s0 :: ownL v) [] m j = true := by simp [rdW, h1, h2]
theorem inW_hd {n s0 : Nat} {W : List Nat} {X : List (Nat × Nat)} {M : Nat → Bool} (h : M s0 = true) : callM (inW n (s0 :: W) X (liftM M)) s0 = true := by simp [callM, inW, h]
theorem inW_mem {n m : Nat} {W : List Nat} {X : List (Nat × Nat)} {M : Nat → Bool} (h : M m = true) (hw : m ∈ W) (j : Nat) : inW n W X (liftM M) m j = true := by simp [inW, h, hw]
/-- a round of the loop that makes list 0 -/
def LInv_cuts (st : St) (s0 mb : Nat) (f : Bool) (xs : List Int) (a b : Int) (c0 : Nat → V) (l0 : Nat → List Int) (Kd Vo Wd Tp : Int) (N : Nat) (w4 : V) (fr : Fr) (s : St) : Prop :=
  ∃ (k : Nat) (v : V) (l : List Int), k ≤ N ∧ l.length = (l0 0).length + k ∧ (∀ x ∈ l, x ∈ l0 0 ∨ x ∈ ([1, 1, 2, 3, 5, 8, 15] : List Int)) ∧ (∀ x, (l0 0)[0]? = some x → l[0]? = some x) ∧ GmS st s0 f xs a (b + k) mb fr s Kd Vo Wd Tp (upd1 c0 0 v) ∧ GmO st.length s (upd1 c0 0 v) (fun j => if j = 0 then l else l0 j) ∧ fr.g 24 = I k ∧ fr.g 4 = w4 ∧ N = 4
set_option maxRecDepth 10000 in
theorem gm_cuts {l0 : Nat → List Int} {N : Nat} {w4 : V} (hM : M s0 = true) (hN : N ≤ 64) (hab : 0 ≤ a ∧ a ≤ b ∧ b ≤ a + 8000 ∧ a ≤ 10000000) (hl0 : (l0 0).length ≤ 10) {b0 : MC} (hb0 : b0 = F_gmodel.code.r.r.r.r.l.r.bb.bb) {Q : Post}
    (h : LInv_cuts st s0 mb f xs a b c l0 Kd Vo Wd Tp N w4 fr s) (hQ : ∀ fr s, LInv_cuts st s0 mb f xs a b c l0 Kd Vo Wd Tp N w4 fr s → fr.g 24 = I N → Q (.exit 0) fr s) : wpM Tryz.prog T (liftM (upM st.length M)) (.loop b0) Q fr s := by
  subst hb0
  refine wp_mloop (LInv_cuts st s0 mb f xs a b c l0 Kd Vo Wd Tp N w4) (fun fr _ => N - nat (fr.g 24)) h ?_
  clear h
  rintro fr s h
  obtain ⟨k, v, l, hk, hl, hr, hf0, hS, hO, hc, h4, hbnd⟩ := id h
  have hbi : (N : Int) = 4 := by omega
  by_cases hlt : k < N
  · have hup : upM st.length M s0 = true := upM_of hM
    obtain ⟨a', e1, e2, g⟩ := hS.gs
    have hlt0 := hS.lt
    have hmb := hS.hmb
    have hmbl : mb < s.length := (List.getElem?_eq_some_iff.1 hS.md).1
    have ho := hO.o 0 (by decide)
    simp only [upd1_eq, if_true] at ho
    have hmv : mb ∉ ownL v := fun hm => by
      rcases ho with ⟨-, rfl⟩ | ⟨b2, h1, h2, rfl⟩
      · simp [ownL] at hm
      · simp [ownL] at hm; subst hm; rw [hS.md] at h2; simp [mdl] at h2
    have hrd := rd_ne (s0 := s0) (v := v) (show mb ≠ s0 by omega) hmv
    have md := hS.md
    simp [F_gmodel, MC.l, MC.r, MC.bb, hc, hlt, ← hbi]
    refine wp_mtail (s0 :: ownL v) [] ?_
    simp [hS.g3, hS.g0, md, mdl, hrd]
    have e5 : (s ++ [Blk.row 3 1 [I 1, I 1, I 2, I 3, I 5, I 8, I 15]])[s.length]? = some (.row 3 1 (ints [1, 1, 2, 3, 5, 8, 15])) := by simp [ints]
    refine pick_g (g.more _) (inW_hd hup) (by omega) e5 (by omega) rfl (by simp) fun x s2 hx g2 b2 => ?_
    have R2 := get_but (get_more hS.rb _) b2 (by omega)
    have m2 := get_but (get_more hS.md _) b2 (by omega)
    have O2 := (hO.more [Blk.row 3 1 [I 1, I 1, I 2, I 3, I 5, I 8, I 15]]).but b2 hlt0
    have hl2 : s.length < s2.length := by rw [b2.1]; simp
    simp
    have ho2 := O2.o 0 (by decide)
    simp only [upd1_eq, if_true] at ho2
    refine app_out (ho2.more [Blk.row 3 1 [I x]]) (by simp; have := g2.same.len; omega) (news := [I x]) (by simp) (by simp) (Or.inl (by simp)) (fun b3 L h1 h2 j => inW_mem (by simp [upM, h1]) (by rw [h2]; simp [ownL]) j) (by simp; omega) (by simp; omega) fun v' s3 o3 hl3 hb3 hk3 hn3 => ?_
    have m3 : s3[mb]? = some (mdl Kd Vo Wd Tp (upd1 c 0 v)) := by rw [hk3 mb (by simp; omega) hmv]; exact get_more m2 _
    have R3 : s3[st.length]? = some (mdl 0 0 0 0 nils) := by
      rw [hk3 st.length (by simp; omega) ?_]
      · exact get_more R2 _
      · intro hm
        rcases ho with ⟨-, rfl⟩ | ⟨b2', h1, h2, rfl⟩
        · simp [ownL] at hm
        · simp [ownL] at hm; subst hm; rw [hS.rb] at h2; simp [mdl] at h2
    have g3 := (g2.more [Blk.row 3 1 [I x]]).to hl3 hb3
    have O3 := (O2.more [Blk.row 3 1 [I x]]).grow (i := 0) (by decide) (v := v') (m := l ++ [x]) (by rw [ints_append]; exact o3) (fun b hb hnb => hk3 b hb (by simpa using hnb)) (fun b hb => by simpa using hn3 b hb)
    have lv : v'.leaf = true := by rcases o3 with ⟨-, rfl⟩ | ⟨_, -, -, rfl⟩ <;> rfl
    have c' : v'.cells = [v'] := by rcases o3 with ⟨-, rfl⟩ | ⟨_, -, -, rfl⟩ <;> rfl
    have hrd3 : mb < st.length → False := by omega
    simp [m3, mdl, hS.up, lv, c', hc, w64 (n := (k : Int) + 1) (by omega) (by omega)]
    refine ⟨⟨k + 1, v', l ++ [x], by omega, by simp [hl]; omega, fun y hy => ?_, fun y hy => ?_, hS.step (g3.set (by omega) _) (by omega) (by push_cast; omega) (get_ne R3 (by omega) _) (c' := upd1 c 0 v') (get_set m3 _) (by simp) (by simp) (by simp) (by simp), ?_, by simp, by simp [h4], hbnd⟩, by omega⟩
    · rcases List.mem_append.1 hy with hy | hy
      · exact hr y hy
      · simp at hy; subst hy; exact Or.inr hx
    · have h0 := hf0 y hy
      rw [List.getElem?_append_left (List.getElem?_eq_some_iff.1 h0).1]; exact h0
    · have O4 := O3.apart (m := mb) m3 (by decide) (mdl Kd Vo Wd Tp (upd1 c 0 v'))
      refine ⟨fun j hj => ?_, fun j j2 h1 h2 h3 => ?_⟩
      · have := O4.o j hj
        by_cases hji : j = 0
        · subst hji; simpa [mdl] using this
        · simpa [hji, mdl] using this
      · have := O4.d j j2 h1 h2 h3
        by_cases hji : j = 0 <;> by_cases hji2 : j2 = 0 <;> simpa [hji, hji2] using this
  · obtain rfl : k = N := by omega
    simp [F_gmodel, MC.l, MC.r, MC.bb, hc, ← hbi]
    obtain ⟨a', e1, e2, g⟩ := hS.gs
    exact hQ _ s ⟨_, v, l, hk, hl, hr, hf0, hS.step g e1 e2 hS.rb hS.md (by simp) (by simp) (by simp) (by simp), hO, by simp [hc], by simp [h4], hbnd⟩ (by simp [hc])
/-- a round of the loop that makes list 5 -/
def LInv_soft (st : St) (s0 mb : Nat) (f : Bool) (xs : List Int) (a b : Int) (c0 : Nat → V) (l0 : Nat → List Int) (Kd Vo Wd Tp : Int) (N : Nat) (w4 : V) (fr : Fr) (s : St) : Prop :=
  ∃ (k : Nat) (v : V) (l : List Int), k ≤ N ∧ l.length = (l0 5).length + k ∧ (∀ x ∈ l, x ∈ l0 5 ∨ x ∈ ([0, 1, 8, 64, 1000] : List Int)) ∧ (∀ x, (l0 5)[0]? = some x → l[0]? = some x) ∧ GmS st s0 f xs a (b + k) mb fr s Kd Vo Wd Tp (upd1 c0 5 v) ∧ GmO st.length s (upd1 c0 5 v) (fun j => if j = 5 then l else l0 j) ∧ fr.g 81 = I k ∧ fr.g 4 = w4 ∧ fr.g 80 = I N
set_option maxRecDepth 10000 in
theorem gm_soft {l0 : Nat → List Int} {N : Nat} {w4 : V} (hM : M s0 = true) (hN : N ≤ 64) (hab : 0 ≤ a ∧ a ≤ b ∧ b ≤ a + 8000 ∧ a ≤ 10000000) (hl0 : (l0 5).length ≤ 10) {b0 : MC} (hb0 : b0 = F_gmodel.code.r.r.r.r.r.r.r.r.r.l.r.bb.bb) {Q : Post}
    (h : LInv_soft st s0 mb f xs a b c l0 Kd Vo Wd Tp N w4 fr s) (hQ : ∀ fr s, LInv_soft st s0 mb f xs a b c l0 Kd Vo Wd Tp N w4 fr s → fr.g 81 = I N → Q (.exit 3) fr s) : wpM Tryz.prog T (liftM (upM st.length M)) (.loop b0) Q fr s := by
  subst hb0
  refine wp_mloop (LInv_soft st s0 mb f xs a b c l0 Kd Vo Wd Tp N w4) (fun fr _ => N - nat (fr.g 81)) h ?_
  clear h
  rintro fr s h
  obtain ⟨k, v, l, hk, hl, hr, hf0, hS, hO, hc, h4, hbnd⟩ := id h
  by_cases hlt : k < N
  · have hup : upM st.length M s0 = true := upM_of hM
    obtain ⟨a', e1, e2, g⟩ := hS.gs
    have hlt0 := hS.lt
    have hmb := hS.hmb
    have hmbl : mb < s.length := (List.getElem?_eq_some_iff.1 hS.md).1
    have ho := hO.o 5 (by decide)
    simp only [upd1_eq, if_true] at ho
    have hmv : mb ∉ ownL v := fun hm => by
      rcases ho with ⟨-, rfl⟩ | ⟨b2, h1, h2, rfl⟩
      · simp [ownL] at hm
      · simp [ownL] at hm; subst hm; rw [hS.md] at h2; simp [mdl] at h2
    have hrd := rd_ne (s0 := s0) (v := v) (show mb ≠ s0 by omega) hmv
    have md := hS.md
    simp [F_gmodel, MC.l, MC.r, MC.bb, hc, hlt, hbnd]
    refine wp_mtail (s0 :: ownL v) [] ?_
    simp [hS.g3, hS.g0, md, mdl, hrd]
    have e5 : (s ++ [Blk.row 3 1 [I 0, I 1, I 8, I 64, I 1000]])[s.length]? = some (.row 3 1 (ints [0, 1, 8, 64, 1000])) := by simp [ints]
    refine pick_g (g.more _) (inW_hd hup) (by omega) e5 (by omega) rfl (by simp) fun x s2 hx g2 b2 => ?_
    have R2 := get_but (get_more hS.rb _) b2 (by omega)
    have m2 := get_but (get_more hS.md _) b2 (by omega)
    have O2 := (hO.more [Blk.row 3 1 [I 0, I 1, I 8, I 64, I 1000]]).but b2 hlt0
    have hl2 : s.length < s2.length := by rw [b2.1]; simp
    simp
    have ho2 := O2.o 5 (by decide)
    simp only [upd1_eq, if_true] at ho2
    refine app_out (ho2.more [Blk.row 3 1 [I x]]) (by simp; have := g2.same.len; omega) (news := [I x]) (by simp) (by simp) (Or.inl (by simp)) (fun b3 L h1 h2 j => inW_mem (by simp [upM, h1]) (by rw [h2]; simp [ownL]) j) (by simp; omega) (by simp; omega) fun v' s3 o3 hl3 hb3 hk3 hn3 => ?_
    have m3 : s3[mb]? = some (mdl Kd Vo Wd Tp (upd1 c 5 v)) := by rw [hk3 mb (by simp; omega) hmv]; exact get_more m2 _
    have R3 : s3[st.length]? = some (mdl 0 0 0 0 nils) := by
      rw [hk3 st.length (by simp; omega) ?_]
      · exact get_more R2 _
      · intro hm
        rcases ho with ⟨-, rfl⟩ | ⟨b2', h1, h2, rfl⟩
        · simp [ownL] at hm
        · simp [ownL] at hm; subst hm; rw [hS.rb] at h2; simp [mdl] at h2
    have g3 := (g2.more [Blk.row 3 1 [I x]]).to hl3 hb3
    have O3 := (O2.more [Blk.row 3 1 [I x]]).grow (i := 5) (by decide) (v := v') (m := l ++ [x]) (by rw [ints_append]; exact o3) (fun b hb hnb => hk3 b hb (by simpa using hnb)) (fun b hb => by simpa using hn3 b hb)
    have lv : v'.leaf = true := by rcases o3 with ⟨-, rfl⟩ | ⟨_, -, -, rfl⟩ <;> rfl
    have c' : v'.cells = [v'] := by rcases o3 with ⟨-, rfl⟩ | ⟨_, -, -, rfl⟩ <;> rfl
    have hrd3 : mb < st.length → False := by omega
    simp [m3, mdl, hS.up, lv, c', hc, w64 (n := (k : Int) + 1) (by omega) (by omega)]
    refine ⟨⟨k + 1, v', l ++ [x], by omega, by simp [hl]; omega, fun y hy => ?_, fun y hy => ?_, hS.step (g3.set (by omega) _) (by omega) (by push_cast; omega) (get_ne R3 (by omega) _) (c' := upd1 c 5 v') (get_set m3 _) (by simp) (by simp) (by simp) (by simp), ?_, by simp, by simp [h4], by simp [hbnd]⟩, by omega⟩
    · rcases List.mem_append.1 hy with hy | hy
      · exact hr y hy
      · simp at hy; subst hy; exact Or.inr hx
    · have h0 := hf0 y hy
      rw [List.getElem?_append_left (List.getElem?_eq_some_iff.1 h0).1]; exact h0
    · have O4 := O3.apart (m := mb) m3 (by decide) (mdl Kd Vo Wd Tp (upd1 c 5 v'))
      refine ⟨fun j hj => ?_, fun j j2 h1 h2 h3 => ?_⟩
      · have := O4.o j hj
        by_cases hji : j = 5
        · subst hji; simpa [mdl] using this
        · simpa [hji, mdl] using this
      · have := O4.d j j2 h1 h2 h3
        by_cases hji : j = 5 <;> by_cases hji2 : j2 = 5 <;> simpa [hji, hji2] using this
  · obtain rfl : k = N := by omega
    simp [F_gmodel, MC.l, MC.r, MC.bb, hc, hbnd]
    obtain ⟨a', e1, e2, g⟩ := hS.gs
    exact hQ _ s ⟨_, v, l, hk, hl, hr, hf0, hS.step g e1 e2 hS.rb hS.md (by simp) (by simp) (by simp) (by simp), hO, by simp [hc], by simp [h4], by simp [hbnd]⟩ (by simp [hc])
/-- a round of the loop that makes list 6 -/
def LInv_odds (st : St) (s0 mb : Nat) (f : Bool) (xs : List Int) (a b : Int) (c0 : Nat → V) (l0 : Nat → List Int) (Kd Vo Wd Tp : Int) (N : Nat) (w4 : V) (fr : Fr) (s : St) : Prop :=
  ∃ (k : Nat) (v : V) (l : List Int), k ≤ N ∧ l.length = (l0 6).length + k ∧ (∀ x ∈ l, x ∈ l0 6 ∨ x ∈ ([0, 1, 8, 1000] : List Int)) ∧ (∀ x, (l0 6)[0]? = some x → l[0]? = some x) ∧ GmS st s0 f xs a (b + k) mb fr s Kd Vo Wd Tp (upd1 c0 6 v) ∧ GmO st.length s (upd1 c0 6 v) (fun j => if j = 6 then l else l0 j) ∧ fr.g 99 = I k ∧ fr.g 4 = w4 ∧ fr.g 98 = I N
set_option maxRecDepth 10000 in
theorem gm_odds {l0 : Nat → List Int} {N : Nat} {w4 : V} (hM : M s0 = true) (hN : N ≤ 64) (hab : 0 ≤ a ∧ a ≤ b ∧ b ≤ a + 8000 ∧ a ≤ 10000000) (hl0 : (l0 6).length ≤ 10) {b0 : MC} (hb0 : b0 = F_gmodel.code.r.r.r.r.r.r.r.r.r.r.r.l.r.bb.bb) {Q : Post}
    (h : LInv_odds st s0 mb f xs a b c l0 Kd Vo Wd Tp N w4 fr s) (hQ : ∀ fr s, LInv_odds st s0 mb f xs a b c l0 Kd Vo Wd Tp N w4 fr s → fr.g 99 = I N → Q (.exit 5) fr s) : wpM Tryz.prog T (liftM (upM st.length M)) (.loop b0) Q fr s := by
  subst hb0
  refine wp_mloop (LInv_odds st s0 mb f xs a b c l0 Kd Vo Wd Tp N w4) (fun fr _ => N - nat (fr.g 99)) h ?_
  clear h
  rintro fr s h
  obtain ⟨k, v, l, hk, hl, hr, hf0, hS, hO, hc, h4, hbnd⟩ := id h
  by_cases hlt : k < N
  · have hup : upM st.length M s0 = true := upM_of hM
    obtain ⟨a', e1, e2, g⟩ := hS.gs
    have hlt0 := hS.lt
    have hmb := hS.hmb
    have hmbl : mb < s.length := (List.getElem?_eq_some_iff.1 hS.md).1
    have ho := hO.o 6 (by decide)
    simp only [upd1_eq, if_true] at ho
    have hmv : mb ∉ ownL v := fun hm => by
      rcases ho with ⟨-, rfl⟩ | ⟨b2, h1, h2, rfl⟩
      · simp [ownL] at hm
      · simp [ownL] at hm; subst hm; rw [hS.md] at h2; simp [mdl] at h2
    have hrd := rd_ne (s0 := s0) (v := v) (show mb ≠ s0 by omega) hmv
    have md := hS.md
    simp [F_gmodel, MC.l, MC.r, MC.bb, hc, hlt, hbnd]
    refine wp_mtail (s0 :: ownL v) [] ?_
    simp [hS.g3, hS.g0, md, mdl, hrd]
    have e5 : (s ++ [Blk.row 3 1 [I 0, I 1, I 8, I 1000]])[s.length]? = some (.row 3 1 (ints [0, 1, 8, 1000])) := by simp [ints]
    refine pick_g (g.more _) (inW_hd hup) (by omega) e5 (by omega) rfl (by simp) fun x s2 hx g2 b2 => ?_
    have R2 := get_but (get_more hS.rb _) b2 (by omega)
    have m2 := get_but (get_more hS.md _) b2 (by omega)
    have O2 := (hO.more [Blk.row 3 1 [I 0, I 1, I 8, I 1000]]).but b2 hlt0
    have hl2 : s.length < s2.length := by rw [b2.1]; simp
    simp
    have ho2 := O2.o 6 (by decide)
    simp only [upd1_eq, if_true] at ho2
    refine app_out (ho2.more [Blk.row 3 1 [I x]]) (by simp; have := g2.same.len; omega) (news := [I x]) (by simp) (by simp) (Or.inl (by simp)) (fun b3 L h1 h2 j => inW_mem (by simp [upM, h1]) (by rw [h2]; simp [ownL]) j) (by simp; omega) (by simp; omega) fun v' s3 o3 hl3 hb3 hk3 hn3 => ?_
    have m3 : s3[mb]? = some (mdl Kd Vo Wd Tp (upd1 c 6 v)) := by rw [hk3 mb (by simp; omega) hmv]; exact get_more m2 _
    have R3 : s3[st.length]? = some (mdl 0 0 0 0 nils) := by
      rw [hk3 st.length (by simp; omega) ?_]
      · exact get_more R2 _
      · intro hm
        rcases ho with ⟨-, rfl⟩ | ⟨b2', h1, h2, rfl⟩
        · simp [ownL] at hm
        · simp [ownL] at hm; subst hm; rw [hS.rb] at h2; simp [mdl] at h2
    have g3 := (g2.more [Blk.row 3 1 [I x]]).to hl3 hb3
    have O3 := (O2.more [Blk.row 3 1 [I x]]).grow (i := 6) (by decide) (v := v') (m := l ++ [x]) (by rw [ints_append]; exact o3) (fun b hb hnb => hk3 b hb (by simpa using hnb)) (fun b hb => by simpa using hn3 b hb)
    have lv : v'.leaf = true := by rcases o3 with ⟨-, rfl⟩ | ⟨_, -, -, rfl⟩ <;> rfl
    have c' : v'.cells = [v'] := by rcases o3 with ⟨-, rfl⟩ | ⟨_, -, -, rfl⟩ <;> rfl
    have hrd3 : mb < st.length → False := by omega
    simp [m3, mdl, hS.up, lv, c', hc, w64 (n := (k : Int) + 1) (by omega) (by omega)]
    refine ⟨⟨k + 1, v', l ++ [x], by omega, by simp [hl]; omega, fun y hy => ?_, fun y hy => ?_, hS.step (g3.set (by omega) _) (by omega) (by push_cast; omega) (get_ne R3 (by omega) _) (c' := upd1 c 6 v') (get_set m3 _) (by simp) (by simp) (by simp) (by simp), ?_, by simp, by simp [h4], by simp [hbnd]⟩, by omega⟩
    · rcases List.mem_append.1 hy with hy | hy
      · exact hr y hy
      · simp at hy; subst hy; exact Or.inr hx
    · have h0 := hf0 y hy
      rw [List.getElem?_append_left (List.getElem?_eq_some_iff.1 h0).1]; exact h0
    · have O4 := O3.apart (m := mb) m3 (by decide) (mdl Kd Vo Wd Tp (upd1 c 6 v'))
      refine ⟨fun j hj => ?_, fun j j2 h1 h2 h3 => ?_⟩
      · have := O4.o j hj
        by_cases hji : j = 6
        · subst hji; simpa [mdl] using this
        · simpa [hji, mdl] using this
      · have := O4.d j j2 h1 h2 h3
        by_cases hji : j = 6 <;> by_cases hji2 : j2 = 6 <;> simpa [hji, hji2] using this
  · obtain rfl : k = N := by omega
    simp [F_gmodel, MC.l, MC.r, MC.bb, hc, hbnd]
    obtain ⟨a', e1, e2, g⟩ := hS.gs
    exact hQ _ s ⟨_, v, l, hk, hl, hr, hf0, hS.step g e1 e2 hS.rb hS.md (by simp) (by simp) (by simp) (by simp), hO, by simp [hc], by simp [h4], by simp [hbnd]⟩ (by simp [hc])
theorem sbytes_g {n sb : Nat} {a : Int} (g : GS n sb st s f xs a) (hM : M sb = true) (ha : 0 ≤ a ∧ a ≤ 100000000) (m : Int) (hm : 0 ≤ m ∧ m ≤ 400) (hK : ∀ gg l a' s', (l.length : Int) = m → (∀ x ∈ l, -128 ≤ x ∧ x ≤ 127) → a ≤ a' → a' ≤ a + 2 * m → GS n sb st s' f xs a' → But sb s s' → K (.lst gg (ints l)) s') :
    CallV Tryz.prog T M 29 [.ptr sb 1 0 0, I m] s K Kp := by
  obtain ⟨k, rfl⟩ : ∃ k : Nat, m = k := ⟨m.toNat, by omega⟩
  exact sbytes_v sb k (by omega) g.str hM g.src ha fun gg l a' h1 h2 h3 h4 => hK gg l a' _ (by omega) h2 h3 h4 (g.next _) (But.set _ _ _)
/-- the lists that are drawn whole -/
structure GmF (c : Nat → V) (l : Nat → List Int) (fl : Nat → Bool) : Prop where
  h1 : c 1 = .lst (fl 1) (ints (l 1))
  h2 : c 2 = .lst (fl 2) (ints (l 2))
  h3 : c 3 = .lst (fl 3) (ints (l 3))
  h4 : c 4 = .lst (fl 4) (ints (l 4))
theorem GmS.wide (h : GmS st s0 f xs a b mb fr s Kd Vo Wd Tp c) {b' : Int} (hb : b ≤ b') : GmS st s0 f xs a b' mb fr s Kd Vo Wd Tp c := by
  obtain ⟨a', h1, h2, h3⟩ := h.gs
  exact ⟨⟨a', h1, by omega, h3⟩, h.rb, h.md, h.hmb, h.g0, h.g2, h.g3, h.df⟩
set_option maxRecDepth 10000 in
theorem gm_11 (hK : GK st s0 f xs a K) (hM : M s0 = true) (ha : 0 ≤ a ∧ a ≤ 10000000) (h : GmS st s0 f xs a (a + 5000) mb fr s Kd Vo Wd Tp c) {l : Nat → List Int} (hO : GmO st.length s c l) {fl : Nat → Bool} (hF : GmF c l fl) {y : Int} (hy : l 6 = [y]) (hy2 : 1 ≤ y ∧ y ≤ 40)
    (hgen : ∀ o : List Int, (1 ≤ o.length ∧ o.length ≤ 64) → (∀ x ∈ o, 0 ≤ x ∧ x ≤ 1000) → (∃ x0, o[0]? = some x0 ∧ 1 ≤ x0) → GenM ⟨Kd, Vo, Wd, Tp, l 0, l 1, l 2, l 3, l 4, l 5, o⟩) :
    wpM Tryz.prog T (liftM (upM st.length M)) F_gmodel.code.r.r.r.r.r.r.r.r.r.r.r (GQ st K Kp) fr s := by
  have hend : ∀ (fr : Fr) (s : St) (c : Nat → V) (l : Nat → List Int), GmS st s0 f xs a (a + 10000) mb fr s Kd Vo Wd Tp c → GmO st.length s c l → GmF c l fl → GenM ⟨Kd, Vo, Wd, Tp, l 0, l 1, l 2, l 3, l 4, l 5, l 6⟩ → wpM Tryz.prog T (liftM (upM st.length M)) F_gmodel.code.r.r.r.r.r.r.r.r.r.r.r.r (GQ st K Kp) fr s := fun fr s c l h1 h2 h3 h4 =>
    gm_end hK hM h1 (h2.o 0 (by decide)) (h2.o 5 (by decide)) (h2.o 6 (by decide)) h3.h1 h3.h2 h3.h3 h3.h4 h4
  have e : F_gmodel.code.r.r.r.r.r.r.r.r.r.r.r = .seq F_gmodel.code.r.r.r.r.r.r.r.r.r.r.r.l F_gmodel.code.r.r.r.r.r.r.r.r.r.r.r.r := rfl
  rw [e, wp_mseq]
  generalize wpM Tryz.prog T (liftM (upM st.length M)) F_gmodel.code.r.r.r.r.r.r.r.r.r.r.r.r (GQ st K Kp) = k12 at hend ⊢
  have hup : upM st.length M s0 = true := upM_of hM
  obtain ⟨a', e1, e2, g⟩ := h.gs
  have hlt := h.lt
  simp [F_gmodel, MC.l, MC.r, h.g0]
  have e5 : (s ++ [Blk.row 3 1 [I 0, I 1, I 4, I 63]])[s.length]? = some (.row 3 1 (ints [0, 1, 4, 63])) := by simp [ints]
  refine pick_g (g.more _) hup (by omega) e5 (Nat.ne_of_gt (Nat.lt_of_lt_of_le hlt g.same.len)) rfl (by simp) fun N s2 hN g2 b2 => ?_
  have hN' : 0 ≤ N ∧ N ≤ 63 := by simp at hN; omega
  obtain ⟨n, rfl⟩ : ∃ n : Nat, N = n := ⟨N.toNat, by omega⟩
  have hmb := h.hmb
  have O2 := (hO.more [Blk.row 3 1 [I 0, I 1, I 4, I 63]]).but b2 hlt
  have R2 := get_but (get_more h.rb _) b2 (by omega)
  have m2 := get_but (get_more h.md _) b2 (by omega)
  try simp
  refine gm_odds (a := a) (b := a + 5010) (l0 := l) (N := n) (w4 := fr.g 4) (c := c) hM (by omega) (by omega) (by rw [hy]; simp) rfl ⟨0, c 6, l 6, by omega, by simp, fun x hx => Or.inl hx, fun x hx => hx, h.step g2 (by omega) (by omega) R2 (c' := upd1 c 6 (c 6)) (by simpa [mdl] using m2) (by simp) (by simp) (by simp) (by simp), ?_, by simp, by simp, by simp⟩ ?_
  · exact O2.id 6
  · rintro fr3 s3 ⟨k, v, o, q1, q2, q3, q4, hS, hO3, q5, q6, q7⟩ q8
    simp
    have hkn : k = n := by rw [q8] at q5; simp at q5; omega
    refine hend fr3 s3 (upd1 c 6 v) _ (hS.wide (by omega)) hO3 ⟨by simpa using hF.h1, by simpa using hF.h2, by simpa using hF.h3, by simpa using hF.h4⟩ ?_
    simp
    have q2' : o.length = 1 + k := by rw [q2, hy]; rfl
    refine hgen o ⟨by omega, by omega⟩ (fun x hx => ?_) ⟨y, q4 y (by rw [hy]; rfl), hy2.1⟩
    rcases q3 x hx with hx | hx
    · rw [hy] at hx; simp at hx; omega
    · simp at hx; omega
set_option maxRecDepth 10000 in
theorem gm_10 (hK : GK st s0 f xs a K) (hM : M s0 = true) (ha : 0 ≤ a ∧ a ≤ 10000000) (h : GmS st s0 f xs a (a + 4900) mb fr s Kd Vo Wd Tp c) {l : Nat → List Int} (hO : GmO st.length s c l) {fl : Nat → Bool} (hF : GmF c l fl)
    (hgen : ∀ o : List Int, (1 ≤ o.length ∧ o.length ≤ 64) → (∀ x ∈ o, 0 ≤ x ∧ x ≤ 1000) → (∃ x0, o[0]? = some x0 ∧ 1 ≤ x0) → GenM ⟨Kd, Vo, Wd, Tp, l 0, l 1, l 2, l 3, l 4, l 5, o⟩) :
    wpM Tryz.prog T (liftM (upM st.length M)) F_gmodel.code.r.r.r.r.r.r.r.r.r.r (GQ st K Kp) fr s := by
  have hend : ∀ (fr : Fr) (s : St) (c : Nat → V) (l' : Nat → List Int) (y : Int), GmS st s0 f xs a (a + 5000) mb fr s Kd Vo Wd Tp c → GmO st.length s c l' → GmF c l' fl → l' 6 = [y] → 1 ≤ y ∧ y ≤ 40 → (∀ i, i ≠ 6 → l' i = l i) → wpM Tryz.prog T (liftM (upM st.length M)) F_gmodel.code.r.r.r.r.r.r.r.r.r.r.r (GQ st K Kp) fr s := fun fr s c l' y h1 h2 h3 h4 h5 h6 =>
    gm_11 hK hM ha h1 h2 h3 h4 h5 fun o q1 q2 q3 => by rw [h6 0 (by decide), h6 1 (by decide), h6 2 (by decide), h6 3 (by decide), h6 4 (by decide), h6 5 (by decide)]; exact hgen o q1 q2 q3
  have e : F_gmodel.code.r.r.r.r.r.r.r.r.r.r = .seq F_gmodel.code.r.r.r.r.r.r.r.r.r.r.l F_gmodel.code.r.r.r.r.r.r.r.r.r.r.r := rfl
  rw [e, wp_mseq]
  generalize wpM Tryz.prog T (liftM (upM st.length M)) F_gmodel.code.r.r.r.r.r.r.r.r.r.r.r (GQ st K Kp) = k12 at hend ⊢
  have hup : upM st.length M s0 = true := upM_of hM
  obtain ⟨a', e1, e2, g⟩ := h.gs
  have hlt := h.lt
  have hmb := h.hmb
  simp [F_gmodel, MC.l, MC.r, h.g0]
  refine range_g g hup (by omega) 1 40 (by omega) (by omega) (by omega) fun y s2 y1 y2 g2 b2 => ?_
  have R2 := get_but h.rb b2 (by omega)
  have m2 := get_but h.md b2 (by omega)
  have O2 := hO.but b2 hlt
  have m3 := get_more m2 [Blk.row 3 1 [I y]]
  simp [h.g3, m3, mdl, h.up]
  have o3 : OutS st.length 3 1 (s2 ++ [Blk.row 3 1 [I y]]) (.own s2.length 1 0 1) (ints [y]) := Or.inr ⟨s2.length, g2.same.len, by simp [ints], by simp [ints]⟩
  have O3 := O2.grow (i := 6) (by decide) o3 (fun b hb _ => List.getElem?_append_left hb) (fun b hb => by simp [ownL] at hb; exact Or.inr (by omega))
  have O4 := O3.apart m3 (by decide) (mdl Kd Vo Wd Tp (upd1 c 6 (.own s2.length 1 0 1)))
  refine hend _ _ (upd1 c 6 (.own s2.length 1 0 1)) (fun j => if j = 6 then [y] else l j) y (h.step ((g2.more _).set (by omega) _) (by omega) (by omega) (get_ne (get_more R2 _) (by omega) _) (get_set m3 (mdl Kd Vo Wd Tp (upd1 c 6 (.own s2.length 1 0 1)))) (by simp) (by simp) (by simp) (by simp)) ?_ ⟨by simpa using hF.h1, by simpa using hF.h2, by simpa using hF.h3, by simpa using hF.h4⟩ (by simp) ⟨y1, y2⟩ (fun i hi => by simp [hi])
  simpa [mdl] using O4
set_option maxRecDepth 10000 in
theorem gm_9 (hK : GK st s0 f xs a K) (hM : M s0 = true) (ha : 0 ≤ a ∧ a ≤ 10000000) (h : GmS st s0 f xs a (a + 4800) mb fr s Kd Vo Wd Tp c) {l : Nat → List Int} (hO : GmO st.length s c l) {fl : Nat → Bool} (hF : GmF c l fl) (hl5 : l 5 = [])
    (hgen : ∀ q o : List Int, (1 ≤ q.length ∧ q.length ≤ 64) → (∀ x ∈ q, 0 ≤ x ∧ x ≤ 1000) → (1 ≤ o.length ∧ o.length ≤ 64) → (∀ x ∈ o, 0 ≤ x ∧ x ≤ 1000) → (∃ x0, o[0]? = some x0 ∧ 1 ≤ x0) → GenM ⟨Kd, Vo, Wd, Tp, l 0, l 1, l 2, l 3, l 4, q, o⟩) :
    wpM Tryz.prog T (liftM (upM st.length M)) F_gmodel.code.r.r.r.r.r.r.r.r.r (GQ st K Kp) fr s := by
  have hend : ∀ (fr : Fr) (s : St) (c : Nat → V) (l' : Nat → List Int), GmS st s0 f xs a (a + 4900) mb fr s Kd Vo Wd Tp c → GmO st.length s c l' → GmF c l' fl → (1 ≤ (l' 5).length ∧ (l' 5).length ≤ 64) → (∀ x ∈ l' 5, 0 ≤ x ∧ x ≤ 1000) → (∀ i, i ≠ 5 → l' i = l i) → wpM Tryz.prog T (liftM (upM st.length M)) F_gmodel.code.r.r.r.r.r.r.r.r.r.r (GQ st K Kp) fr s := fun fr s c l' h1 h2 h3 h4 h5 h6 =>
    gm_10 hK hM ha h1 h2 h3 fun o q1 q2 q3 => by rw [h6 0 (by decide), h6 1 (by decide), h6 2 (by decide), h6 3 (by decide), h6 4 (by decide)]; exact hgen _ o h4 h5 q1 q2 q3
  have e : F_gmodel.code.r.r.r.r.r.r.r.r.r = .seq F_gmodel.code.r.r.r.r.r.r.r.r.r.l F_gmodel.code.r.r.r.r.r.r.r.r.r.r := rfl
  rw [e, wp_mseq]
  generalize wpM Tryz.prog T (liftM (upM st.length M)) F_gmodel.code.r.r.r.r.r.r.r.r.r.r (GQ st K Kp) = k12 at hend ⊢
  have hup : upM st.length M s0 = true := upM_of hM
  obtain ⟨a', e1, e2, g⟩ := h.gs
  have hlt := h.lt
  have hmb := h.hmb
  simp [F_gmodel, MC.l, MC.r, h.g0]
  have e5 : (s ++ [Blk.row 3 1 [I 1, I 2, I 5, I 64]])[s.length]? = some (.row 3 1 (ints [1, 2, 5, 64])) := by simp [ints]
  refine pick_g (g.more _) hup (by omega) e5 (Nat.ne_of_gt (Nat.lt_of_lt_of_le hlt g.same.len)) rfl (by simp) fun N s2 hN g2 b2 => ?_
  have hN' : 1 ≤ N ∧ N ≤ 64 := by simp at hN; omega
  obtain ⟨n, rfl⟩ : ∃ n : Nat, N = n := ⟨N.toNat, by omega⟩
  have O2 := (hO.more [Blk.row 3 1 [I 1, I 2, I 5, I 64]]).but b2 hlt
  have R2 := get_but (get_more h.rb _) b2 (by omega)
  have m2 := get_but (get_more h.md _) b2 (by omega)
  try simp
  refine gm_soft (a := a) (b := a + 4810) (l0 := l) (N := n) (w4 := fr.g 4) (c := c) hM (by omega) (by omega) (by rw [hl5]; simp) rfl ⟨0, c 5, l 5, by omega, by simp, fun x hx => Or.inl hx, fun x hx => hx, h.step g2 (by omega) (by omega) R2 (c' := upd1 c 5 (c 5)) (by simpa [mdl] using m2) (by simp) (by simp) (by simp) (by simp), ?_, by simp, by simp, by simp⟩ ?_
  · exact O2.id 5
  · rintro fr3 s3 ⟨k, v, o, q1, q2, q3, q4, hS, hO3, q5, q6, q7⟩ q8
    simp
    have hkn : k = n := by rw [q8] at q5; simp at q5; omega
    refine hend fr3 s3 (upd1 c 5 v) _ (hS.wide (by omega)) hO3 ⟨by simpa using hF.h1, by simpa using hF.h2, by simpa using hF.h3, by simpa using hF.h4⟩ ?_ ?_ (fun i hi => by simp [hi])
    · have q2' : o.length = 0 + k := by rw [q2, hl5]; rfl
      simp
      omega
    · simp
      intro x hx
      rcases q3 x hx with hx | hx
      · rw [hl5] at hx; simp at hx
      · simp at hx; omega
theorem GmO.val {n : Nat} {s : St} {c : Nat → V} {l : Nat → List Int} (h : GmO n s c l) {i : Nat} (hi : i ≠ 0 ∧ i ≠ 5 ∧ i ≠ 6) (v : V) (m : List Int) : GmO n s (upd1 c i v) (fun j => if j = i then m else l j) :=
  ⟨fun j hj => by
    have hji : j ≠ i := by omega
    simpa [hji] using h.o j hj, fun j k h1 h2 h3 => by
    have hji : j ≠ i := by omega
    have hki : k ≠ i := by omega
    simpa [hji, hki] using h.d j k h1 h2 h3⟩
set_option maxRecDepth 10000 in
theorem gm_8 (hK : GK st s0 f xs a K) (hM : M s0 = true) (ha : 0 ≤ a ∧ a ≤ 10000000) (h : GmS st s0 f xs a (a + 2000) mb fr s Kd Vo Wd Tp c) {l : Nat → List Int} (hO : GmO st.length s c l) {fl : Nat → Bool} (h1 : c 1 = .lst (fl 1) (ints (l 1))) (h4 : c 4 = .lst (fl 4) (ints (l 4))) (hl5 : l 5 = [])
    {mn : Int} (h4m : fr.g 4 = I mn) (hmn : 1 ≤ mn ∧ mn ≤ 4) (hwd : 1 ≤ Wd ∧ Wd ≤ 5)
    (hgen : ∀ p x q o : List Int, ((∃ r : Int, 1 ≤ r ∧ r ≤ 16 ∧ (p.length : Int) = r * Wd) ∧ ∀ y ∈ p, -128 ≤ y ∧ y ≤ 127) → ((x.length : Int) = mn * Wd * Wd ∧ ∀ y ∈ x, -128 ≤ y ∧ y ≤ 127) → (1 ≤ q.length ∧ q.length ≤ 64) → (∀ x ∈ q, 0 ≤ x ∧ x ≤ 1000) → (1 ≤ o.length ∧ o.length ≤ 64) → (∀ x ∈ o, 0 ≤ x ∧ x ≤ 1000) → (∃ x0, o[0]? = some x0 ∧ 1 ≤ x0) → GenM ⟨Kd, Vo, Wd, Tp, l 0, l 1, p, x, l 4, q, o⟩) :
    wpM Tryz.prog T (liftM (upM st.length M)) F_gmodel.code.r.r.r.r.r.r.r.r (GQ st K Kp) fr s := by
  have hend : ∀ (fr : Fr) (s : St) (p x : List Int) (g2 g3 : Bool), GmS st s0 f xs a (a + 4800) mb fr s Kd Vo Wd Tp (upd1 (upd1 c 2 (.lst g2 (ints p))) 3 (.lst g3 (ints x))) → GmO st.length s (upd1 (upd1 c 2 (.lst g2 (ints p))) 3 (.lst g3 (ints x))) (fun j => if j = 3 then x else if j = 2 then p else l j) →
      ((∃ r : Int, 1 ≤ r ∧ r ≤ 16 ∧ (p.length : Int) = r * Wd) ∧ ∀ y ∈ p, -128 ≤ y ∧ y ≤ 127) → ((x.length : Int) = mn * Wd * Wd ∧ ∀ y ∈ x, -128 ≤ y ∧ y ≤ 127) → wpM Tryz.prog T (liftM (upM st.length M)) F_gmodel.code.r.r.r.r.r.r.r.r.r (GQ st K Kp) fr s := fun fr s p x g2 g3 q1 q2 q3 q4 =>
    gm_9 hK hM ha q1 q2 (fl := fun i => if i = 2 then g2 else if i = 3 then g3 else fl i) ⟨by simpa using h1, by simp, by simp, by simpa using h4⟩ (by simpa using hl5) fun q o z1 z2 z3 z4 z5 => by simpa using hgen p x q o q3 q4 z1 z2 z3 z4 z5
  have e : F_gmodel.code.r.r.r.r.r.r.r.r = .seq F_gmodel.code.r.r.r.r.r.r.r.r.l F_gmodel.code.r.r.r.r.r.r.r.r.r := rfl
  rw [e, wp_mseq]
  generalize wpM Tryz.prog T (liftM (upM st.length M)) F_gmodel.code.r.r.r.r.r.r.r.r.r (GQ st K Kp) = k12 at hend ⊢
  have hup : upM st.length M s0 = true := upM_of hM
  obtain ⟨a', e1, e2, g⟩ := h.gs
  have hlt := h.lt
  have hmb := h.hmb
  have hmbl : mb < s.length := (List.getElem?_eq_some_iff.1 h.md).1
  have hw2 : 0 ≤ mn * Wd ∧ mn * Wd ≤ 20 := ⟨Int.mul_nonneg (by omega) (by omega), Int.mul_le_mul hmn.2 hwd.2 (by omega) (by omega)⟩
  have hw3 : 0 ≤ mn * Wd * Wd ∧ mn * Wd * Wd ≤ 100 := ⟨Int.mul_nonneg hw2.1 (by omega), Int.mul_le_mul hw2.2 hwd.2 (by omega) (by omega)⟩
  have hr1 : rdW [s0] [(mb, 6)] mb 1 = true := by simp [rdW]; omega
  have hr2 : rdW [s0] [(mb, 6)] mb 2 = true := by simp [rdW]; omega
  have hw6 : inW s.length [s0] [(mb, 6)] (liftM (upM st.length M)) mb 6 = true := by simp [inW, h.up]
  simp only [F_gmodel, MC.l, MC.r]
  refine wp_mtail [s0] [(mb, 6)] ?_
  simp [h.g0, h.g3, h.md, mdl, hr2, h4m, w64 (n := mn * Wd) (by omega) (by omega), w64 (n := mn * Wd * Wd) (by omega) (by omega)]
  have e5 : (s ++ [Blk.row 3 1 [I 1, I 2, I 4, I 16]])[s.length]? = some (.row 3 1 (ints [1, 2, 4, 16])) := by simp [ints]
  refine pick_g (g.more _) (inW_hd hup) (by omega) e5 (by omega) rfl (by simp) fun r s2 hr g2 b2 => ?_
  have hr' : 1 ≤ r ∧ r ≤ 16 := by simp at hr; omega
  have O2 := (hO.more [Blk.row 3 1 [I 1, I 2, I 4, I 16]]).but b2 hlt
  have R2 := get_but (get_more h.rb _) b2 (by omega)
  have m2 := get_but (get_more h.md _) b2 (by omega)
  have hp : 0 ≤ r * Wd ∧ r * Wd ≤ 80 := ⟨Int.mul_nonneg (by omega) (by omega), Int.mul_le_mul hr'.2 hwd.2 (by omega) (by omega)⟩
  simp [w64 (n := r * Wd) (by omega) (by omega)]
  refine sbytes_g g2 (inW_hd hup) (by omega) (r * Wd) (by omega) fun gp p a3 s3 p1 p2 p3 p4 g3 b3 => ?_
  have O3 := O2.but b3 hlt
  have R3 := get_but R2 b3 (by omega)
  have m3 := get_but m2 b3 (by omega)
  simp
  refine sbytes_g g3 (inW_hd hup) (by omega) (mn * Wd * Wd) (by omega) fun gx x a4 s4 x1 x2 x3 x4 g4 b4 => ?_
  have O4 := O3.but b4 hlt
  have F_gmodel.code.r.r.r.r := get_but R3 b4 (by omega)
  have m4 := get_but m3 b4 (by omega)
  have m5 := get_set m4 (mdl Kd Vo Wd Tp (upd1 c 2 (.lst gp (ints p))))
  simp [m4, mdl, h.up, hw6]
  simp [mdl] at m5
  simp [m5]
  have O5 := ((O4.apart m4 (by decide) (mdl Kd Vo Wd Tp (upd1 (upd1 c 2 (.lst gp (ints p))) 3 (.lst gx (ints x))))).val (i := 2) (by decide) (.lst gp (ints p)) p).val (i := 3) (by decide) (.lst gx (ints x)) x
  refine hend _ _ p x gp gx (h.step (g4.set (by omega) _) (by omega) (by omega) (get_ne F_gmodel.code.r.r.r.r (by omega) _) (get_set m4 (mdl Kd Vo Wd Tp (upd1 (upd1 c 2 (.lst gp (ints p))) 3 (.lst gx (ints x))))) (by simp) (by simp) (by simp) (by simp)) (by simpa [mdl] using O5) ⟨⟨r, hr'.1, hr'.2, p1⟩, p2⟩ ⟨x1, x2⟩
set_option maxRecDepth 10000 in
theorem gm_7 (hK : GK st s0 f xs a K) (hM : M s0 = true) (ha : 0 ≤ a ∧ a ≤ 10000000) (h : GmS st s0 f xs a (a + 100) mb fr s Kd Vo Wd Tp c) {l : Nat → List Int} (hO : GmO st.length s c l) (hl5 : l 5 = [])
    {mn : Int} (h4m : fr.g 4 = I mn) (hmn : 1 ≤ mn ∧ mn ≤ 4) (hwd : 1 ≤ Wd ∧ Wd ≤ 5) (hvo : 2 ≤ Vo ∧ Vo ≤ 16)
    (hgen : ∀ em ou p x q o : List Int, ((em.length : Int) = Vo * Wd ∧ ∀ y ∈ em, -128 ≤ y ∧ y ≤ 127) → ((ou.length : Int) = Vo * Wd ∧ ∀ y ∈ ou, -128 ≤ y ∧ y ≤ 127) → ((∃ r : Int, 1 ≤ r ∧ r ≤ 16 ∧ (p.length : Int) = r * Wd) ∧ ∀ y ∈ p, -128 ≤ y ∧ y ≤ 127) → ((x.length : Int) = mn * Wd * Wd ∧ ∀ y ∈ x, -128 ≤ y ∧ y ≤ 127) → (1 ≤ q.length ∧ q.length ≤ 64) → (∀ x ∈ q, 0 ≤ x ∧ x ≤ 1000) → (1 ≤ o.length ∧ o.length ≤ 64) → (∀ x ∈ o, 0 ≤ x ∧ x ≤ 1000) → (∃ x0, o[0]? = some x0 ∧ 1 ≤ x0) → GenM ⟨Kd, Vo, Wd, Tp, l 0, em, p, x, ou, q, o⟩) :
    wpM Tryz.prog T (liftM (upM st.length M)) F_gmodel.code.r.r.r.r.r.r.r (GQ st K Kp) fr s := by
  have hend : ∀ (fr : Fr) (s : St) (p x : List Int) (g2 g3 : Bool), GmS st s0 f xs a (a + 2000) mb fr s Kd Vo Wd Tp (upd1 (upd1 c 1 (.lst g2 (ints p))) 4 (.lst g3 (ints x))) → GmO st.length s (upd1 (upd1 c 1 (.lst g2 (ints p))) 4 (.lst g3 (ints x))) (fun j => if j = 4 then x else if j = 1 then p else l j) → fr.g 4 = I mn →
      ((p.length : Int) = Vo * Wd ∧ ∀ y ∈ p, -128 ≤ y ∧ y ≤ 127) → ((x.length : Int) = Vo * Wd ∧ ∀ y ∈ x, -128 ≤ y ∧ y ≤ 127) → wpM Tryz.prog T (liftM (upM st.length M)) F_gmodel.code.r.r.r.r.r.r.r.r (GQ st K Kp) fr s := fun fr s p x g2 g3 q1 q2 q5 q3 q4 =>
    gm_8 hK hM ha q1 q2 (fl := fun i => if i = 1 then g2 else g3) (by simp) (by simp) (by simpa using hl5) q5 hmn hwd fun p' x' q o z1 z2 z3 z4 z5 z6 z7 => by simpa using hgen p x p' x' q o q3 q4 z1 z2 z3 z4 z5 z6 z7
  have e : F_gmodel.code.r.r.r.r.r.r.r = .seq F_gmodel.code.r.r.r.r.r.r.r.l F_gmodel.code.r.r.r.r.r.r.r.r := rfl
  rw [e, wp_mseq]
  generalize wpM Tryz.prog T (liftM (upM st.length M)) F_gmodel.code.r.r.r.r.r.r.r.r (GQ st K Kp) = k12 at hend ⊢
  have hup : upM st.length M s0 = true := upM_of hM
  obtain ⟨a', e1, e2, g⟩ := h.gs
  have hlt := h.lt
  have hmb := h.hmb
  have hmbl : mb < s.length := (List.getElem?_eq_some_iff.1 h.md).1
  have hw2 : 0 ≤ Vo * Wd ∧ Vo * Wd ≤ 80 := ⟨Int.mul_nonneg (by omega) (by omega), Int.mul_le_mul hvo.2 hwd.2 (by omega) (by omega)⟩
  have hr1 : rdW [s0] [(mb, 5)] mb 1 = true := by simp [rdW]; omega
  have hr2 : rdW [s0] [(mb, 5)] mb 2 = true := by simp [rdW]; omega
  have hw6 : inW s.length [s0] [(mb, 5)] (liftM (upM st.length M)) mb 5 = true := by simp [inW, h.up]
  simp only [F_gmodel, MC.l, MC.r]
  refine wp_mtail [s0] [(mb, 5)] ?_
  simp [h.g0, h.g3, h.md, mdl, hr1, hr2, w64 (n := Vo * Wd) (by omega) (by omega)]
  refine sbytes_g g (inW_hd hup) (by omega) (Vo * Wd) (by omega) fun gp p a3 s3 p1 p2 p3 p4 g3 b3 => ?_
  have O3 := hO.but b3 hlt
  have R3 := get_but h.rb b3 (by omega)
  have m3 := get_but h.md b3 (by omega)
  simp
  refine sbytes_g g3 (inW_hd hup) (by omega) (Vo * Wd) (by omega) fun gx x a4 s4 x1 x2 x3 x4 g4 b4 => ?_
  have O4 := O3.but b4 hlt
  have F_gmodel.code.r.r.r.r := get_but R3 b4 (by omega)
  have m4 := get_but m3 b4 (by omega)
  have m5 := get_set m4 (mdl Kd Vo Wd Tp (upd1 c 1 (.lst gp (ints p))))
  simp [m4, mdl, h.up, hw6]
  simp [mdl] at m5
  simp [m5]
  have O5 := ((O4.apart m4 (by decide) (mdl Kd Vo Wd Tp (upd1 (upd1 c 1 (.lst gp (ints p))) 4 (.lst gx (ints x))))).val (i := 1) (by decide) (.lst gp (ints p)) p).val (i := 4) (by decide) (.lst gx (ints x)) x
  refine hend _ _ p x gp gx (h.step (g4.set (by omega) _) (by omega) (by omega) (get_ne F_gmodel.code.r.r.r.r (by omega) _) (get_set m4 (mdl Kd Vo Wd Tp (upd1 (upd1 c 1 (.lst gp (ints p))) 4 (.lst gx (ints x))))) (by simp) (by simp) (by simp) (by simp)) (by simpa [mdl] using O5) (by simp [h4m]) ⟨p1, p2⟩ ⟨x1, x2⟩
/-- what is left of the draw once the cuts are there -/
def GmG (Kd Vo Wd Tp : Int) (cu : List Int) : Prop := ∀ (mn : Int) (em ou p x q o : List Int), (1 ≤ mn ∧ mn ≤ 4 ∧ (Kd = 1 → mn = 3) ∧ (Kd = 2 → mn = 2)) → ((em.length : Int) = Vo * Wd ∧ ∀ y ∈ em, -128 ≤ y ∧ y ≤ 127) → ((ou.length : Int) = Vo * Wd ∧ ∀ y ∈ ou, -128 ≤ y ∧ y ≤ 127) → ((∃ r : Int, 1 ≤ r ∧ r ≤ 16 ∧ (p.length : Int) = r * Wd) ∧ ∀ y ∈ p, -128 ≤ y ∧ y ≤ 127) → ((x.length : Int) = mn * Wd * Wd ∧ ∀ y ∈ x, -128 ≤ y ∧ y ≤ 127) → (1 ≤ q.length ∧ q.length ≤ 64) → (∀ x ∈ q, 0 ≤ x ∧ x ≤ 1000) → (1 ≤ o.length ∧ o.length ≤ 64) → (∀ x ∈ o, 0 ≤ x ∧ x ≤ 1000) → (∃ x0, o[0]? = some x0 ∧ 1 ≤ x0) → GenM ⟨Kd, Vo, Wd, Tp, cu, em, p, x, ou, q, o⟩
set_option maxRecDepth 10000 in
theorem gm_6 (hK : GK st s0 f xs a K) (hM : M s0 = true) (ha : 0 ≤ a ∧ a ≤ 10000000) (h : GmS st s0 f xs a (a + 90) mb fr s Kd Vo Wd Tp c) {l : Nat → List Int} (hO : GmO st.length s c l) (hl5 : l 5 = []) (h4 : fr.g 4 = I 3)
    (_hkd : 1 ≤ Kd ∧ Kd ≤ 3) (hwd : 1 ≤ Wd ∧ Wd ≤ 5) (hvo : 2 ≤ Vo ∧ Vo ≤ 16) (hgen : GmG Kd Vo Wd Tp (l 0)) :
    wpM Tryz.prog T (liftM (upM st.length M)) F_gmodel.code.r.r.r.r.r.r (GQ st K Kp) fr s := by
  have hend : ∀ (fr : Fr) (s : St) (mn : Int), GmS st s0 f xs a (a + 100) mb fr s Kd Vo Wd Tp c → GmO st.length s c l → fr.g 4 = I mn → (1 ≤ mn ∧ mn ≤ 4 ∧ (Kd = 1 → mn = 3) ∧ (Kd = 2 → mn = 2)) → wpM Tryz.prog T (liftM (upM st.length M)) F_gmodel.code.r.r.r.r.r.r.r (GQ st K Kp) fr s := fun fr s mn q1 q2 q3 q4 =>
    gm_7 hK hM ha q1 q2 hl5 q3 ⟨q4.1, q4.2.1⟩ hwd hvo fun em ou p x q o => hgen mn em ou p x q o q4
  have e : F_gmodel.code.r.r.r.r.r.r = .seq F_gmodel.code.r.r.r.r.r.r.l F_gmodel.code.r.r.r.r.r.r.r := rfl
  rw [e, wp_mseq]
  generalize wpM Tryz.prog T (liftM (upM st.length M)) F_gmodel.code.r.r.r.r.r.r.r (GQ st K Kp) = k12 at hend ⊢
  have hup : upM st.length M s0 = true := upM_of hM
  obtain ⟨a', e1, e2, g⟩ := h.gs
  have hlt := h.lt
  have hmb := h.hmb
  by_cases k2 : Kd = 2
  · simp [F_gmodel, MC.l, MC.r, h.g3, h.md, mdl, k2]
    exact hend _ _ 2 (h.step g e1 (by omega) h.rb (by rw [h.md, k2]) (by simp) (by simp) (by simp) (by simp)) hO (by simp) ⟨by omega, by omega, by omega, by omega⟩
  · by_cases k3 : Kd = 3
    · simp [F_gmodel, MC.l, MC.r, h.g3, h.g0, h.md, mdl, k3]
      refine range_g g hup (by omega) 1 4 (by omega) (by omega) (by omega) fun mn s2 y1 y2 g2 b2 => ?_
      exact hend _ _ mn (h.step g2 (by omega) (by omega) (get_but h.rb b2 (by omega)) (get_but h.md b2 (by omega)) (by simp) (by simp) (by simp) (by simp)) (hO.but b2 hlt) (by simp) ⟨by omega, by omega, by omega, by omega⟩
    · simp [F_gmodel, MC.l, MC.r, h.g3, h.md, mdl, show (Kd == 2) = false by simpa using k2, show (Kd == 3) = false by simpa using k3]
      exact hend _ _ 3 (h.step g e1 (by omega) h.rb h.md (by simp) (by simp) (by simp) (by simp)) hO (by simp [h4]) ⟨by omega, by omega, by omega, by omega⟩
set_option maxRecDepth 10000 in
theorem gm_5 (hK : GK st s0 f xs a K) (hM : M s0 = true) (ha : 0 ≤ a ∧ a ≤ 10000000) (h : GmS st s0 f xs a (a + 90) mb fr s Kd Vo Wd Tp c) {l : Nat → List Int} (hO : GmO st.length s c l) (hl5 : l 5 = [])
    (hkd : 1 ≤ Kd ∧ Kd ≤ 3) (hwd : 1 ≤ Wd ∧ Wd ≤ 5) (hvo : 2 ≤ Vo ∧ Vo ≤ 16) (hgen : GmG Kd Vo Wd Tp (l 0)) :
    wpM Tryz.prog T (liftM (upM st.length M)) F_gmodel.code.r.r.r.r.r (GQ st K Kp) fr s := by
  have hend : ∀ (fr : Fr) (s : St), GmS st s0 f xs a (a + 90) mb fr s Kd Vo Wd Tp c → GmO st.length s c l → fr.g 4 = I 3 → wpM Tryz.prog T (liftM (upM st.length M)) F_gmodel.code.r.r.r.r.r.r (GQ st K Kp) fr s := fun fr s q1 q2 q3 =>
    gm_6 hK hM ha q1 q2 hl5 q3 hkd hwd hvo hgen
  have e : F_gmodel.code.r.r.r.r.r = .seq F_gmodel.code.r.r.r.r.r.l F_gmodel.code.r.r.r.r.r.r := rfl
  rw [e, wp_mseq]
  generalize wpM Tryz.prog T (liftM (upM st.length M)) F_gmodel.code.r.r.r.r.r.r (GQ st K Kp) = k12 at hend ⊢
  obtain ⟨a', e1, e2, g⟩ := h.gs
  simp [F_gmodel, MC.l, MC.r]
  exact hend _ _ (h.step g e1 e2 h.rb h.md (by simp) (by simp) (by simp) (by simp)) hO (by simp)
set_option maxRecDepth 10000 in
theorem gm_4 (hK : GK st s0 f xs a K) (hM : M s0 = true) (ha : 0 ≤ a ∧ a ≤ 10000000) (h : GmS st s0 f xs a (a + 10) mb fr s Kd Vo Wd Tp c) {l : Nat → List Int} (hO : GmO st.length s c l) (hl0 : l 0 = []) (hl5 : l 5 = [])
    (hkd : 1 ≤ Kd ∧ Kd ≤ 3) (hwd : 1 ≤ Wd ∧ Wd ≤ 5) (hvo : 2 ≤ Vo ∧ Vo ≤ 16) (htp : 1 ≤ Tp ∧ Tp ≤ Vo) :
    wpM Tryz.prog T (liftM (upM st.length M)) F_gmodel.code.r.r.r.r (GQ st K Kp) fr s := by
  have hend : ∀ (fr : Fr) (s : St) (c : Nat → V) (l' : Nat → List Int), GmS st s0 f xs a (a + 90) mb fr s Kd Vo Wd Tp c → GmO st.length s c l' → l' 5 = [] → ((l' 0).length = 4 ∧ ∀ x ∈ l' 0, 1 ≤ x ∧ x ≤ 15) → wpM Tryz.prog T (liftM (upM st.length M)) F_gmodel.code.r.r.r.r.r (GQ st K Kp) fr s := fun fr s c l' q1 q2 q3 q4 =>
    gm_5 hK hM ha q1 q2 q3 hkd hwd hvo fun mn em ou p x q o z1 z2 z3 z4 z5 z6 z7 z8 z9 z10 => ⟨hkd, hvo, hwd, htp, q4, z2, z4, ⟨⟨mn, z1.1, z1.2.1, z1.2.2.1, z1.2.2.2, z5.1⟩, z5.2⟩, z3, ⟨z6, z7⟩, ⟨z8, z9, z10⟩⟩
  have e : F_gmodel.code.r.r.r.r = .seq F_gmodel.code.r.r.r.r.l F_gmodel.code.r.r.r.r.r := rfl
  rw [e, wp_mseq]
  generalize wpM Tryz.prog T (liftM (upM st.length M)) F_gmodel.code.r.r.r.r.r (GQ st K Kp) = k12 at hend ⊢
  have hup : upM st.length M s0 = true := upM_of hM
  obtain ⟨a', e1, e2, g⟩ := h.gs
  simp [F_gmodel, MC.l, MC.r]
  refine gm_cuts (a := a) (b := a + 10) (l0 := l) (N := 4) (w4 := fr.g 4) (c := c) hM (by omega) (by omega) (by rw [hl0]; simp) rfl ⟨0, c 0, l 0, by omega, by simp, fun x hx => Or.inl hx, fun x hx => hx, h.step g (by omega) (by simp; omega) h.rb (c' := upd1 c 0 (c 0)) (by simpa [mdl] using h.md) (by simp) (by simp) (by simp) (by simp), ?_, by simp, by simp, rfl⟩ ?_
  · exact hO.id 0
  · rintro fr3 s3 ⟨k, v, o, q1, q2, q3, q4, hS, hO3, q5, q6, q7⟩ q8
    simp
    have hkn : k = 4 := by rw [q8] at q5; simp at q5; omega
    refine hend fr3 s3 (upd1 c 0 v) _ (hS.wide (by omega)) hO3 (by simp [hl5]) ⟨?_, ?_⟩
    · have q2' : o.length = 0 + k := by rw [q2, hl0]; rfl
      simp
      omega
    · simp
      intro x hx
      rcases q3 x hx with hx | hx
      · rw [hl0] at hx; simp at hx
      · simp at hx; omega
theorem GmO.nils (n : Nat) (s : St) : GmO n s nils (fun _ => []) := ⟨fun i _ => by simpa [YtadkhechobeccaaGreatDoor.Vm.nils, ints] using OutS.nil _ _ _ _, fun i j _ _ _ b hb => by simp [YtadkhechobeccaaGreatDoor.Vm.nils, ownL] at hb⟩
set_option maxRecDepth 10000 in
theorem gmodel_v (s0 : Nat) (hs : st[s0]? = some (strm f xs a)) (hM : M s0 = true) (src : xs.length ≤ 9223372036854775807 ∧ ∀ x ∈ xs, -9223372036854775808 ≤ x ∧ x ≤ 9223372036854775807) (ha : 0 ≤ a ∧ a ≤ 10000000) (hK : GK st s0 f xs a K) :
    CallV Tryz.prog T M 6 [.ptr s0 1 0 0] st K Kp := by
  have hlt : s0 < st.length := (List.getElem?_eq_some_iff.1 hs).1
  have hup : upM st.length M s0 = true := upM_of hM
  have g00 : GS st.length s0 st st f xs a := ⟨Same.refl (Nat.le_refl _), hs, hlt, src⟩
  have hend : ∀ (fr : Fr) (s : St) (mb : Nat) (Kd Vo Wd Tp : Int), GmS st s0 f xs a (a + 10) mb fr s Kd Vo Wd Tp nils → (1 ≤ Kd ∧ Kd ≤ 3) → (1 ≤ Wd ∧ Wd ≤ 5) → (2 ≤ Vo ∧ Vo ≤ 16) → (1 ≤ Tp ∧ Tp ≤ Vo) → wpM Tryz.prog T (liftM (upM st.length M)) F_gmodel.code.r.r.r.r (GQ st K Kp) fr s := fun fr s mb Kd Vo Wd Tp q1 q2 q3 q4 q5 =>
    gm_4 hK hM ha q1 (GmO.nils _ _) rfl rfl q2 q3 q4 q5
  refine CallV.give (fun_ok hmix c_gmodel (le_of rfl) ?_)
  have e : F_gmodel.code = .seq F_gmodel.code.l (.seq F_gmodel.code.r.l (.seq F_gmodel.code.r.r.l (.seq F_gmodel.code.r.r.r.l F_gmodel.code.r.r.r.r))) := rfl
  rw [show Fin F_gmodel.res (fun v st' => ∃ v', Frz st.length st' v v' ∧ LowSt st st' ∧ K v' (st'.take st.length)) (fun c st' => LowSt st st' ∧ Kp c (st'.take st.length)) = GQ st K Kp from rfl]
  generalize F_gmodel.code.r.r.r.r = c4 at hend e
  rw [e]
  simp [F_gmodel, MC.l, MC.r]
  have R0 : (st ++ [mdl 0 0 0 0 nils])[st.length]? = some (mdl 0 0 0 0 nils) := by simp
  refine range_g (g00.more _) hup (by omega) 1 3 (by omega) (by omega) (by omega) fun kd s1 k1 k2 g1 b1 => ?_
  have R1 := get_but R0 b1 (by omega)
  simp
  have e1 : (s1 ++ [Blk.row 3 1 [I 2, I 3, I 5, I 8, I 16]])[s1.length]? = some (.row 3 1 (ints [2, 3, 5, 8, 16])) := by simp [ints]
  refine pick_g (g1.more _) hup (by omega) e1 (Nat.ne_of_gt (Nat.lt_of_lt_of_le hlt g1.same.len)) rfl (by simp) fun vo s2 hvo g2 b2 => ?_
  have R2 := get_but (get_more R1 _) b2 (by omega)
  simp
  have e2 : (s2 ++ [Blk.row 3 1 [I 1, I 2, I 3, I 4, I 5]])[s2.length]? = some (.row 3 1 (ints [1, 2, 3, 4, 5])) := by simp [ints]
  refine pick_g (g2.more _) hup (by omega) e2 (Nat.ne_of_gt (Nat.lt_of_lt_of_le hlt g2.same.len)) rfl (by simp) fun wd s3 hwd g3 b3 => ?_
  have R3 := get_but (get_more R2 _) b3 (by omega)
  have hvo' : 2 ≤ vo ∧ vo ≤ 16 := by simp at hvo; omega
  have hwd' : 1 ≤ wd ∧ wd ≤ 5 := by simp at hwd; omega
  simp [g3.up]
  have m3 : (s3 ++ [mdl kd vo wd 0 nils])[s3.length]? = some (mdl kd vo wd 0 nils) := by simp
  obtain ⟨mb, hmb⟩ : ∃ mb, s3.length = mb := ⟨_, rfl⟩
  have hmn : st.length < mb := by have := (List.getElem?_eq_some_iff.1 R3).1; omega
  have hmu : upM st.length M mb = true := by simp [upM]; omega
  simp only [mdl, nils] at m3
  rw [hmb] at m3 ⊢
  refine range_g (g3.more _) hup (by omega) 1 vo (by omega) (by omega) (by omega) fun tp s4 t1 t2 g4 b4 => ?_
  have m4 := get_but m3 b4 (by omega)
  have rr4 := get_but (get_more R3 _) b4 (by omega)
  simp [m4]
  have m5 : (s4.set mb (mdl kd vo wd tp nils))[mb]? = some (mdl kd vo wd tp nils) := get_set m4 _
  have g5 := g4.set (b := mb) (by omega) (mdl kd vo wd tp nils)
  have rr5 := get_ne rr4 (show mb ≠ st.length by omega) (mdl kd vo wd tp nils)
  refine flip_g g5 hup (by omega) 2 (by omega) fun b s6 g6 b6 => ?_
  have m6 := get_but m5 b6 (by omega)
  have rr6 := get_but rr5 b6 (by omega)
  cases b with
  | false =>
    simp
    exact hend _ _ mb kd vo wd tp ⟨⟨_, by omega, by omega, g6⟩, rr6, m6, hmn, by simp, by simp, by simp, by simp⟩ ⟨k1, k2⟩ hwd' hvo' ⟨t1, t2⟩
  | true =>
    simp only [mdl, nils] at m6
    simp [m6]
    have m7 : (s6.set mb (mdl kd vo wd vo nils))[mb]? = some (mdl kd vo wd vo nils) := get_set m6 _
    have g7 := g6.set (b := mb) (by omega) (mdl kd vo wd vo nils)
    have rr7 := get_ne rr6 (show mb ≠ st.length by omega) (mdl kd vo wd vo nils)
    exact hend _ _ mb kd vo wd vo ⟨⟨_, by omega, by omega, g7⟩, rr7, m7, hmn, by simp, by simp, by simp, by simp⟩ ⟨k1, k2⟩ hwd' hvo' (by omega)
end
/-- bounds of a model -/
structure LB (B : Int) (n : Nat) (m : LModel) : Prop where
  sc : ∀ x ∈ [m.kind, m.vocab, m.width, m.top], -B ≤ x ∧ x ≤ B
  ls : ∀ l ∈ [m.cuts, m.embed, m.place, m.mix, m.out, m.soft, m.odds], l.length ≤ n ∧ ∀ x ∈ l, -B ≤ x ∧ x ≤ B
def mls (m : LModel) : Nat → List Int
  | 0 => m.cuts
  | 1 => m.embed
  | 2 => m.place
  | 3 => m.mix
  | 4 => m.out
  | 5 => m.soft
  | _ => m.odds
end Go.Proofs.YtadkhechobeccaaGreatDoor.Vm
namespace Go.Proofs.YtadkhechobeccaaGreatDoor.Vm
open Go.RowKit
theorem w32_rng (n : Int) : -2147483648 ≤ w32 n ∧ w32 n ≤ 2147483647 := by
  unfold w32
  rw [IntKind.wrap_i32]
  omega
/-- OpShift -/
def shM (n by_ : Int) : Int := (n + 2 ^ (by_ - 1).toNat).fdiv (2 ^ by_.toNat)
theorem fdiv_td {a b : Int} (hb : 0 < b) : a.fdiv b = if a.tmod b < 0 then a.tdiv b - 1 else a.tdiv b := by
  have h1 := Int.mul_tdiv_add_tmod a b
  have h2 := Int.tmod_lt_of_pos a hb
  have h3 := Int.lt_tmod_of_pos a hb
  rw [Int.fdiv_eq_ediv_of_nonneg _ (by omega)]
  by_cases h : a.tmod b < 0
  · rw [if_pos h]
    exact ((Int.ediv_emod_unique (r := a.tmod b + b) hb).2 ⟨by rw [Int.mul_sub]; omega, by omega, by omega⟩).1
  · rw [if_neg h]
    exact ((Int.ediv_emod_unique (r := a.tmod b) hb).2 ⟨by omega, by omega, by omega⟩).1
theorem dotK_congr {a a' b : List Int} : ∀ {k : Nat}, (∀ j, j < k → a[j]? = a'[j]?) → dotK a b k = dotK a' b k
  | 0, _ => rfl
  | k + 1, h => by rw [dotK, dotK, dotK_congr fun j hj => h j (by omega), h k (by omega)]
theorem dotK_rng (a b : List Int) : ∀ k, -2147483648 ≤ dotK a b k ∧ dotK a b k ≤ 2147483647
  | 0 => ⟨by simp [dotK], by simp [dotK]⟩
  | _ + 1 => w32_rng _
/-- the first n values of a function -/
def mapR (n : Nat) (g : Nat → Int) : List Int := (List.range n).map g
@[simp] theorem mapR_len (n : Nat) (g : Nat → Int) : (mapR n g).length = n := by simp [mapR]
theorem mapR_succ (n : Nat) (g : Nat → Int) : mapR (n + 1) g = mapR n g ++ [g n] := by simp [mapR, List.range_succ]
theorem mapR_get {n : Nat} {g : Nat → Int} {k : Nat} (h : k < n) : (mapR n g)[k]? = some (g k) := by simp [mapR, h]
theorem mapR_eq {n : Nat} {g : Nat → Int} {l : List Int} (hl : l.length = n) (h : ∀ k, k < n → l[k]? = some (g k)) : l = mapR n g := by
  apply List.ext_getElem?
  intro i
  by_cases hi : i < n
  · rw [h i hi, mapR_get hi]
  · rw [List.getElem?_eq_none (by omega), List.getElem?_eq_none (by simp; omega)]
def gI (l : List Int) (k : Nat) : Int := (l[k]?).getD 0
theorem gI_of {l : List Int} {k : Nat} {x : Int} (h : l[k]? = some x) : gI l k = x := by simp [gI, h]
theorem gI_mem {l : List Int} {k : Nat} {lo hi : Int} (h : ∀ x ∈ l, lo ≤ x ∧ x ≤ hi) (hk : k < l.length) : lo ≤ gI l k ∧ gI l k ≤ hi := by
  rw [gI_of (List.getElem?_eq_getElem hk)]
  exact h _ (List.getElem_mem hk)
/-- the sum of a token's row and a place's -/
def xM (m : LModel) (w t p : Nat) : List Int := mapR w fun k => gI m.embed (t * w + k) + gI m.place (p * w + k)
/-- a product of a matrix, whose rows are numbered through, with a column -/
def mvM (mat : List Int) (w : Nat) (x : List Int) (j : Nat) : Int := dotK (mat.drop (j * w)) x w
/-- an entry -/
def entM (m : LModel) (w t p : Nat) : List Int := if m.kind = 1 then mapR (3 * w) (fun j => shM (mvM m.mix w (xM m w t p) j) (gI m.cuts 0)) else xM m w t p
end Go.Proofs.YtadkhechobeccaaGreatDoor.Vm
namespace Go.Proofs.YtadkhechobeccaaGreatDoor.Vm
open Go.RowKit
section
variable {T : Tbl} {M : Nat → Bool} {st : St} {K : V → St → Prop} {Kp : List PanicEntry → St → Prop}
theorem pow_rng {k : Nat} (hk : k ≤ 15) : 1 ≤ (2 : Int) ^ k ∧ (2 : Int) ^ k ≤ 32768 := by
  rcases (show k = 0 ∨ k = 1 ∨ k = 2 ∨ k = 3 ∨ k = 4 ∨ k = 5 ∨ k = 6 ∨ k = 7 ∨ k = 8 ∨ k = 9 ∨ k = 10 ∨ k = 11 ∨ k = 12 ∨ k = 13 ∨ k = 14 ∨ k = 15 by omega) with e | e | e | e | e | e | e | e | e | e | e | e | e | e | e | e <;> rw [e] <;> decide
theorem shM_nat (n : Int) (k : Nat) : shM n ((k : Int) + 1) = (n + 2 ^ k).fdiv (2 ^ (k + 1)) := by
  unfold shM
  rw [show ((k : Int) + 1 - 1).toNat = k by omega, show ((k : Int) + 1).toNat = k + 1 by omega]
theorem shift_v (n by_ : Int) (hb : 1 ≤ by_ ∧ by_ ≤ 15) (hn : -1000000000000 ≤ n ∧ n ≤ 1000000000000) (hK : K (I (shM n by_)) st) : CallV Tryz.prog T M 89 [I n, I by_] st K Kp := by
  obtain ⟨k, rfl⟩ : ∃ k : Nat, by_ = (k : Int) + 1 := ⟨(by_ - 1).toNat, by omega⟩
  have hp := pow_rng (k := k) (by omega)
  rw [shM_nat] at hK
  refine fun_ok hmix c_shift (le_of rfl) ?_
  simp [F_shift, w64 (n := (k : Int)) (by omega) (by omega), show (0 : Int) ≤ (k : Int) + 1 by omega, IntKind.bits, show min k 64 = k by omega, show min (k + 1) 64 = k + 1 by omega, w64 (n := 2 ^ k) (by omega) (by omega), w64 (n := n + 2 ^ k) (by omega) (by omega)]
  exact hK
theorem floorDiv_v (a b : Int) (ha : -1000000000000000 ≤ a ∧ a ≤ 1000000000000000) (hb : 1 ≤ b) (hK : K (I (a.fdiv b)) st) : CallV Tryz.prog T M 111 [I a, I b] st K Kp := by
  have h1 : a.tdiv b ≤ 1000000000000000 ∧ -1000000000000000 ≤ a.tdiv b := by
    have h2 := Int.natAbs_tdiv_le_natAbs a b
    omega
  rw [fdiv_td (by omega)] at hK
  refine fun_ok hmix c_floorDiv (le_of rfl) ?_
  have h0 : b ≠ 0 := by omega
  by_cases h : a.tmod b < 0
  · rw [if_pos h] at hK
    simp [F_floorDiv, h0, h, w64 (n := a.tdiv b) (by omega) (by omega), w64 (n := a.tdiv b - 1) (by omega) (by omega)]
    exact hK
  · rw [if_neg h] at hK
    simp [F_floorDiv, h0, h, w64 (n := a.tdiv b) (by omega) (by omega)]
    exact hK
theorem refShift_v (n by_ : Int) (hb : 1 ≤ by_ ∧ by_ ≤ 15) (hn : -1000000000000 ≤ n ∧ n ≤ 1000000000000) (hK : K (I (shM n by_)) st) : CallV Tryz.prog T M 83 [I n, I by_] st K Kp := by
  obtain ⟨k, rfl⟩ : ∃ k : Nat, by_ = (k : Int) + 1 := ⟨(by_ - 1).toNat, by omega⟩
  have hp := pow_rng (k := k) (by omega)
  have hp2 := pow_rng (k := k + 1) (by omega)
  rw [shM_nat] at hK
  refine fun_ok hmix c_refShift (le_of rfl) ?_
  simp [F_refShift]
  refine wp_mflat [] [] ?_
  simp [w64 (n := (k : Int)) (by omega) (by omega), show (0 : Int) ≤ (k : Int) + 1 by omega, IntKind.bits, show min k 64 = k by omega, show min (k + 1) 64 = k + 1 by omega, w64 (n := 2 ^ k) (by omega) (by omega), w64 (n := n + 2 ^ k) (by omega) (by omega), w64 (n := 2 ^ (k + 1)) (by omega) (by omega)]
  refine floorDiv_v _ _ (by omega) (by omega) ?_
  simpa using hK
theorem wrapped_v (n : Int) (hK : K (I (w32 n)) st) : CallV Tryz.prog T M 84 [I n] st K Kp := by
  have e : IntKind.i64.wrap (IntKind.i32.wrap (IntKind.u32.wrap n)) = w32 n := by
    unfold w32
    simp only [IntKind.wrap_i64, IntKind.wrap_i32, IntKind.wrap_u32]
    omega
  refine fun_ok hmix c_wrapped (le_of rfl) ?_
  simp [F_wrapped, e]
  exact hK
theorem within_v (n lo hi : Int) (hK : K (Bo (inB lo hi n)) st) : CallV Tryz.prog T M 56 [I n, I lo, I hi] st K Kp := by
  refine fun_ok hmix c_within (le_of rfl) ?_
  by_cases h : lo ≤ n <;> simp [F_within, h]
  · simpa [inB, h] using hK
  · simpa [inB, h] using hK
theorem rowsN_v (f : Bool) (l : List Int) (k : Nat) (hk : 1 ≤ k) (hl : l.length ≤ 1000000) (hK : K (I (rowsM l.length k : Nat)) st) : CallV Tryz.prog T M 87 [.lst f (ints l), I k] st K Kp := by
  refine fun_ok hmix c_rows (le_of rfl) ?_
  have h0 : (k : Int) ≠ 0 := by omega
  have e1 : (l.length : Int).tmod k = (l.length : Int) % k := Int.tmod_eq_emod_of_nonneg (by omega)
  have e2 : (l.length : Int).tdiv k = (l.length : Int) / k := Int.tdiv_eq_ediv_of_nonneg (by omega)
  have hd : 0 ≤ (l.length : Int) / k := Int.ediv_nonneg (by omega) (by omega)
  have hd2 : (l.length : Int) / k ≤ l.length := Int.ediv_le_self _ (by omega)
  have hd3 : (l.length : Int) % k = ((l.length % k : Nat) : Int) := rfl
  have hz : k ≠ 0 := by omega
  by_cases h : l.length % k = 0
  · have hn : (l.length : Int) % k = 0 := by omega
    simp [F_rows, hz, e1, e2, hn, w64 (n := (l.length : Int) / k) (by omega) (by omega)]
    simpa [rowsM, h] using hK
  · have hn : ¬ (l.length : Int) % k = 0 := fun e => h (Int.ofNat_eq_zero.1 (by rw [← hd3]; exact e))
    have hn2 : ((l.length : Int) % k != 0) = true := by simp [bne, hn]
    simp [F_rows, hz, e1, hn2]
    simpa [rowsM, h] using hK
end
end Go.Proofs.YtadkhechobeccaaGreatDoor.Vm
namespace Go.Proofs.YtadkhechobeccaaGreatDoor.Vm
open Go.RowKit
/-- v reads as the ints l -/
def Rd (st : St) (v : V) (l : List Int) : Prop := (∃ f, v = .lst f (ints l)) ∨ ∃ b t, v = .own b l.length 0 l.length ∧ st[b]? = some (.row t 1 (ints l))
theorem Rd.lst (st : St) (f : Bool) (l : List Int) : Rd st (.lst f (ints l)) l := Or.inl ⟨f, rfl⟩
theorem Rd.of_out {n t : Nat} {st : St} {v : V} {l : List Int} (h : OutS n t 1 st v (ints l)) : Rd st v l := by
  rcases h with ⟨h1, rfl⟩ | ⟨b, h1, h2, rfl⟩
  · have : l = [] := by simpa [ints] using h1
    subst this
    exact Or.inl ⟨true, rfl⟩
  · rw [ints_len]
    exact Or.inr ⟨b, t, rfl, h2⟩
theorem Rd.more {st : St} {v : V} {l : List Int} (h : Rd st v l) (e : St) : Rd (st ++ e) v l := by
  rcases h with h | ⟨b, t, h1, h2⟩
  · exact Or.inl h
  · exact Or.inr ⟨b, t, h1, get_more h2 e⟩
theorem Rd.keep {st st' : St} {v : V} {l : List Int} (h : Rd st v l) (hk : ∀ b ∈ ownL v, st'[b]? = st[b]?) : Rd st' v l := by
  rcases h with h | ⟨b, t, rfl, h2⟩
  · exact Or.inl h
  · exact Or.inr ⟨b, t, rfl, (hk b (by simp [ownL])).trans h2⟩
theorem Rd.len {st : St} {v : V} {l : List Int} (h : Rd st v l) : lenV st v = some (I (l.length : Int)) := by
  rcases h with ⟨f, rfl⟩ | ⟨b, t, rfl, h2⟩
  · simp
  · simp [h2]
theorem Rd.el {st : St} {v : V} {l : List Int} (h : Rd st v l) {k : Nat} {x : Int} (hx : l[k]? = some x) : ∃ p, elemAt 1 st (k : Int) v = some p ∧ (∀ rd : Nat → Nat → Bool, (∀ b j, rd b j = true) → mLoad rd false 1 st p = some (I x)) := by
  have hi := ints_get hx
  rcases h with ⟨f, rfl⟩ | ⟨b, t, rfl, h2⟩
  · exact ⟨.cref (I x) 0, by simp [hi], fun rd _ => by simp⟩
  · have hk : k < l.length := (List.getElem?_eq_some_iff.1 hx).1
    exact ⟨.ptr b l.length k 0, by simp [h2, hk], fun rd hrd => by simp [h2, hi, rdOk_of (hrd b), hrd]⟩
theorem Rd.rdl {st : St} {v : V} {l : List Int} (h : Rd st v l) : rdl st v = some (ints l) := by
  rcases h with ⟨f, rfl⟩ | ⟨b, t, rfl, h2⟩
  · simp
  · simp [h2]; exact List.take_of_length_le (by simp [ints])
section
variable {T : Tbl} {M : Nat → Bool} {st : St} {K : V → St → Prop} {Kp : List PanicEntry → St → Prop}
theorem dot_r {va vb : V} {a b : List Int} (ra : Rd st va a) (rb : Rd st vb b) (h : a.length ≤ b.length) (hl : a.length ≤ 1000000000) (hK : K (I (dotK a b a.length)) st) : CallV Tryz.prog T M 90 [va, vb] st K Kp := by
  refine fun_ok hmix c_dot (le_of rfl) ?_
  simp [F_dot, ra.len]
  refine wp_mloop (fun fr s => ∃ k : Nat, k ≤ a.length ∧ s = st ∧ fr.df = [] ∧ fr.g 0 = va ∧ fr.g 1 = vb ∧ fr.g 8 = I a.length ∧ fr.g 9 = I k ∧ fr.g 5 = I (dotK a b k)) (fun fr _ => a.length - nat (fr.g 9)) ⟨0, by simp [dotK]⟩ ?_
  rintro fr s ⟨k, hk, rfl, hdf, g0, g1, g8, g9, g5⟩
  by_cases hlt : k < a.length
  · have ha := List.getElem?_eq_getElem hlt
    have hb := List.getElem?_eq_getElem (show k < b.length by omega)
    obtain ⟨p, p1, p2⟩ := ra.el ha
    obtain ⟨q, q1, q2⟩ := rb.el hb
    simp [g8, g9, hlt]
    refine wp_mflat [] [] ?_
    simp [g0, g1, g9, g5, p1, p2, q1, q2]
    refine wrap_v _ ?_
    simp
    refine wrap_v _ ?_
    simp [g8, hdf, w64 (n := (k : Int) + 1) (by omega) (by omega)]
    refine ⟨⟨k + 1, by omega, by omega, ?_⟩, by omega⟩
    simp [dotK, w32_w64, List.getElem?_eq_getElem hlt, List.getElem?_eq_getElem (show k < b.length by omega)]
  · obtain rfl : k = a.length := by omega
    simp [g8, g9, g5, hdf]
    exact hK
set_option maxRecDepth 10000 in
theorem refRow_r {vm vx : V} (mat x : List Int) (j : Int) (rm : Rd st vm mat) (rx : Rd st vx x) (hj : 0 ≤ j ∧ j ≤ 1000000) (hx : x.length ≤ 1000000) (hm : j * x.length + x.length ≤ mat.length) (hK : K (I (mvM mat x.length x j.toNat)) st) : CallV Tryz.prog T M 47 [vm, I j, vx] st K Kp := by
  obtain ⟨j, rfl⟩ : ∃ q : Nat, j = (q : Int) := ⟨j.toNat, by omega⟩
  have hjx : j * x.length ≤ 1000000 * 1000000 := Nat.mul_le_mul (by omega) hx
  have hm' : j * x.length + x.length ≤ mat.length := by
    have : ((j * x.length : Nat) : Int) = (j : Int) * (x.length : Int) := by push_cast; rfl
    omega
  refine fun_ok hmix c_refRow (le_of rfl) ?_
  simp [F_refRow, rx.len]
  refine wp_mloop (fun fr s => ∃ k : Nat, k ≤ x.length ∧ s = st ∧ fr.df = [] ∧ fr.g 0 = vm ∧ fr.g 1 = I j ∧ fr.g 2 = vx ∧ fr.g 10 = vx ∧ fr.g 11 = I x.length ∧ fr.g 12 = I k ∧ fr.g 7 = I (dotK (mat.drop (j * x.length)) x k)) (fun fr _ => x.length - nat (fr.g 12)) ⟨0, by simp [dotK]⟩ ?_
  rintro fr s ⟨k, hk, rfl, hdf, g0, g1, g2, g10, g11, g12, g7⟩
  by_cases hlt : k < x.length
  · have hb := List.getElem?_eq_getElem hlt
    have ha := List.getElem?_eq_getElem (show j * x.length + k < mat.length by omega)
    obtain ⟨p, p1, p2⟩ := rx.el hb
    obtain ⟨q, q1, q2⟩ := rm.el ha
    have e0 : (j : Int) * (x.length : Int) = ((j * x.length : Nat) : Int) := by push_cast; rfl
    have e3 : ((j * x.length + k : Nat) : Int) = (j : Int) * (x.length : Int) + (k : Int) := by push_cast; rfl
    rw [e3] at q1
    simp [g11, g12, hlt]
    simp [g10, p1, p2, g7, g0, g1, g2, rx.len, w64 (n := (j : Int) * (x.length : Int)) (by omega) (by omega), w64 (n := (j : Int) * (x.length : Int) + (k : Int)) (by omega) (by omega), q1, q2]
    refine wrapped_v _ ?_
    simp
    refine wrapped_v _ ?_
    simp [hdf, w64 (n := (k : Int) + 1) (by omega) (by omega)]
    refine ⟨⟨k + 1, by omega, by omega, ?_⟩, by omega⟩
    simp [dotK, w32_w64, hb, ha]
  · obtain rfl : k = x.length := by omega
    simp [g11, g12, g7, hdf]
    simpa [mvM] using hK
theorem clone_v (f : Bool) (l : List Int) (h0 : l ≠ []) (hl : l.length ≤ 1000000) (hK : K (.own st.length l.length 0 l.length) (st ++ [.row 3 1 (ints l)])) : CallV Tryz.prog T M 40 [.lst f (ints l)] st K Kp := by
  have hne : ints l ≠ [] := by simpa [ints] using h0
  refine fun_ok hmix c_cloneI (le_of rfl) ?_
  simp [F_cloneI, nnil_lst hne, app_eq]
  refine ⟨fun y hy => (by obtain ⟨z, -, rfl⟩ := List.mem_map.1 hy; rfl), ⟨by omega, by omega⟩, ?_⟩
  exact hK
end
end Go.Proofs.YtadkhechobeccaaGreatDoor.Vm
namespace Go.Proofs.YtadkhechobeccaaGreatDoor.Vm
open Go.RowKit
/-- what an entry's walk needs of a model -/
structure EntS (m : LModel) (w r vo : Nat) : Prop where
  hw : m.width = (w : Int)
  w1 : 1 ≤ w ∧ w ≤ 5
  hv : m.vocab = (vo : Int)
  v1 : 2 ≤ vo ∧ vo ≤ 16
  emb : m.embed.length = vo * w
  out : m.out.length = vo * w
  pla : m.place.length = r * w
  r1 : 1 ≤ r ∧ r ≤ 16
  kind : 1 ≤ m.kind ∧ m.kind ≤ 3
  mix : m.kind = 1 → m.mix.length = 3 * w * w
  cuts : m.cuts.length = 4 ∧ ∀ x ∈ m.cuts, 1 ≤ x ∧ x ≤ 15
  re : ∀ x ∈ m.embed, -128 ≤ x ∧ x ≤ 127
  rp : ∀ x ∈ m.place, -128 ≤ x ∧ x ≤ 127
theorem GenM.entS {m : LModel} (h : GenM m) : ∃ w r vo, EntS m w r vo := by
  obtain ⟨h1, h2, h3, h4, h5, h6, ⟨⟨r, r1, r2, r3⟩, h7⟩, ⟨⟨q, q1, q2, q3, q4, q5⟩, h8⟩, h9, h10, h11⟩ := h
  obtain ⟨w, hw⟩ : ∃ w : Nat, m.width = (w : Int) := ⟨m.width.toNat, by omega⟩
  obtain ⟨vo, hv⟩ : ∃ w : Nat, m.vocab = (w : Int) := ⟨m.vocab.toNat, by omega⟩
  obtain ⟨r, rfl⟩ : ∃ k : Nat, r = (k : Int) := ⟨r.toNat, by omega⟩
  rw [hw] at h3 r3 q5
  rw [hv] at h2 h4
  refine ⟨w, r, vo, hw, by omega, hv, by omega, ?_, ?_, ?_, by omega, h1, fun c => ?_, h5, h6.2, h7⟩
  · have := h6.1; rw [hv, hw] at this; exact_mod_cast this
  · have := h9.1; rw [hv, hw] at this; exact_mod_cast this
  · exact_mod_cast r3
  · rw [q3 c] at q5; exact_mod_cast q5
theorem len_sub {l : List Int} {t w n : Nat} (h : l.length = n * w) (ht : t < n) : ((l.drop (t * w)).take w).length = w := by
  have : t * w + w ≤ n * w := by rw [← Nat.succ_mul]; exact Nat.mul_le_mul_right w ht
  simp; omega
section
variable {T : Tbl} {M : Nat → Bool} {st : St} {K : V → St → Prop} {Kp : List PanicEntry → St → Prop}
theorem row_i (f : Bool) (l : List Int) (t w n : Nat) (hl : l.length = n * w) (ht : t < n) (hn : n ≤ 1000) (hw : w ≤ 1000) (hK : ∀ g, K (.lst g (ints ((l.drop (t * w)).take w))) st) : CallV Tryz.prog T M 86 [.lst f (ints l), I t, I w] st K Kp := by
  have h1 : t * w + w ≤ n * w := by rw [← Nat.succ_mul]; exact Nat.mul_le_mul_right w ht
  have e : (t : Int) * (w : Int) = ((t * w : Nat) : Int) := by push_cast; rfl
  refine row_v f (ints l) t w (by omega) (by omega) (by rw [e]; simp; omega) (fun x hx => ?_) fun g => ?_
  · obtain ⟨z, -, rfl⟩ := List.mem_map.1 hx; rfl
  · have := hK g
    have e4 : ((t : Int) * (w : Int)).toNat = t * w := by rw [e]; rfl
    rw [e4]
    simpa [ints, List.map_drop, List.map_take] using this
end
theorem rowsM_r {n w r : Nat} (hw : 1 ≤ w) (h : n = r * w) : rowsM n w = r := by
  subst h
  unfold rowsM
  rw [if_pos (Nat.mul_mod_left _ _), Nat.mul_div_cancel _ (by omega)]
section
variable {T : Tbl} {M : Nat → Bool} {st : St} {K : V → St → Prop} {Kp : List PanicEntry → St → Prop}
theorem ints_get' {l : List Int} {k : Nat} {x : Int} (h : l[k]? = some x) (hk : k < (ints l).length) : (ints l)[k] = I x := by
  have := ints_get h
  rw [List.getElem?_eq_getElem hk] at this
  exact Option.some.inj this
theorem ints_set (l : List Int) (k : Nat) (x : Int) : (ints l).set k (I x) = ints (l.set k x) := by simp [ints, List.map_set]
/-- what was there still is as it was -/
structure Keep0 (s0 s : St) : Prop where
  len : s0.length ≤ s.length
  get : ∀ b, b < s0.length → s[b]? = s0[b]?
theorem Keep0.refl (s : St) : Keep0 s s := ⟨Nat.le_refl _, fun _ _ => rfl⟩
theorem Keep0.at_ {s0 s : St} (h : Keep0 s0 s) {b : Nat} {x : Blk} (hx : s0[b]? = some x) : s[b]? = some x := (h.get b (List.getElem?_eq_some_iff.1 hx).1).trans hx
theorem Keep0.more {s0 s : St} (h : Keep0 s0 s) (e : St) : Keep0 s0 (s ++ e) := ⟨by have := h.len; simp; omega, fun b hb => by rw [List.getElem?_append_left (Nat.lt_of_lt_of_le hb h.len)]; exact h.get b hb⟩
theorem Keep0.trans {s0 s s1 : St} (h : Keep0 s0 s) (hl : s.length ≤ s1.length) (hg : ∀ b, b < s0.length → s1[b]? = s[b]?) : Keep0 s0 s1 := ⟨Nat.le_trans h.len hl, fun b hb => (hg b hb).trans (h.get b hb)⟩
theorem Keep0.rd {s0 s : St} (h : Keep0 s0 s) {v : V} {l : List Int} (hr : Rd s0 v l) : Rd s v l := by
  rcases hr with h1 | ⟨b, t, h1, h2⟩
  · exact Or.inl h1
  · exact Or.inr ⟨b, t, h1, h.at_ h2⟩
theorem Keep0.low {st e s : St} (h : Keep0 (st ++ e) s) : LowSt st s := fun b hb => Or.inl (by rw [h.get b (by simp; omega), List.getElem?_append_left hb])
theorem Keep0.take {st e s : St} (h : Keep0 (st ++ e) s) : s.take st.length = st := by
  apply List.ext_getElem?
  intro i
  by_cases hi : i < st.length
  · rw [List.getElem?_take_of_lt hi, h.get i (by simp; omega), List.getElem?_append_left hi]
  · rw [List.getElem?_eq_none (by simp; omega), List.getElem?_eq_none (by omega)]
/-- one more element -/
theorem app_one {M2 : Nat → Nat → Bool} {s0 s : St} {v : V} {l : List Int} {x : Int} {k2 : V → St → Prop} (h : OutS s0.length 3 1 s v (ints l)) (hk : Keep0 s0 s) (hM : ∀ b ∈ ownL v, ∀ j, M2 b j = true) (hl : l.length ≤ 1000000)
    (hK : ∀ v' s', OutS s0.length 3 1 s' v' (ints (l ++ [x])) → Keep0 s0 s' → k2 v' s') : obind2 (mApp M2 3 1 8 (s ++ [.row 3 1 [I x]]) v (.own s.length 1 0 1)) k2 := by
  refine app_out (h.more _) (by have := hk.len; simp; omega) (news := [I x]) (by simp) (by simp) (Or.inl (by simp)) (fun b L _ e j => hM b (by rw [e]; simp [ownL]) j) (by simp; omega) (by simp; omega) fun v' s' o hl' hb' _ _ => ?_
  exact hK v' s' (by rw [ints_append]; exact o) ((hk.more _).trans hl' hb')
theorem OutS.down {n n' t k : Nat} {s : St} {v : V} {l : List V} (h : OutS n t k s v l) (hn : n' ≤ n) : OutS n' t k s v l := by
  rcases h with h | ⟨b, h1, h2, h3⟩
  · exact Or.inl h
  · exact Or.inr ⟨b, Nat.le_trans hn h1, h2, h3⟩
theorem rd_own {n t k b : Nat} {s : St} {v : V} {l : List V} (ho : OutS n t k s v l) (hb : b < n) (j : Nat) : rdW (ownL v) [] b j = true := by
  have : b ∉ ownL v := fun h => by have := (ho.lt b h).1; omega
  simp [rdW, this]
theorem own_up {n n0 t k : Nat} {s : St} {v : V} {l : List V} (ho : OutS n t k s v l) (hn : n0 ≤ n) (m : Nat) (M : Nat → Bool) : ∀ b ∈ ownL v, ∀ j, inW m (ownL v) [] (liftM (upM n0 M)) b j = true := fun b hb j => inW_mem (by have := (ho.lt b hb).1; simp [upM]; omega) hb j
theorem mv_eq {mix X : List Int} {w i o : Nat} (hm : i * (w * w) + o * w + w ≤ mix.length) (ho : o < w) : dotK ((((mix.drop (i * (w * w))).take (w * w)).drop (o * w)).take w) X ((((mix.drop (i * (w * w))).take (w * w)).drop (o * w)).take w).length = mvM mix w X (i * w + o) := by
  have h1 : o * w + w ≤ w * w := by rw [← Nat.succ_mul]; exact Nat.mul_le_mul_right w ho
  have hlen : ((((mix.drop (i * (w * w))).take (w * w)).drop (o * w)).take w).length = w := by simp; omega
  rw [hlen]
  unfold mvM
  have e : (i * w + o) * w = i * (w * w) + o * w := by rw [Nat.add_mul, Nat.mul_assoc]
  refine dotK_congr fun j hj => ?_
  rw [List.getElem?_take_of_lt hj, List.getElem?_drop, List.getElem?_take_of_lt (by omega), List.getElem?_drop, List.getElem?_drop, e]
  congr 1
  omega
theorem matrix_v {m : LModel} {w : Nat} {fl : Nat → Bool} {x : V} (hx : encM fl m = x) (hw : m.width = (w : Int)) (w2 : w ≤ 5) (i n : Nat) (hi : i < n) (hn : n ≤ 100) (hm : m.mix.length = n * (w * w)) (hK : ∀ g, K (.lst g (ints ((m.mix.drop (i * (w * w))).take (w * w)))) st) : CallV Tryz.prog T M 91 [x, I i] st K Kp := by
  subst hx
  refine CallV.give (fun_ok hmix c_matrix (le_of rfl) ?_)
  have e : (w : Int) * (w : Int) = ((w * w : Nat) : Int) := by push_cast; rfl
  have h25 := Nat.mul_le_mul w2 w2
  have hi64 : IntKind.i64.wrap ((w : Int) * (w : Int)) = ((w * w : Nat) : Int) := by rw [e, w64 (by omega) (by omega)]
  simp only [F_matrix, encM, hw]
  simp [hi64, -Int.natCast_mul]
  refine row_i _ _ i (w * w) n hm hi (by omega) (by omega) fun g => ?_
  simp
  exact ⟨_, .same _ rfl, Keep0.low (Keep0.refl _), hK g⟩
end
end Go.Proofs.YtadkhechobeccaaGreatDoor.Vm
namespace Go.Proofs.YtadkhechobeccaaGreatDoor.Vm
open Go.RowKit
theorem ints_one (l : List Int) : ∀ x ∈ ints l, x.cells.length = 1 := fun x hx => by obtain ⟨z, -, rfl⟩ := List.mem_map.1 hx; rfl
theorem mv_eq2 {mix X : List Int} {w i o A B : Nat} (hA : A = i * (w * w)) (hB : B = A + w * w) (ho : o < w) (hX : X.length = w) : mvM ((mix.drop A).take (B - A)) X.length X o = mvM mix w X (i * w + o) := by
  have h1 : o * w + w ≤ w * w := by rw [← Nat.succ_mul]; exact Nat.mul_le_mul_right w ho
  unfold mvM
  have e : (i * w + o) * w = i * (w * w) + o * w := by rw [Nat.add_mul, Nat.mul_assoc]
  rw [hX]
  refine dotK_congr fun j hj => ?_
  rw [List.getElem?_drop, List.getElem?_take_of_lt (by omega), List.getElem?_drop, List.getElem?_drop, e, hA]
  congr 1
  omega
theorem win_sub {mix : List Int} {a b : Nat} : (List.drop a (ints mix)).take b = ints ((mix.drop a).take b) := by simp [ints, List.map_drop, List.map_take]
section
variable {T : Tbl} {M : Nat → Bool} {st : St} {K : V → St → Prop} {Kp : List PanicEntry → St → Prop}
set_option maxRecDepth 10000 in
theorem refEntry_v {m : LModel} {w r vo : Nat} (fl : Nat → Bool) (e : EntS m w r vo) (t a : Nat) (ht : t < vo) (ha : a ≤ 1000) (hK : ∀ g, K (.lst g (ints (entM m w t (a % r)))) st) : CallV Tryz.prog T M 60 [encM fl m, I t, I a] st K Kp := by
  obtain ⟨hw, ⟨w1, w2⟩, hv, ⟨v1, v2⟩, emb, out, pla, ⟨r1, r2⟩, ⟨k1, k2⟩, mix, ⟨cl, hc⟩, re, rp⟩ := e
  have hr0 : (r : Int) ≠ 0 := by omega
  have hr1 : (a : Int).tmod r = ((a % r : Nat) : Int) := by rw [Int.tmod_eq_emod_of_nonneg (by omega)]; rfl
  have hr2 : a % r < r := Nat.mod_lt _ (by omega)
  have hd : (m.place.length : Int).tdiv w = r := by
    rw [pla, Int.tdiv_eq_ediv_of_nonneg (by omega)]
    push_cast
    exact Int.mul_ediv_cancel _ (by omega)
  generalize a % r = p at *
  refine CallV.give (fun_ok hmix c_refEntry (le_of rfl) ?_)
  simp [F_refEntry, encM, hw, hd, hr1, w64 (n := (r : Int)) (by omega) (by omega), show w ≠ 0 by omega, show r ≠ 0 by omega]
  have hMB : Blk.row 27 11 [V.agg [I m.kind, I m.vocab, I (w : Int), I m.top, .lst (fl 0) (ints m.cuts), .lst (fl 1) (ints m.embed), .lst (fl 2) (ints m.place), .lst (fl 3) (ints m.mix), .lst (fl 4) (ints m.out), .lst (fl 5) (ints m.soft), .lst (fl 6) (ints m.odds)]] = mdl m.kind m.vocab w m.top (fun i => .lst (fl i) (ints (mls m i))) := rfl
  rw [hMB]
  have tw : t * w + w ≤ vo * w := by rw [← Nat.succ_mul]; exact Nat.mul_le_mul_right w ht
  have pw_ : p * w + w ≤ r * w := by rw [← Nat.succ_mul]; exact Nat.mul_le_mul_right w hr2
  have bw1 : vo * w ≤ 16 * 5 := Nat.mul_le_mul v2 w2
  have bw2 : r * w ≤ 16 * 5 := Nat.mul_le_mul r2 w2
  have nE : ∀ k, k < w → -128 ≤ gI m.embed (t * w + k) ∧ gI m.embed (t * w + k) ≤ 127 := fun k hk => gI_mem re (by omega)
  have nP : ∀ k, k < w → -128 ≤ gI m.place (p * w + k) ∧ gI m.place (p * w + k) ≤ 127 := fun k hk => gI_mem rp (by omega)
  have ct : (t : Int) * (w : Int) = ((t * w : Nat) : Int) := by push_cast; rfl
  have cp : (p : Int) * (w : Int) = ((p * w : Nat) : Int) := by push_cast; rfl
  generalize hS0 : st ++ [mdl m.kind m.vocab w m.top (fun i => .lst (fl i) (ints (mls m i)))] = s0
  have hMb : s0[st.length]? = some (mdl m.kind m.vocab w m.top (fun i => .lst (fl i) (ints (mls m i)))) := by rw [← hS0]; simp
  have hs0l : s0.length = st.length + 1 := by rw [← hS0]; simp
  let F := fun k => gI m.embed (t * w + k) + gI m.place (p * w + k)
  refine wp_mloop (fun fr s => ∃ k : Nat, k ≤ w ∧ Keep0 s0 s ∧ OutS s0.length 3 1 s (fr.g 9) (ints (mapR k F)) ∧ fr.df = [] ∧ fr.g 1 = I t ∧ fr.g 3 = .ptr st.length 1 0 0 ∧ fr.g 7 = I w ∧ fr.g 8 = I p ∧ fr.g 23 = I w ∧ fr.g 24 = I k ∧ fr.g 10 = .lst true []) (fun fr _ => w - nat (fr.g 24))
    ⟨0, by omega, Keep0.refl _, by simpa [mapR, ints] using OutS.nil _ _ _ _, by simp, by simp, by simp, by simp, by simp, by simp, by simp, by simp⟩ ?_
  rintro fr s ⟨k, hk, hkp, ho, hdf, h1, h3, h7, h8, h23, h24, h10⟩
  by_cases hlt : k < w
  · have hMb' := hkp.at_ hMb
    simp only [mdl] at hMb'
    have hrd := fun j => rd_own ho (b := st.length) (by omega) j
    have hx := ints_get (l := mls m 1) (k := t * w + k) (x := gI m.embed (t * w + k)) (by show m.embed[_]? = _; rw [gI, List.getElem?_eq_getElem (by omega)]; rfl)
    have hy := ints_get (l := mls m 2) (k := p * w + k) (x := gI m.place (p * w + k)) (by show m.place[_]? = _; rw [gI, List.getElem?_eq_getElem (by omega)]; rfl)
    have n1 := nE k hlt
    have n2 := nP k hlt
    have e1 : ((t : Int) * (w : Int) + (k : Int)).toNat = t * w + k := by omega
    have e2 : ((p : Int) * (w : Int) + (k : Int)).toNat = p * w + k := by omega
    simp [h23, h24, hlt]
    refine wp_mflat (ownL (fr.g 9)) [] ?_
    simp [h1, h3, h7, h8, h24, hMb', hrd, w64 (n := (t : Int) * (w : Int)) (by omega) (by omega), w64 (n := (p : Int) * (w : Int)) (by omega) (by omega), w64 (n := (t : Int) * (w : Int) + (k : Int)) (by omega) (by omega), w64 (n := (p : Int) * (w : Int) + (k : Int)) (by omega) (by omega), show 0 ≤ (t : Int) * (w : Int) + (k : Int) by omega, show 0 ≤ (p : Int) * (w : Int) + (k : Int) by omega, e1, e2, hx, hy, w64 (n := gI m.embed (t * w + k) + gI m.place (p * w + k)) (by omega) (by omega)]
    refine app_one ho hkp (own_up ho (by omega) _ _) (by simp; omega) fun v' s' ho' hk' => ?_
    have hw1 : IntKind.i64.wrap ((k : Int) + 1) = ((k + 1 : Nat) : Int) := by rw [w64 (n := (k : Int) + 1) (by omega) (by omega)]; push_cast; rfl
    simp only [hw1]
    refine ⟨⟨k + 1, by omega, hk', by rw [mapR_succ]; exact ho', hdf, h23, rfl, h10⟩, by simp; omega⟩
  · obtain rfl : k = w := by omega
    have hMb' := hkp.at_ hMb
    simp only [mdl] at hMb'
    have hX : mapR k F = xM m k t p := rfl
    have hXl : (xM m k t p).length = k := mapR_len _ _
    rw [hX] at ho
    rw [← hS0] at hkp
    simp [h23, h24, h3, hMb']
    by_cases hk1 : m.kind = 1
    · have hmx := mix hk1
      have hmx2 : m.mix.length = 3 * (k * k) := by rw [hmx, Nat.mul_assoc]
      have hb1 : (m.kind != 1) = false := by simpa using hk1
      simp [hb1]
      let G := fun j => shM (mvM m.mix k (xM m k t p) j) (gI m.cuts 0)
      have hc0 : ∃ c0 l2, m.cuts = c0 :: l2 := by
        match hcc : m.cuts, cl with
        | c0 :: l2, _ => exact ⟨c0, l2, rfl⟩
      obtain ⟨c0, l2, hc0⟩ := hc0
      have hg0 : gI m.cuts 0 = c0 := by rw [hc0]; rfl
      have hc1 := hc c0 (by rw [hc0]; simp)
      have hk0 := hkp
      have hrx := Rd.of_out ho
      clear hkp ho
      generalize hv9 : fr.g 9 = v9 at *
      have hsl : st.length + 1 ≤ s.length := by have := hk0.len; simp at this; omega
      have hMs := hMb'
      clear hMb'
      refine wp_mloop (fun fr s2 => ∃ i : Nat, i ≤ 3 ∧ Keep0 s s2 ∧ OutS s.length 3 1 s2 (fr.g 10) (ints (mapR (i * k) G)) ∧ fr.df = [] ∧ fr.g 3 = .ptr st.length 1 0 0 ∧ fr.g 7 = I k ∧ fr.g 9 = v9 ∧ fr.g 54 = I i) (fun fr _ => 3 - nat (fr.g 54))
        ⟨0, by omega, Keep0.refl _, by simpa [mapR, ints, h10] using OutS.nil _ _ _ _, by simp [hdf], by simp [h3], by simp [h7], by simp [hv9], by simp⟩ ?_
      rintro fr s2 ⟨i, hi, hkp, ho, zdf, z3, z7, z9, z54⟩
      by_cases hi3 : i < 3
      · simp [z54, show (i : Int) < 3 by omega, z7]
        refine wp_mloop (fun fr s2 => ∃ o : Nat, o ≤ k ∧ Keep0 s s2 ∧ OutS s.length 3 1 s2 (fr.g 10) (ints (mapR (i * k + o) G)) ∧ fr.df = [] ∧ fr.g 3 = .ptr st.length 1 0 0 ∧ fr.g 7 = I k ∧ fr.g 9 = v9 ∧ fr.g 54 = I i ∧ fr.g 12 = I i ∧ fr.g 57 = I k ∧ fr.g 58 = I o) (fun fr _ => k - nat (fr.g 58))
          ⟨0, by omega, hkp, by simpa using ho, by simp [zdf], by simp [z3], by simp [z7], by simp [z9], by simp [z54], by simp, by simp, by simp⟩ ?_
        rintro fr s2 ⟨o, hok, hkp, ho, zdf, z3, z7, z9, z54, z12, z57, z58⟩
        by_cases hok2 : o < k
        · have hMb' := hkp.at_ hMs
          have hrd := fun j => rd_own ho (b := st.length) (by omega) j
          have hcu : (ints (mls m 0))[0]? = some (I c0) := by show (ints m.cuts)[0]? = _; rw [hc0]; rfl
          have q25 : k * k ≤ 5 * 5 := Nat.mul_le_mul w2 w2
          have q1 : i * (k * k) + k * k ≤ 3 * (k * k) := by rw [← Nat.succ_mul]; exact Nat.mul_le_mul_right _ hi3
          have q5 : i * k ≤ 3 * 5 := Nat.mul_le_mul hi w2
          have q6 : (i + 1) * k ≤ 3 * 5 := Nat.mul_le_mul hi3 w2
          have q2 : (i : Int) * (k : Int) * (k : Int) = ((i * (k * k) : Nat) : Int) := by push_cast; rw [Int.mul_assoc]
          have q3 : ((i : Int) + 1) * (k : Int) * (k : Int) = (((i + 1) * (k * k) : Nat) : Int) := by push_cast; rw [Int.mul_assoc]
          have q7 : (i : Int) * (k : Int) = ((i * k : Nat) : Int) := by push_cast; rfl
          have q8 : ((i : Int) + 1) * (k : Int) = (((i + 1) * k : Nat) : Int) := by push_cast; rfl
          have q4 : (i + 1) * (k * k) = i * (k * k) + k * k := Nat.succ_mul _ _
          obtain ⟨A, hA⟩ : ∃ A, A = i * (k * k) := ⟨_, rfl⟩
          obtain ⟨B, hB⟩ : ∃ B, B = (i + 1) * (k * k) := ⟨_, rfl⟩
          have hBA : B = A + k * k := by rw [hB, hA]; exact Nat.succ_mul _ _
          have u1 : IntKind.i64.wrap (IntKind.i64.wrap ((i : Int) * k) * k) = (A : Int) := by rw [w64 (n := (i : Int) * k) (by omega) (by omega), w64 (by omega) (by omega), q2, hA]
          have u2 : IntKind.i64.wrap (IntKind.i64.wrap (IntKind.i64.wrap ((i : Int) + 1) * k) * k) = (B : Int) := by rw [w64 (n := (i : Int) + 1) (by omega) (by omega), w64 (n := ((i : Int) + 1) * k) (by omega) (by omega), w64 (by omega) (by omega), q3, hB]
          have hml : (mls m 3).length = 3 * (k * k) := hmx2
          have hso : o * k + k ≤ k * k := by rw [← Nat.succ_mul]; exact Nat.mul_le_mul_right k hok2
          simp [z57, z58, hok2]
          refine wp_mflat (ownL (fr.g 10)) [] ?_
          simp [z3, z7, z9, z12, z58, hMb', hcu, hrd, u1, u2, win_sub, show A ≤ B by omega]
          refine ⟨⟨by omega, ints_one _⟩, ?_⟩
          refine refRow_r _ _ o (Rd.lst _ _ _) (hkp.rd hrx) (by omega) (by omega) (by rw [hXl]; simp; omega) ?_
          have hdr := dotK_rng (m.mix.drop ((i * k + o) * k)) (xM m k t p) k
          have hme : mvM (List.take (B - A) (List.drop A (mls m 3))) (xM m k t p).length (xM m k t p) (o : Int).toNat = mvM m.mix k (xM m k t p) (i * k + o) := mv_eq2 hA hBA hok2 hXl
          rw [hme]
          refine refShift_v _ _ hc1 (by unfold mvM; omega) ?_
          simp
          refine app_one ho hkp (own_up ho (by omega) _ _) (by simp; omega) fun v' s' ho' hk' => ?_
          have hw1 : IntKind.i64.wrap ((o : Int) + 1) = ((o + 1 : Nat) : Int) := by rw [w64 (n := (o : Int) + 1) (by omega) (by omega)]; push_cast; rfl
          simp only [hw1]
          refine ⟨⟨o + 1, by omega, hk', ?_, zdf, z54, z57, rfl⟩, by simp; omega⟩
          have : mapR (i * k + (o + 1)) G = mapR (i * k + o) G ++ [shM (mvM m.mix k (xM m k t p) (i * k + o)) c0] := by rw [← Nat.add_assoc, mapR_succ, ← hg0]
          rw [this]
          exact ho'
        · obtain rfl : o = k := by omega
          simp [z57, z58]
          have hw1 : IntKind.i64.wrap ((i : Int) + 1) = ((i + 1 : Nat) : Int) := by rw [w64 (n := (i : Int) + 1) (by omega) (by omega)]; push_cast; rfl
          simp [z54, hw1]
          exact ⟨⟨i + 1, by omega, hkp, by rw [Nat.succ_mul]; exact ho, zdf, z3, z7, z9, by push_cast; rfl⟩, by omega⟩
      · obtain rfl : i = 3 := by omega
        simp [z54, zdf]
        obtain ⟨gg, hfr⟩ := (ho.down (show st.length ≤ s.length by omega)).frz (ints_cells _)
        have hent : entM m k t p = mapR (3 * k) G := if_pos hk1
        have := hK gg
        rw [hent] at this
        have hkk : Keep0 (st ++ [mdl m.kind m.vocab k m.top (fun i => .lst (fl i) (ints (mls m i)))]) s2 := hk0.trans hkp.len fun b hb => hkp.get b (Nat.lt_of_lt_of_le hb hk0.len)
        exact ⟨_, hfr, hkk.low, by rw [hkk.take]; exact this⟩
    · have hb1 : (m.kind != 1) = true := by simpa using hk1
      have hent : entM m k t p = xM m k t p := if_neg hk1
      obtain ⟨gg, hfr⟩ := (ho.down (show st.length ≤ s0.length by omega)).frz (ints_cells _)
      have := hK gg
      rw [hent] at this
      simp [hb1, hdf]
      exact ⟨_, hfr, hkp.low, by rw [hkp.take]; exact this⟩
end
end Go.Proofs.YtadkhechobeccaaGreatDoor.Vm
