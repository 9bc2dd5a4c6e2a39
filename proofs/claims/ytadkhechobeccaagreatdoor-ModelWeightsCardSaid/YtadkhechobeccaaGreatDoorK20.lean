/-
  Stream.Model, run by the value machine.
  Entries of a model, in plain terms and run by the value machine.
  Scores of a model, in plain terms and run by the value machine: the program and the reference.
  slices.IndexFunc, slices.ContainsFunc at ints; models.all: run by the value machine.
  The order of scores, in plain terms: greater scores first, of equal ones the lower number.
  A sorted row of numbers is the rank; an insertion sort that compares scores alone is stable.
  Weights and draws, in plain terms.
  A drawn model is valid.
  A slice of ints that came in, read as a list.
-/
import Derived.Test.YtadkhechobeccaaGreatDoorK15
import Derived.Test.YtadkhechobeccaaGreatDoorK16
import Derived.Test.YtadkhechobeccaaGreatDoorK18
import Derived.Shelf.SlSortCmp.Insertion
import Derived.Sort.LotA
import Derived.Sort.WalkA
import Derived.Test.YtadkhechobeccaaGreatDoorK19
import Derived.Test.YtadkhechobeccaaGreatDoorK01
import Derived.OpenShut
import Derived.Carry
import Derived.ProofKit
namespace Go.Proofs.YtadkhechobeccaaGreatDoor.Vm
open Go.RowKit
/-- a model's block -/
def mdl (K V D T : Int) (c : Nat → Vm.V) : Blk := .row 27 11 [.agg [I K, I V, I D, I T, c 0, c 1, c 2, c 3, c 4, c 5, c 6]]
def nils : Nat → V := fun _ => .lst true []
def upd1 (c : Nat → V) (i : Nat) (v : V) : Nat → V := fun j => if j = i then v else c j
@[simp] theorem upd1_eq (c : Nat → V) (i : Nat) (v : V) (j : Nat) : upd1 c i v j = if j = i then v else c j := nr rfl
def encM (fl : Nat → Bool) (m : LModel) : V := .agg [I m.kind, I m.vocab, I m.width, I m.top, .lst (fl 0) (ints m.cuts), .lst (fl 1) (ints m.embed), .lst (fl 2) (ints m.place), .lst (fl 3) (ints m.mix), .lst (fl 4) (ints m.out), .lst (fl 5) (ints m.soft), .lst (fl 6) (ints m.odds)]
/-- the model of which part is drawn -/
structure GmS (st : St) (s0 : Nat) (f : Bool) (xs : List Int) (a b : Int) (mb : Nat) (fr : Fr) (s : St) (K V D T : Int) (c : Nat → Vm.V) : Prop where
  gs : ∃ a', a ≤ a' ∧ a' ≤ b ∧ GS st.length s0 st s f xs a'
  rb : s[st.length]? = some (mdl 0 0 0 0 nils)
  md : s[mb]? = some (mdl K V D T c)
  hmb : st.length < mb
  g0 : fr.g 0 = .ptr s0 1 0 0
  g2 : fr.g 2 = .ptr st.length 1 0 0
  g3 : fr.g 3 = .ptr mb 1 0 0
  df : fr.df = []
def GQ (st : St) (K : V → St → Prop) (Kp : List PanicEntry → St → Prop) : Post := Fin F_gmodel.res (fun v st' => ∃ v', Frz st.length st' v v' ∧ LowSt st st' ∧ K v' (st'.take st.length)) (fun c st' => LowSt st st' ∧ Kp c (st'.take st.length))
def GK (st : St) (s0 : Nat) (f : Bool) (xs : List Int) (a : Int) (K : V → St → Prop) : Prop := ∀ (fl : Nat → Bool) m a', GenM m → a ≤ a' → a' ≤ a + 10000 → K (encM fl m) (st.set s0 (strm f xs a'))
section
variable {st s : St} {s0 mb : Nat} {fr : Fr} {f : Bool} {xs : List Int} {a b : Int} {T : Tbl} {M : Nat → Bool} {K : V → St → Prop} {Kp : List PanicEntry → St → Prop} {Kd Vo Wd Tp : Int} {c : Nat → V}
theorem GmS.lt (h : GmS st s0 f xs a b mb fr s Kd Vo Wd Tp c) : s0 < st.length := by obtain ⟨a', -, -, g⟩ := h.gs; exact g.hsb
theorem GmS.up (h : GmS st s0 f xs a b mb fr s Kd Vo Wd Tp c) (M : Nat → Bool) : upM st.length M mb = true := by have := h.hmb; simp [upM]; omega
set_option maxRecDepth 10000 in
theorem gm_end (hK : GK st s0 f xs a K) (_hM : M s0 = true) (h : GmS st s0 f xs a (a + 10000) mb fr s Kd Vo Wd Tp c) {l : Nat → List Int} (h0 : OutS st.length 3 1 s (c 0) (ints (l 0))) (h5 : OutS st.length 3 1 s (c 5) (ints (l 5))) (h6 : OutS st.length 3 1 s (c 6) (ints (l 6)))
    {fl : Nat → Bool} (h1 : c 1 = .lst (fl 1) (ints (l 1))) (h2 : c 2 = .lst (fl 2) (ints (l 2))) (h3 : c 3 = .lst (fl 3) (ints (l 3))) (h4 : c 4 = .lst (fl 4) (ints (l 4))) (hg : GenM ⟨Kd, Vo, Wd, Tp, l 0, l 1, l 2, l 3, l 4, l 5, l 6⟩) :
    wpM Tryz.prog T (liftM (upM st.length M)) F_gmodel.code.r.r.r.r.r.r.r.r.r.r.r.r (GQ st K Kp) fr s := by
  obtain ⟨a', e1, e2, g⟩ := h.gs
  have md := h.md
  have rb := h.rb
  have rb2 : ∀ x, (s.set st.length x)[st.length]? = some x := fun x => get_set rb x
  have lf : ∀ {v : V} {l : List V}, OutS st.length 3 1 s v l → v.leaf = true := fun {v l} ho => by
    rcases ho with ⟨-, rfl⟩ | ⟨_, -, -, rfl⟩ <;> rfl
  simp [F_gmodel, MC.r, GQ, h.g2, h.g3, md, rb, mdl, nils, lf h0, lf h5, lf h6, h1, h2, h3, h4, rb2, h.df]
  generalize Blk.row 27 11 _ = xb
  have g' := g.set (Nat.le_refl st.length) xb
  obtain ⟨f0, z0⟩ := (h0.apart rb (by decide) xb).frz (ints_cells _)
  obtain ⟨f5, z5⟩ := (h5.apart rb (by decide) xb).frz (ints_cells _)
  obtain ⟨f6, z6⟩ := (h6.apart rb (by decide) xb).frz (ints_cells _)
  have hlow := g'.same.low g'.str (by simp [V.low])
  have hk := hK (fun i => if i = 0 then f0 else if i = 5 then f5 else if i = 6 then f6 else fl i) _ a' hg e1 e2
  refine ⟨_, .agg _ [I Kd, I Vo, I Wd, I Tp, .lst f0 (ints (l 0)), .lst (fl 1) (ints (l 1)), .lst (fl 2) (ints (l 2)), .lst (fl 3) (ints (l 3)), .lst (fl 4) (ints (l 4)), .lst f5 (ints (l 5)), .lst f6 (ints (l 6))] rfl fun i x y hx hy => ?_, hlow, ?_⟩
  · match i with
    | 0 => simp at hx hy; subst hx hy; exact .same _ rfl
    | 1 => simp at hx hy; subst hx hy; exact .same _ rfl
    | 2 => simp at hx hy; subst hx hy; exact .same _ rfl
    | 3 => simp at hx hy; subst hx hy; exact .same _ rfl
    | 4 => simp at hx hy; subst hx hy; exact z0
    | 5 => simp at hx hy; subst hx hy; exact .same _ rfl
    | 6 => simp at hx hy; subst hx hy; exact .same _ rfl
    | 7 => simp at hx hy; subst hx hy; exact .same _ rfl
    | 8 => simp at hx hy; subst hx hy; exact .same _ rfl
    | 9 => simp at hx hy; subst hx hy; exact z5
    | 10 => simp at hx hy; subst hx hy; exact z6
    | i + 11 => simp at hx
  · rw [g'.same.take g'.str]
    exact hk
/-- three of the model's slices grow -/
structure GmO (n : Nat) (s : St) (c : Nat → V) (l : Nat → List Int) : Prop where
  o : ∀ i, i = 0 ∨ i = 5 ∨ i = 6 → OutS n 3 1 s (c i) (ints (l i))
  d : ∀ i j, i ≠ j → (i = 0 ∨ i = 5 ∨ i = 6) → (j = 0 ∨ j = 5 ∨ j = 6) → ∀ b ∈ ownL (c i), b ∉ ownL (c j)
theorem GmO.but {n sb : Nat} {s s' : St} {c : Nat → V} {l : Nat → List Int} (h : GmO n s c l) (hb : But sb s s') (hn : sb < n) : GmO n s' c l := ⟨fun i hi => (h.o i hi).but hb hn, h.d⟩
theorem GmO.more {n : Nat} {s : St} {c : Nat → V} {l : Nat → List Int} (h : GmO n s c l) (e : St) : GmO n (s ++ e) c l := ⟨fun i hi => (h.o i hi).more e, h.d⟩
theorem GmO.apart {n : Nat} {s : St} {c : Nat → V} {l : Nat → List Int} (h : GmO n s c l) {m t2 k2 : Nat} {ys : List V} (hc : s[m]? = some (.row t2 k2 ys)) (hk : k2 ≠ 1) (x : Blk) : GmO n (s.set m x) c l := ⟨fun i hi => (h.o i hi).apart hc hk x, h.d⟩
/-- one of them has grown -/
theorem GmO.grow {n : Nat} {s s' : St} {c : Nat → V} {l : Nat → List Int} (h : GmO n s c l) {i : Nat} (hi : i = 0 ∨ i = 5 ∨ i = 6) {v : V} {m : List Int} (ho : OutS n 3 1 s' v (ints m)) (h1 : ∀ b, b < s.length → b ∉ ownL (c i) → s'[b]? = s[b]?) (h2 : ∀ b, b ∈ ownL v → b ∈ ownL (c i) ∨ s.length ≤ b) :
    GmO n s' (upd1 c i v) (fun j => if j = i then m else l j) := by
  refine ⟨fun j hj => ?_, fun j k hjk hj hk b hb1 hb2 => ?_⟩
  · by_cases hji : j = i
    · subst hji; simpa using ho
    · simp only [upd1_eq, if_neg hji]
      exact (h.o j hj).keep2 fun b hb => h1 b ((h.o j hj).lt b hb).2 (h.d j i hji hj hi b hb)
  · simp only [upd1_eq] at hb1 hb2
    by_cases hji : j = i
    · subst hji
      rw [if_pos rfl] at hb1
      rw [if_neg (Ne.symm hjk)] at hb2
      rcases h2 b hb1 with e | e
      · exact h.d j k hjk hj hk b e hb2
      · have := ((h.o k hk).lt b hb2).2; omega
    · rw [if_neg hji] at hb1
      by_cases hki : k = i
      · subst hki
        rw [if_pos rfl] at hb2
        rcases h2 b hb2 with e | e
        · exact h.d j k hjk hj hk b hb1 e
        · have := ((h.o j hj).lt b hb1).2; omega
      · rw [if_neg hki] at hb2
        exact h.d j k hjk hj hk b hb1 hb2
theorem upd1_id (c : Nat → V) (i : Nat) : upd1 c i (c i) = c := funext fun j => by by_cases h : j = i <;> simp [h]
theorem GmO.id {n : Nat} {s : St} {c : Nat → V} {l : Nat → List Int} (h : GmO n s c l) (i : Nat) : GmO n s (upd1 c i (c i)) (fun j => if j = i then l i else l j) := by
  rw [upd1_id, show (fun j => if j = i then l i else l j) = l from funext fun j => by by_cases hj : j = i <;> simp [hj]]
  exact h
theorem GmS.step (h : GmS st s0 f xs a b mb fr s Kd Vo Wd Tp c) {s' : St} {b' a' : Int} (g : GS st.length s0 st s' f xs a') (h1 : a ≤ a') (h2 : a' ≤ b') (hr : s'[st.length]? = some (mdl 0 0 0 0 nils)) {Kd' Vo' Wd' Tp' : Int} {c' : Nat → V} (hm : s'[mb]? = some (mdl Kd' Vo' Wd' Tp' c')) {fr' : Fr} (e0 : fr'.g 0 = fr.g 0) (e2 : fr'.g 2 = fr.g 2) (e3 : fr'.g 3 = fr.g 3) (ed : fr'.df = fr.df) :
    GmS st s0 f xs a b' mb fr' s' Kd' Vo' Wd' Tp' c' := ⟨⟨a', h1, h2, g⟩, hr, hm, h.hmb, e0.trans h.g0, e2.trans h.g2, e3.trans h.g3, ed.trans h.df⟩
theorem rd_ne {s0 m : Nat} {v : V} (h1 : m ≠ s0) (h2 : m ∉ ownL v) (j : Nat) : rdW (s0 :: ownL v) [] m j = true := by simp [rdW, h1, h2]
theorem inW_hd {n s0 : Nat} {W : List Nat} {X : List (Nat × Nat)} {M : Nat → Bool} (h : M s0 = true) : callM (inW n (s0 :: W) X (liftM M)) s0 = true := by simp [callM, inW, h]
theorem inW_mem {n m : Nat} {W : List Nat} {X : List (Nat × Nat)} {M : Nat → Bool} (h : M m = true) (hw : m ∈ W) (j : Nat) : inW n W X (liftM M) m j = true := by simp [inW, h, hw]
/-- a round of the loop that makes list 0 -/
def LInv_cuts (st : St) (s0 mb : Nat) (f : Bool) (xs : List Int) (a b : Int) (c0 : Nat → V) (l0 : Nat → List Int) (Kd Vo Wd Tp : Int) (N : Nat) (w4 : V) (fr : Fr) (s : St) : Prop :=
  ∃ (k : Nat) (v : V) (l : List Int), k ≤ N ∧ l.length = (l0 0).length + k ∧ (∀ x ∈ l, x ∈ l0 0 ∨ x ∈ ([1, 1, 2, 3, 5, 8, 15] : List Int)) ∧ (∀ x, (l0 0)[0]? = some x → l[0]? = some x) ∧ GmS st s0 f xs a (b + k) mb fr s Kd Vo Wd Tp (upd1 c0 0 v) ∧ GmO st.length s (upd1 c0 0 v) (fun j => if j = 0 then l else l0 j) ∧ fr.g 24 = I k ∧ fr.g 4 = w4 ∧ N = 4
set_option maxRecDepth 10000 in
theorem gm_cuts {l0 : Nat → List Int} {N : Nat} {w4 : V} (hM : M s0 = true) (hN : N ≤ 64) (hab : 0 ≤ a ∧ a ≤ b ∧ b ≤ a + 8000 ∧ a ≤ 10000000) (hl0 : (l0 0).length ≤ 10) {b0 : MC} (hb0 : b0 = F_gmodel.code.r.r.r.r.l.r.bb.bb) {Q : Post}
    (h : LInv_cuts st s0 mb f xs a b c l0 Kd Vo Wd Tp N w4 fr s) (hQ : ∀ fr s, LInv_cuts st s0 mb f xs a b c l0 Kd Vo Wd Tp N w4 fr s → fr.g 24 = I N → Q (.exit 0) fr s) : wpM Tryz.prog T (liftM (upM st.length M)) (.loop b0) Q fr s := by
  subst hb0
  refine wp_mloop (LInv_cuts st s0 mb f xs a b c l0 Kd Vo Wd Tp N w4) (fun fr _ => N - nat (fr.g 24)) h ?_
  clear h
  rintro fr s h
  obtain ⟨k, v, l, hk, hl, hr, hf0, hS, hO, hc, h4, hbnd⟩ := id h
  have hbi : (N : Int) = 4 := by omega
  by_cases hlt : k < N
  · have hup : upM st.length M s0 = true := upM_of hM
    obtain ⟨a', e1, e2, g⟩ := hS.gs
    have hlt0 := hS.lt
    have hmb := hS.hmb
    have hmbl : mb < s.length := (List.getElem?_eq_some_iff.1 hS.md).1
    have ho := hO.o 0 (by decide)
    simp only [upd1_eq, if_true] at ho
    have hmv : mb ∉ ownL v := fun hm => by
      rcases ho with ⟨-, rfl⟩ | ⟨b2, h1, h2, rfl⟩
      · simp [ownL] at hm
      · simp [ownL] at hm; subst hm; rw [hS.md] at h2; simp [mdl] at h2
    have hrd := rd_ne (s0 := s0) (v := v) (show mb ≠ s0 by omega) hmv
    have md := hS.md
    simp [F_gmodel, MC.l, MC.r, MC.bb, hc, hlt, ← hbi]
    refine wp_mtail (s0 :: ownL v) [] ?_
    simp [hS.g3, hS.g0, md, mdl, hrd]
    have e5 : (s ++ [Blk.row 3 1 [I 1, I 1, I 2, I 3, I 5, I 8, I 15]])[s.length]? = some (.row 3 1 (ints [1, 1, 2, 3, 5, 8, 15])) := by simp [ints]
    refine pick_g (g.more _) (inW_hd hup) (by omega) e5 (by omega) rfl (by simp) fun x s2 hx g2 b2 => ?_
    have R2 := get_but (get_more hS.rb _) b2 (by omega)
    have m2 := get_but (get_more hS.md _) b2 (by omega)
    have O2 := (hO.more [Blk.row 3 1 [I 1, I 1, I 2, I 3, I 5, I 8, I 15]]).but b2 hlt0
    have hl2 : s.length < s2.length := by rw [b2.1]; simp
    simp
    have ho2 := O2.o 0 (by decide)
    simp only [upd1_eq, if_true] at ho2
    refine app_out (ho2.more [Blk.row 3 1 [I x]]) (by simp; have := g2.same.len; omega) (news := [I x]) (by simp) (by simp) (Or.inl (by simp)) (fun b3 L h1 h2 j => inW_mem (by simp [upM, h1]) (by rw [h2]; simp [ownL]) j) (by simp; omega) (by simp; omega) fun v' s3 o3 hl3 hb3 hk3 hn3 => ?_
    have m3 : s3[mb]? = some (mdl Kd Vo Wd Tp (upd1 c 0 v)) := by rw [hk3 mb (by simp; omega) hmv]; exact get_more m2 _
    have R3 : s3[st.length]? = some (mdl 0 0 0 0 nils) := by
      rw [hk3 st.length (by simp; omega) ?_]
      · exact get_more R2 _
      · intro hm
        rcases ho with ⟨-, rfl⟩ | ⟨b2', h1, h2, rfl⟩
        · simp [ownL] at hm
        · simp [ownL] at hm; subst hm; rw [hS.rb] at h2; simp [mdl] at h2
    have g3 := (g2.more [Blk.row 3 1 [I x]]).to hl3 hb3
    have O3 := (O2.more [Blk.row 3 1 [I x]]).grow (i := 0) (by decide) (v := v') (m := l ++ [x]) (by rw [ints_append]; exact o3) (fun b hb hnb => hk3 b hb (by simpa using hnb)) (fun b hb => by simpa using hn3 b hb)
    have lv : v'.leaf = true := by rcases o3 with ⟨-, rfl⟩ | ⟨_, -, -, rfl⟩ <;> rfl
    have c' : v'.cells = [v'] := by rcases o3 with ⟨-, rfl⟩ | ⟨_, -, -, rfl⟩ <;> rfl
    have hrd3 : mb < st.length → False := by omega
    simp [m3, mdl, hS.up, lv, c', hc, w64 (n := (k : Int) + 1) (by omega) (by omega)]
    refine ⟨⟨k + 1, v', l ++ [x], by omega, by simp [hl]; omega, fun y hy => ?_, fun y hy => ?_, hS.step (g3.set (by omega) _) (by omega) (by push_cast; omega) (get_ne R3 (by omega) _) (c' := upd1 c 0 v') (get_set m3 _) (by simp) (by simp) (by simp) (by simp), ?_, by simp, by simp [h4], hbnd⟩, by omega⟩
    · rcases List.mem_append.1 hy with hy | hy
      · exact hr y hy
      · simp at hy; subst hy; exact Or.inr hx
    · have h0 := hf0 y hy
      rw [List.getElem?_append_left (List.getElem?_eq_some_iff.1 h0).1]; exact h0
    · have O4 := O3.apart (m := mb) m3 (by decide) (mdl Kd Vo Wd Tp (upd1 c 0 v'))
      refine ⟨fun j hj => ?_, fun j j2 h1 h2 h3 => ?_⟩
      · have := O4.o j hj
        by_cases hji : j = 0
        · subst hji; simpa [mdl] using this
        · simpa [hji, mdl] using this
      · have := O4.d j j2 h1 h2 h3
        by_cases hji : j = 0 <;> by_cases hji2 : j2 = 0 <;> simpa [hji, hji2] using this
  · obtain rfl : k = N := by omega
    simp [F_gmodel, MC.l, MC.r, MC.bb, hc, ← hbi]
    obtain ⟨a', e1, e2, g⟩ := hS.gs
    exact hQ _ s ⟨_, v, l, hk, hl, hr, hf0, hS.step g e1 e2 hS.rb hS.md (by simp) (by simp) (by simp) (by simp), hO, by simp [hc], by simp [h4], hbnd⟩ (by simp [hc])
/-- a round of the loop that makes list 5 -/
def LInv_soft (st : St) (s0 mb : Nat) (f : Bool) (xs : List Int) (a b : Int) (c0 : Nat → V) (l0 : Nat → List Int) (Kd Vo Wd Tp : Int) (N : Nat) (w4 : V) (fr : Fr) (s : St) : Prop :=
  ∃ (k : Nat) (v : V) (l : List Int), k ≤ N ∧ l.length = (l0 5).length + k ∧ (∀ x ∈ l, x ∈ l0 5 ∨ x ∈ ([0, 1, 8, 64, 1000] : List Int)) ∧ (∀ x, (l0 5)[0]? = some x → l[0]? = some x) ∧ GmS st s0 f xs a (b + k) mb fr s Kd Vo Wd Tp (upd1 c0 5 v) ∧ GmO st.length s (upd1 c0 5 v) (fun j => if j = 5 then l else l0 j) ∧ fr.g 81 = I k ∧ fr.g 4 = w4 ∧ fr.g 80 = I N
set_option maxRecDepth 10000 in
theorem gm_soft {l0 : Nat → List Int} {N : Nat} {w4 : V} (hM : M s0 = true) (hN : N ≤ 64) (hab : 0 ≤ a ∧ a ≤ b ∧ b ≤ a + 8000 ∧ a ≤ 10000000) (hl0 : (l0 5).length ≤ 10) {b0 : MC} (hb0 : b0 = F_gmodel.code.r.r.r.r.r.r.r.r.r.l.r.bb.bb) {Q : Post}
    (h : LInv_soft st s0 mb f xs a b c l0 Kd Vo Wd Tp N w4 fr s) (hQ : ∀ fr s, LInv_soft st s0 mb f xs a b c l0 Kd Vo Wd Tp N w4 fr s → fr.g 81 = I N → Q (.exit 3) fr s) : wpM Tryz.prog T (liftM (upM st.length M)) (.loop b0) Q fr s := by
  subst hb0
  refine wp_mloop (LInv_soft st s0 mb f xs a b c l0 Kd Vo Wd Tp N w4) (fun fr _ => N - nat (fr.g 81)) h ?_
  clear h
  rintro fr s h
  obtain ⟨k, v, l, hk, hl, hr, hf0, hS, hO, hc, h4, hbnd⟩ := id h
  by_cases hlt : k < N
  · have hup : upM st.length M s0 = true := upM_of hM
    obtain ⟨a', e1, e2, g⟩ := hS.gs
    have hlt0 := hS.lt
    have hmb := hS.hmb
    have hmbl : mb < s.length := (List.getElem?_eq_some_iff.1 hS.md).1
    have ho := hO.o 5 (by decide)
    simp only [upd1_eq, if_true] at ho
    have hmv : mb ∉ ownL v := fun hm => by
      rcases ho with ⟨-, rfl⟩ | ⟨b2, h1, h2, rfl⟩
      · simp [ownL] at hm
      · simp [ownL] at hm; subst hm; rw [hS.md] at h2; simp [mdl] at h2
    have hrd := rd_ne (s0 := s0) (v := v) (show mb ≠ s0 by omega) hmv
    have md := hS.md
    simp [F_gmodel, MC.l, MC.r, MC.bb, hc, hlt, hbnd]
    refine wp_mtail (s0 :: ownL v) [] ?_
    simp [hS.g3, hS.g0, md, mdl, hrd]
    have e5 : (s ++ [Blk.row 3 1 [I 0, I 1, I 8, I 64, I 1000]])[s.length]? = some (.row 3 1 (ints [0, 1, 8, 64, 1000])) := by simp [ints]
    refine pick_g (g.more _) (inW_hd hup) (by omega) e5 (by omega) rfl (by simp) fun x s2 hx g2 b2 => ?_
    have R2 := get_but (get_more hS.rb _) b2 (by omega)
    have m2 := get_but (get_more hS.md _) b2 (by omega)
    have O2 := (hO.more [Blk.row 3 1 [I 0, I 1, I 8, I 64, I 1000]]).but b2 hlt0
    have hl2 : s.length < s2.length := by rw [b2.1]; simp
    simp
    have ho2 := O2.o 5 (by decide)
    simp only [upd1_eq, if_true] at ho2
    refine app_out (ho2.more [Blk.row 3 1 [I x]]) (by simp; have := g2.same.len; omega) (news := [I x]) (by simp) (by simp) (Or.inl (by simp)) (fun b3 L h1 h2 j => inW_mem (by simp [upM, h1]) (by rw [h2]; simp [ownL]) j) (by simp; omega) (by simp; omega) fun v' s3 o3 hl3 hb3 hk3 hn3 => ?_
    have m3 : s3[mb]? = some (mdl Kd Vo Wd Tp (upd1 c 5 v)) := by rw [hk3 mb (by simp; omega) hmv]; exact get_more m2 _
    have R3 : s3[st.length]? = some (mdl 0 0 0 0 nils) := by
      rw [hk3 st.length (by simp; omega) ?_]
      · exact get_more R2 _
      · intro hm
        rcases ho with ⟨-, rfl⟩ | ⟨b2', h1, h2, rfl⟩
        · simp [ownL] at hm
        · simp [ownL] at hm; subst hm; rw [hS.rb] at h2; simp [mdl] at h2
    have g3 := (g2.more [Blk.row 3 1 [I x]]).to hl3 hb3
    have O3 := (O2.more [Blk.row 3 1 [I x]]).grow (i := 5) (by decide) (v := v') (m := l ++ [x]) (by rw [ints_append]; exact o3) (fun b hb hnb => hk3 b hb (by simpa using hnb)) (fun b hb => by simpa using hn3 b hb)
    have lv : v'.leaf = true := by rcases o3 with ⟨-, rfl⟩ | ⟨_, -, -, rfl⟩ <;> rfl
    have c' : v'.cells = [v'] := by rcases o3 with ⟨-, rfl⟩ | ⟨_, -, -, rfl⟩ <;> rfl
    have hrd3 : mb < st.length → False := by omega
    simp [m3, mdl, hS.up, lv, c', hc, w64 (n := (k : Int) + 1) (by omega) (by omega)]
    refine ⟨⟨k + 1, v', l ++ [x], by omega, by simp [hl]; omega, fun y hy => ?_, fun y hy => ?_, hS.step (g3.set (by omega) _) (by omega) (by push_cast; omega) (get_ne R3 (by omega) _) (c' := upd1 c 5 v') (get_set m3 _) (by simp) (by simp) (by simp) (by simp), ?_, by simp, by simp [h4], by simp [hbnd]⟩, by omega⟩
    · rcases List.mem_append.1 hy with hy | hy
      · exact hr y hy
      · simp at hy; subst hy; exact Or.inr hx
    · have h0 := hf0 y hy
      rw [List.getElem?_append_left (List.getElem?_eq_some_iff.1 h0).1]; exact h0
    · have O4 := O3.apart (m := mb) m3 (by decide) (mdl Kd Vo Wd Tp (upd1 c 5 v'))
      refine ⟨fun j hj => ?_, fun j j2 h1 h2 h3 => ?_⟩
      · have := O4.o j hj
        by_cases hji : j = 5
        · subst hji; simpa [mdl] using this
        · simpa [hji, mdl] using this
      · have := O4.d j j2 h1 h2 h3
        by_cases hji : j = 5 <;> by_cases hji2 : j2 = 5 <;> simpa [hji, hji2] using this
  · obtain rfl : k = N := by omega
    simp [F_gmodel, MC.l, MC.r, MC.bb, hc, hbnd]
    obtain ⟨a', e1, e2, g⟩ := hS.gs
    exact hQ _ s ⟨_, v, l, hk, hl, hr, hf0, hS.step g e1 e2 hS.rb hS.md (by simp) (by simp) (by simp) (by simp), hO, by simp [hc], by simp [h4], by simp [hbnd]⟩ (by simp [hc])
/-- a round of the loop that makes list 6 -/
def LInv_odds (st : St) (s0 mb : Nat) (f : Bool) (xs : List Int) (a b : Int) (c0 : Nat → V) (l0 : Nat → List Int) (Kd Vo Wd Tp : Int) (N : Nat) (w4 : V) (fr : Fr) (s : St) : Prop :=
  ∃ (k : Nat) (v : V) (l : List Int), k ≤ N ∧ l.length = (l0 6).length + k ∧ (∀ x ∈ l, x ∈ l0 6 ∨ x ∈ ([0, 1, 8, 1000] : List Int)) ∧ (∀ x, (l0 6)[0]? = some x → l[0]? = some x) ∧ GmS st s0 f xs a (b + k) mb fr s Kd Vo Wd Tp (upd1 c0 6 v) ∧ GmO st.length s (upd1 c0 6 v) (fun j => if j = 6 then l else l0 j) ∧ fr.g 99 = I k ∧ fr.g 4 = w4 ∧ fr.g 98 = I N
set_option maxRecDepth 10000 in
theorem gm_odds {l0 : Nat → List Int} {N : Nat} {w4 : V} (hM : M s0 = true) (hN : N ≤ 64) (hab : 0 ≤ a ∧ a ≤ b ∧ b ≤ a + 8000 ∧ a ≤ 10000000) (hl0 : (l0 6).length ≤ 10) {b0 : MC} (hb0 : b0 = F_gmodel.code.r.r.r.r.r.r.r.r.r.r.r.l.r.bb.bb) {Q : Post}
    (h : LInv_odds st s0 mb f xs a b c l0 Kd Vo Wd Tp N w4 fr s) (hQ : ∀ fr s, LInv_odds st s0 mb f xs a b c l0 Kd Vo Wd Tp N w4 fr s → fr.g 99 = I N → Q (.exit 5) fr s) : wpM Tryz.prog T (liftM (upM st.length M)) (.loop b0) Q fr s := by
  subst hb0
  refine wp_mloop (LInv_odds st s0 mb f xs a b c l0 Kd Vo Wd Tp N w4) (fun fr _ => N - nat (fr.g 99)) h ?_
  clear h
  rintro fr s h
  obtain ⟨k, v, l, hk, hl, hr, hf0, hS, hO, hc, h4, hbnd⟩ := id h
  by_cases hlt : k < N
  · have hup : upM st.length M s0 = true := upM_of hM
    obtain ⟨a', e1, e2, g⟩ := hS.gs
    have hlt0 := hS.lt
    have hmb := hS.hmb
    have hmbl : mb < s.length := (List.getElem?_eq_some_iff.1 hS.md).1
    have ho := hO.o 6 (by decide)
    simp only [upd1_eq, if_true] at ho
    have hmv : mb ∉ ownL v := fun hm => by
      rcases ho with ⟨-, rfl⟩ | ⟨b2, h1, h2, rfl⟩
      · simp [ownL] at hm
      · simp [ownL] at hm; subst hm; rw [hS.md] at h2; simp [mdl] at h2
    have hrd := rd_ne (s0 := s0) (v := v) (show mb ≠ s0 by omega) hmv
    have md := hS.md
    simp [F_gmodel, MC.l, MC.r, MC.bb, hc, hlt, hbnd]
    refine wp_mtail (s0 :: ownL v) [] ?_
    simp [hS.g3, hS.g0, md, mdl, hrd]
    have e5 : (s ++ [Blk.row 3 1 [I 0, I 1, I 8, I 1000]])[s.length]? = some (.row 3 1 (ints [0, 1, 8, 1000])) := by simp [ints]
    refine pick_g (g.more _) (inW_hd hup) (by omega) e5 (by omega) rfl (by simp) fun x s2 hx g2 b2 => ?_
    have R2 := get_but (get_more hS.rb _) b2 (by omega)
    have m2 := get_but (get_more hS.md _) b2 (by omega)
    have O2 := (hO.more [Blk.row 3 1 [I 0, I 1, I 8, I 1000]]).but b2 hlt0
    have hl2 : s.length < s2.length := by rw [b2.1]; simp
    simp
    have ho2 := O2.o 6 (by decide)
    simp only [upd1_eq, if_true] at ho2
    refine app_out (ho2.more [Blk.row 3 1 [I x]]) (by simp; have := g2.same.len; omega) (news := [I x]) (by simp) (by simp) (Or.inl (by simp)) (fun b3 L h1 h2 j => inW_mem (by simp [upM, h1]) (by rw [h2]; simp [ownL]) j) (by simp; omega) (by simp; omega) fun v' s3 o3 hl3 hb3 hk3 hn3 => ?_
    have m3 : s3[mb]? = some (mdl Kd Vo Wd Tp (upd1 c 6 v)) := by rw [hk3 mb (by simp; omega) hmv]; exact get_more m2 _
    have R3 : s3[st.length]? = some (mdl 0 0 0 0 nils) := by
      rw [hk3 st.length (by simp; omega) ?_]
      · exact get_more R2 _
      · intro hm
        rcases ho with ⟨-, rfl⟩ | ⟨b2', h1, h2, rfl⟩
        · simp [ownL] at hm
        · simp [ownL] at hm; subst hm; rw [hS.rb] at h2; simp [mdl] at h2
    have g3 := (g2.more [Blk.row 3 1 [I x]]).to hl3 hb3
    have O3 := (O2.more [Blk.row 3 1 [I x]]).grow (i := 6) (by decide) (v := v') (m := l ++ [x]) (by rw [ints_append]; exact o3) (fun b hb hnb => hk3 b hb (by simpa using hnb)) (fun b hb => by simpa using hn3 b hb)
    have lv : v'.leaf = true := by rcases o3 with ⟨-, rfl⟩ | ⟨_, -, -, rfl⟩ <;> rfl
    have c' : v'.cells = [v'] := by rcases o3 with ⟨-, rfl⟩ | ⟨_, -, -, rfl⟩ <;> rfl
    have hrd3 : mb < st.length → False := by omega
    simp [m3, mdl, hS.up, lv, c', hc, w64 (n := (k : Int) + 1) (by omega) (by omega)]
    refine ⟨⟨k + 1, v', l ++ [x], by omega, by simp [hl]; omega, fun y hy => ?_, fun y hy => ?_, hS.step (g3.set (by omega) _) (by omega) (by push_cast; omega) (get_ne R3 (by omega) _) (c' := upd1 c 6 v') (get_set m3 _) (by simp) (by simp) (by simp) (by simp), ?_, by simp, by simp [h4], by simp [hbnd]⟩, by omega⟩
    · rcases List.mem_append.1 hy with hy | hy
      · exact hr y hy
      · simp at hy; subst hy; exact Or.inr hx
    · have h0 := hf0 y hy
      rw [List.getElem?_append_left (List.getElem?_eq_some_iff.1 h0).1]; exact h0
    · have O4 := O3.apart (m := mb) m3 (by decide) (mdl Kd Vo Wd Tp (upd1 c 6 v'))
      refine ⟨fun j hj => ?_, fun j j2 h1 h2 h3 => ?_⟩
      · have := O4.o j hj
        by_cases hji : j = 6
        · subst hji; simpa [mdl] using this
        · simpa [hji, mdl] using this
      · have := O4.d j j2 h1 h2 h3
        by_cases hji : j = 6 <;> by_cases hji2 : j2 = 6 <;> simpa [hji, hji2] using this
  · obtain rfl : k = N := by omega
    simp [F_gmodel, MC.l, MC.r, MC.bb, hc, hbnd]
    obtain ⟨a', e1, e2, g⟩ := hS.gs
    exact hQ _ s ⟨_, v, l, hk, hl, hr, hf0, hS.step g e1 e2 hS.rb hS.md (by simp) (by simp) (by simp) (by simp), hO, by simp [hc], by simp [h4], by simp [hbnd]⟩ (by simp [hc])
theorem sbytes_g {n sb : Nat} {a : Int} (g : GS n sb st s f xs a) (hM : M sb = true) (ha : 0 ≤ a ∧ a ≤ 100000000) (m : Int) (hm : 0 ≤ m ∧ m ≤ 400) (hK : ∀ gg l a' s', (l.length : Int) = m → (∀ x ∈ l, -128 ≤ x ∧ x ≤ 127) → a ≤ a' → a' ≤ a + 2 * m → GS n sb st s' f xs a' → But sb s s' → K (.lst gg (ints l)) s') :
    CallV Tryz.prog T M 29 [.ptr sb 1 0 0, I m] s K Kp := by
  obtain ⟨k, rfl⟩ : ∃ k : Nat, m = k := ⟨m.toNat, by omega⟩
  exact sbytes_v sb k (by omega) g.str hM g.src ha fun gg l a' h1 h2 h3 h4 => hK gg l a' _ (by omega) h2 h3 h4 (g.next _) (But.set _ _ _)
/-- the lists that are drawn whole -/
structure GmF (c : Nat → V) (l : Nat → List Int) (fl : Nat → Bool) : Prop where
  h1 : c 1 = .lst (fl 1) (ints (l 1))
  h2 : c 2 = .lst (fl 2) (ints (l 2))
  h3 : c 3 = .lst (fl 3) (ints (l 3))
  h4 : c 4 = .lst (fl 4) (ints (l 4))
theorem GmS.wide (h : GmS st s0 f xs a b mb fr s Kd Vo Wd Tp c) {b' : Int} (hb : b ≤ b') : GmS st s0 f xs a b' mb fr s Kd Vo Wd Tp c := by
  obtain ⟨a', h1, h2, h3⟩ := h.gs
  exact ⟨⟨a', h1, by omega, h3⟩, h.rb, h.md, h.hmb, h.g0, h.g2, h.g3, h.df⟩
set_option maxRecDepth 10000 in
theorem gm_11 (hK : GK st s0 f xs a K) (hM : M s0 = true) (ha : 0 ≤ a ∧ a ≤ 10000000) (h : GmS st s0 f xs a (a + 5000) mb fr s Kd Vo Wd Tp c) {l : Nat → List Int} (hO : GmO st.length s c l) {fl : Nat → Bool} (hF : GmF c l fl) {y : Int} (hy : l 6 = [y]) (hy2 : 1 ≤ y ∧ y ≤ 40)
    (hgen : ∀ o : List Int, (1 ≤ o.length ∧ o.length ≤ 64) → (∀ x ∈ o, 0 ≤ x ∧ x ≤ 1000) → (∃ x0, o[0]? = some x0 ∧ 1 ≤ x0) → GenM ⟨Kd, Vo, Wd, Tp, l 0, l 1, l 2, l 3, l 4, l 5, o⟩) :
    wpM Tryz.prog T (liftM (upM st.length M)) F_gmodel.code.r.r.r.r.r.r.r.r.r.r.r (GQ st K Kp) fr s := by
  have hend : ∀ (fr : Fr) (s : St) (c : Nat → V) (l : Nat → List Int), GmS st s0 f xs a (a + 10000) mb fr s Kd Vo Wd Tp c → GmO st.length s c l → GmF c l fl → GenM ⟨Kd, Vo, Wd, Tp, l 0, l 1, l 2, l 3, l 4, l 5, l 6⟩ → wpM Tryz.prog T (liftM (upM st.length M)) F_gmodel.code.r.r.r.r.r.r.r.r.r.r.r.r (GQ st K Kp) fr s := fun fr s c l h1 h2 h3 h4 =>
    gm_end hK hM h1 (h2.o 0 (by decide)) (h2.o 5 (by decide)) (h2.o 6 (by decide)) h3.h1 h3.h2 h3.h3 h3.h4 h4
  have e : F_gmodel.code.r.r.r.r.r.r.r.r.r.r.r = .seq F_gmodel.code.r.r.r.r.r.r.r.r.r.r.r.l F_gmodel.code.r.r.r.r.r.r.r.r.r.r.r.r := rfl
  rw [e, wp_mseq]
  generalize wpM Tryz.prog T (liftM (upM st.length M)) F_gmodel.code.r.r.r.r.r.r.r.r.r.r.r.r (GQ st K Kp) = k12 at hend ⊢
  have hup : upM st.length M s0 = true := upM_of hM
  obtain ⟨a', e1, e2, g⟩ := h.gs
  have hlt := h.lt
  simp [F_gmodel, MC.l, MC.r, h.g0]
  have e5 : (s ++ [Blk.row 3 1 [I 0, I 1, I 4, I 63]])[s.length]? = some (.row 3 1 (ints [0, 1, 4, 63])) := by simp [ints]
  refine pick_g (g.more _) hup (by omega) e5 (Nat.ne_of_gt (Nat.lt_of_lt_of_le hlt g.same.len)) rfl (by simp) fun N s2 hN g2 b2 => ?_
  have hN' : 0 ≤ N ∧ N ≤ 63 := by simp at hN; omega
  obtain ⟨n, rfl⟩ : ∃ n : Nat, N = n := ⟨N.toNat, by omega⟩
  have hmb := h.hmb
  have O2 := (hO.more [Blk.row 3 1 [I 0, I 1, I 4, I 63]]).but b2 hlt
  have R2 := get_but (get_more h.rb _) b2 (by omega)
  have m2 := get_but (get_more h.md _) b2 (by omega)
  try simp
  refine gm_odds (a := a) (b := a + 5010) (l0 := l) (N := n) (w4 := fr.g 4) (c := c) hM (by omega) (by omega) (by rw [hy]; simp) rfl ⟨0, c 6, l 6, by omega, by simp, fun x hx => Or.inl hx, fun x hx => hx, h.step g2 (by omega) (by omega) R2 (c' := upd1 c 6 (c 6)) (by simpa [mdl] using m2) (by simp) (by simp) (by simp) (by simp), ?_, by simp, by simp, by simp⟩ ?_
  · exact O2.id 6
  · rintro fr3 s3 ⟨k, v, o, q1, q2, q3, q4, hS, hO3, q5, q6, q7⟩ q8
    simp
    have hkn : k = n := by rw [q8] at q5; simp at q5; omega
    refine hend fr3 s3 (upd1 c 6 v) _ (hS.wide (by omega)) hO3 ⟨by simpa using hF.h1, by simpa using hF.h2, by simpa using hF.h3, by simpa using hF.h4⟩ ?_
    simp
    have q2' : o.length = 1 + k := by rw [q2, hy]; rfl
    refine hgen o ⟨by omega, by omega⟩ (fun x hx => ?_) ⟨y, q4 y (by rw [hy]; rfl), hy2.1⟩
    rcases q3 x hx with hx | hx
    · rw [hy] at hx; simp at hx; omega
    · simp at hx; omega
set_option maxRecDepth 10000 in
theorem gm_10 (hK : GK st s0 f xs a K) (hM : M s0 = true) (ha : 0 ≤ a ∧ a ≤ 10000000) (h : GmS st s0 f xs a (a + 4900) mb fr s Kd Vo Wd Tp c) {l : Nat → List Int} (hO : GmO st.length s c l) {fl : Nat → Bool} (hF : GmF c l fl)
    (hgen : ∀ o : List Int, (1 ≤ o.length ∧ o.length ≤ 64) → (∀ x ∈ o, 0 ≤ x ∧ x ≤ 1000) → (∃ x0, o[0]? = some x0 ∧ 1 ≤ x0) → GenM ⟨Kd, Vo, Wd, Tp, l 0, l 1, l 2, l 3, l 4, l 5, o⟩) :
    wpM Tryz.prog T (liftM (upM st.length M)) F_gmodel.code.r.r.r.r.r.r.r.r.r.r (GQ st K Kp) fr s := by
  have hend : ∀ (fr : Fr) (s : St) (c : Nat → V) (l' : Nat → List Int) (y : Int), GmS st s0 f xs a (a + 5000) mb fr s Kd Vo Wd Tp c → GmO st.length s c l' → GmF c l' fl → l' 6 = [y] → 1 ≤ y ∧ y ≤ 40 → (∀ i, i ≠ 6 → l' i = l i) → wpM Tryz.prog T (liftM (upM st.length M)) F_gmodel.code.r.r.r.r.r.r.r.r.r.r.r (GQ st K Kp) fr s := fun fr s c l' y h1 h2 h3 h4 h5 h6 =>
    gm_11 hK hM ha h1 h2 h3 h4 h5 fun o q1 q2 q3 => by rw [h6 0 (by decide), h6 1 (by decide), h6 2 (by decide), h6 3 (by decide), h6 4 (by decide), h6 5 (by decide)]; exact hgen o q1 q2 q3
  have e : F_gmodel.code.r.r.r.r.r.r.r.r.r.r = .seq F_gmodel.code.r.r.r.r.r.r.r.r.r.r.l F_gmodel.code.r.r.r.r.r.r.r.r.r.r.r := rfl
  rw [e, wp_mseq]
  generalize wpM Tryz.prog T (liftM (upM st.length M)) F_gmodel.code.r.r.r.r.r.r.r.r.r.r.r (GQ st K Kp) = k12 at hend ⊢
  have hup : upM st.length M s0 = true := upM_of hM
  obtain ⟨a', e1, e2, g⟩ := h.gs
  have hlt := h.lt
  have hmb := h.hmb
  simp [F_gmodel, MC.l, MC.r, h.g0]
  refine range_g g hup (by omega) 1 40 (by omega) (by omega) (by omega) fun y s2 y1 y2 g2 b2 => ?_
  have R2 := get_but h.rb b2 (by omega)
  have m2 := get_but h.md b2 (by omega)
  have O2 := hO.but b2 hlt
  have m3 := get_more m2 [Blk.row 3 1 [I y]]
  simp [h.g3, m3, mdl, h.up]
  have o3 : OutS st.length 3 1 (s2 ++ [Blk.row 3 1 [I y]]) (.own s2.length 1 0 1) (ints [y]) := Or.inr ⟨s2.length, g2.same.len, by simp [ints], by simp [ints]⟩
  have O3 := O2.grow (i := 6) (by decide) o3 (fun b hb _ => List.getElem?_append_left hb) (fun b hb => by simp [ownL] at hb; exact Or.inr (by omega))
  have O4 := O3.apart m3 (by decide) (mdl Kd Vo Wd Tp (upd1 c 6 (.own s2.length 1 0 1)))
  refine hend _ _ (upd1 c 6 (.own s2.length 1 0 1)) (fun j => if j = 6 then [y] else l j) y (h.step ((g2.more _).set (by omega) _) (by omega) (by omega) (get_ne (get_more R2 _) (by omega) _) (get_set m3 (mdl Kd Vo Wd Tp (upd1 c 6 (.own s2.length 1 0 1)))) (by simp) (by simp) (by simp) (by simp)) ?_ ⟨by simpa using hF.h1, by simpa using hF.h2, by simpa using hF.h3, by simpa using hF.h4⟩ (by simp) ⟨y1, y2⟩ (fun i hi => by simp [hi])
  simpa [mdl] using O4
set_option maxRecDepth 10000 in
theorem gm_9 (hK : GK st s0 f xs a K) (hM : M s0 = true) (ha : 0 ≤ a ∧ a ≤ 10000000) (h : GmS st s0 f xs a (a + 4800) mb fr s Kd Vo Wd Tp c) {l : Nat → List Int} (hO : GmO st.length s c l) {fl : Nat → Bool} (hF : GmF c l fl) (hl5 : l 5 = [])
    (hgen : ∀ q o : List Int, (1 ≤ q.length ∧ q.length ≤ 64) → (∀ x ∈ q, 0 ≤ x ∧ x ≤ 1000) → (1 ≤ o.length ∧ o.length ≤ 64) → (∀ x ∈ o, 0 ≤ x ∧ x ≤ 1000) → (∃ x0, o[0]? = some x0 ∧ 1 ≤ x0) → GenM ⟨Kd, Vo, Wd, Tp, l 0, l 1, l 2, l 3, l 4, q, o⟩) :
    wpM Tryz.prog T (liftM (upM st.length M)) F_gmodel.code.r.r.r.r.r.r.r.r.r (GQ st K Kp) fr s := by
  have hend : ∀ (fr : Fr) (s : St) (c : Nat → V) (l' : Nat → List Int), GmS st s0 f xs a (a + 4900) mb fr s Kd Vo Wd Tp c → GmO st.length s c l' → GmF c l' fl → (1 ≤ (l' 5).length ∧ (l' 5).length ≤ 64) → (∀ x ∈ l' 5, 0 ≤ x ∧ x ≤ 1000) → (∀ i, i ≠ 5 → l' i = l i) → wpM Tryz.prog T (liftM (upM st.length M)) F_gmodel.code.r.r.r.r.r.r.r.r.r.r (GQ st K Kp) fr s := fun fr s c l' h1 h2 h3 h4 h5 h6 =>
    gm_10 hK hM ha h1 h2 h3 fun o q1 q2 q3 => by rw [h6 0 (by decide), h6 1 (by decide), h6 2 (by decide), h6 3 (by decide), h6 4 (by decide)]; exact hgen _ o h4 h5 q1 q2 q3
  have e : F_gmodel.code.r.r.r.r.r.r.r.r.r = .seq F_gmodel.code.r.r.r.r.r.r.r.r.r.l F_gmodel.code.r.r.r.r.r.r.r.r.r.r := rfl
  rw [e, wp_mseq]
  generalize wpM Tryz.prog T (liftM (upM st.length M)) F_gmodel.code.r.r.r.r.r.r.r.r.r.r (GQ st K Kp) = k12 at hend ⊢
  have hup : upM st.length M s0 = true := upM_of hM
  obtain ⟨a', e1, e2, g⟩ := h.gs
  have hlt := h.lt
  have hmb := h.hmb
  simp [F_gmodel, MC.l, MC.r, h.g0]
  have e5 : (s ++ [Blk.row 3 1 [I 1, I 2, I 5, I 64]])[s.length]? = some (.row 3 1 (ints [1, 2, 5, 64])) := by simp [ints]
  refine pick_g (g.more _) hup (by omega) e5 (Nat.ne_of_gt (Nat.lt_of_lt_of_le hlt g.same.len)) rfl (by simp) fun N s2 hN g2 b2 => ?_
  have hN' : 1 ≤ N ∧ N ≤ 64 := by simp at hN; omega
  obtain ⟨n, rfl⟩ : ∃ n : Nat, N = n := ⟨N.toNat, by omega⟩
  have O2 := (hO.more [Blk.row 3 1 [I 1, I 2, I 5, I 64]]).but b2 hlt
  have R2 := get_but (get_more h.rb _) b2 (by omega)
  have m2 := get_but (get_more h.md _) b2 (by omega)
  try simp
  refine gm_soft (a := a) (b := a + 4810) (l0 := l) (N := n) (w4 := fr.g 4) (c := c) hM (by omega) (by omega) (by rw [hl5]; simp) rfl ⟨0, c 5, l 5, by omega, by simp, fun x hx => Or.inl hx, fun x hx => hx, h.step g2 (by omega) (by omega) R2 (c' := upd1 c 5 (c 5)) (by simpa [mdl] using m2) (by simp) (by simp) (by simp) (by simp), ?_, by simp, by simp, by simp⟩ ?_
  · exact O2.id 5
  · rintro fr3 s3 ⟨k, v, o, q1, q2, q3, q4, hS, hO3, q5, q6, q7⟩ q8
    simp
    have hkn : k = n := by rw [q8] at q5; simp at q5; omega
    refine hend fr3 s3 (upd1 c 5 v) _ (hS.wide (by omega)) hO3 ⟨by simpa using hF.h1, by simpa using hF.h2, by simpa using hF.h3, by simpa using hF.h4⟩ ?_ ?_ (fun i hi => by simp [hi])
    · have q2' : o.length = 0 + k := by rw [q2, hl5]; rfl
      simp
      omega
    · simp
      intro x hx
      rcases q3 x hx with hx | hx
      · rw [hl5] at hx; simp at hx
      · simp at hx; omega
theorem GmO.val {n : Nat} {s : St} {c : Nat → V} {l : Nat → List Int} (h : GmO n s c l) {i : Nat} (hi : i ≠ 0 ∧ i ≠ 5 ∧ i ≠ 6) (v : V) (m : List Int) : GmO n s (upd1 c i v) (fun j => if j = i then m else l j) :=
  ⟨fun j hj => by
    have hji : j ≠ i := by omega
    simpa [hji] using h.o j hj, fun j k h1 h2 h3 => by
    have hji : j ≠ i := by omega
    have hki : k ≠ i := by omega
    simpa [hji, hki] using h.d j k h1 h2 h3⟩
set_option maxRecDepth 10000 in
theorem gm_8 (hK : GK st s0 f xs a K) (hM : M s0 = true) (ha : 0 ≤ a ∧ a ≤ 10000000) (h : GmS st s0 f xs a (a + 2000) mb fr s Kd Vo Wd Tp c) {l : Nat → List Int} (hO : GmO st.length s c l) {fl : Nat → Bool} (h1 : c 1 = .lst (fl 1) (ints (l 1))) (h4 : c 4 = .lst (fl 4) (ints (l 4))) (hl5 : l 5 = [])
    {mn : Int} (h4m : fr.g 4 = I mn) (hmn : 1 ≤ mn ∧ mn ≤ 4) (hwd : 1 ≤ Wd ∧ Wd ≤ 5)
    (hgen : ∀ p x q o : List Int, ((∃ r : Int, 1 ≤ r ∧ r ≤ 16 ∧ (p.length : Int) = r * Wd) ∧ ∀ y ∈ p, -128 ≤ y ∧ y ≤ 127) → ((x.length : Int) = mn * Wd * Wd ∧ ∀ y ∈ x, -128 ≤ y ∧ y ≤ 127) → (1 ≤ q.length ∧ q.length ≤ 64) → (∀ x ∈ q, 0 ≤ x ∧ x ≤ 1000) → (1 ≤ o.length ∧ o.length ≤ 64) → (∀ x ∈ o, 0 ≤ x ∧ x ≤ 1000) → (∃ x0, o[0]? = some x0 ∧ 1 ≤ x0) → GenM ⟨Kd, Vo, Wd, Tp, l 0, l 1, p, x, l 4, q, o⟩) :
    wpM Tryz.prog T (liftM (upM st.length M)) F_gmodel.code.r.r.r.r.r.r.r.r (GQ st K Kp) fr s := by
  have hend : ∀ (fr : Fr) (s : St) (p x : List Int) (g2 g3 : Bool), GmS st s0 f xs a (a + 4800) mb fr s Kd Vo Wd Tp (upd1 (upd1 c 2 (.lst g2 (ints p))) 3 (.lst g3 (ints x))) → GmO st.length s (upd1 (upd1 c 2 (.lst g2 (ints p))) 3 (.lst g3 (ints x))) (fun j => if j = 3 then x else if j = 2 then p else l j) →
      ((∃ r : Int, 1 ≤ r ∧ r ≤ 16 ∧ (p.length : Int) = r * Wd) ∧ ∀ y ∈ p, -128 ≤ y ∧ y ≤ 127) → ((x.length : Int) = mn * Wd * Wd ∧ ∀ y ∈ x, -128 ≤ y ∧ y ≤ 127) → wpM Tryz.prog T (liftM (upM st.length M)) F_gmodel.code.r.r.r.r.r.r.r.r.r (GQ st K Kp) fr s := fun fr s p x g2 g3 q1 q2 q3 q4 =>
    gm_9 hK hM ha q1 q2 (fl := fun i => if i = 2 then g2 else if i = 3 then g3 else fl i) ⟨by simpa using h1, by simp, by simp, by simpa using h4⟩ (by simpa using hl5) fun q o z1 z2 z3 z4 z5 => by simpa using hgen p x q o q3 q4 z1 z2 z3 z4 z5
  have e : F_gmodel.code.r.r.r.r.r.r.r.r = .seq F_gmodel.code.r.r.r.r.r.r.r.r.l F_gmodel.code.r.r.r.r.r.r.r.r.r := rfl
  rw [e, wp_mseq]
  generalize wpM Tryz.prog T (liftM (upM st.length M)) F_gmodel.code.r.r.r.r.r.r.r.r.r (GQ st K Kp) = k12 at hend ⊢
  have hup : upM st.length M s0 = true := upM_of hM
  obtain ⟨a', e1, e2, g⟩ := h.gs
  have hlt := h.lt
  have hmb := h.hmb
  have hmbl : mb < s.length := (List.getElem?_eq_some_iff.1 h.md).1
  have hw2 : 0 ≤ mn * Wd ∧ mn * Wd ≤ 20 := ⟨Int.mul_nonneg (by omega) (by omega), Int.mul_le_mul hmn.2 hwd.2 (by omega) (by omega)⟩
  have hw3 : 0 ≤ mn * Wd * Wd ∧ mn * Wd * Wd ≤ 100 := ⟨Int.mul_nonneg hw2.1 (by omega), Int.mul_le_mul hw2.2 hwd.2 (by omega) (by omega)⟩
  have hr1 : rdW [s0] [(mb, 6)] mb 1 = true := by simp [rdW]; omega
  have hr2 : rdW [s0] [(mb, 6)] mb 2 = true := by simp [rdW]; omega
  have hw6 : inW s.length [s0] [(mb, 6)] (liftM (upM st.length M)) mb 6 = true := by simp [inW, h.up]
  simp only [F_gmodel, MC.l, MC.r]
  refine wp_mtail [s0] [(mb, 6)] ?_
  simp [h.g0, h.g3, h.md, mdl, hr2, h4m, w64 (n := mn * Wd) (by omega) (by omega), w64 (n := mn * Wd * Wd) (by omega) (by omega)]
  have e5 : (s ++ [Blk.row 3 1 [I 1, I 2, I 4, I 16]])[s.length]? = some (.row 3 1 (ints [1, 2, 4, 16])) := by simp [ints]
  refine pick_g (g.more _) (inW_hd hup) (by omega) e5 (by omega) rfl (by simp) fun r s2 hr g2 b2 => ?_
  have hr' : 1 ≤ r ∧ r ≤ 16 := by simp at hr; omega
  have O2 := (hO.more [Blk.row 3 1 [I 1, I 2, I 4, I 16]]).but b2 hlt
  have R2 := get_but (get_more h.rb _) b2 (by omega)
  have m2 := get_but (get_more h.md _) b2 (by omega)
  have hp : 0 ≤ r * Wd ∧ r * Wd ≤ 80 := ⟨Int.mul_nonneg (by omega) (by omega), Int.mul_le_mul hr'.2 hwd.2 (by omega) (by omega)⟩
  simp [w64 (n := r * Wd) (by omega) (by omega)]
  refine sbytes_g g2 (inW_hd hup) (by omega) (r * Wd) (by omega) fun gp p a3 s3 p1 p2 p3 p4 g3 b3 => ?_
  have O3 := O2.but b3 hlt
  have R3 := get_but R2 b3 (by omega)
  have m3 := get_but m2 b3 (by omega)
  simp
  refine sbytes_g g3 (inW_hd hup) (by omega) (mn * Wd * Wd) (by omega) fun gx x a4 s4 x1 x2 x3 x4 g4 b4 => ?_
  have O4 := O3.but b4 hlt
  have F_gmodel.code.r.r.r.r := get_but R3 b4 (by omega)
  have m4 := get_but m3 b4 (by omega)
  have m5 := get_set m4 (mdl Kd Vo Wd Tp (upd1 c 2 (.lst gp (ints p))))
  simp [m4, mdl, h.up, hw6]
  simp [mdl] at m5
  simp [m5]
  have O5 := ((O4.apart m4 (by decide) (mdl Kd Vo Wd Tp (upd1 (upd1 c 2 (.lst gp (ints p))) 3 (.lst gx (ints x))))).val (i := 2) (by decide) (.lst gp (ints p)) p).val (i := 3) (by decide) (.lst gx (ints x)) x
  refine hend _ _ p x gp gx (h.step (g4.set (by omega) _) (by omega) (by omega) (get_ne F_gmodel.code.r.r.r.r (by omega) _) (get_set m4 (mdl Kd Vo Wd Tp (upd1 (upd1 c 2 (.lst gp (ints p))) 3 (.lst gx (ints x))))) (by simp) (by simp) (by simp) (by simp)) (by simpa [mdl] using O5) ⟨⟨r, hr'.1, hr'.2, p1⟩, p2⟩ ⟨x1, x2⟩
set_option maxRecDepth 10000 in
theorem gm_7 (hK : GK st s0 f xs a K) (hM : M s0 = true) (ha : 0 ≤ a ∧ a ≤ 10000000) (h : GmS st s0 f xs a (a + 100) mb fr s Kd Vo Wd Tp c) {l : Nat → List Int} (hO : GmO st.length s c l) (hl5 : l 5 = [])
    {mn : Int} (h4m : fr.g 4 = I mn) (hmn : 1 ≤ mn ∧ mn ≤ 4) (hwd : 1 ≤ Wd ∧ Wd ≤ 5) (hvo : 2 ≤ Vo ∧ Vo ≤ 16)
    (hgen : ∀ em ou p x q o : List Int, ((em.length : Int) = Vo * Wd ∧ ∀ y ∈ em, -128 ≤ y ∧ y ≤ 127) → ((ou.length : Int) = Vo * Wd ∧ ∀ y ∈ ou, -128 ≤ y ∧ y ≤ 127) → ((∃ r : Int, 1 ≤ r ∧ r ≤ 16 ∧ (p.length : Int) = r * Wd) ∧ ∀ y ∈ p, -128 ≤ y ∧ y ≤ 127) → ((x.length : Int) = mn * Wd * Wd ∧ ∀ y ∈ x, -128 ≤ y ∧ y ≤ 127) → (1 ≤ q.length ∧ q.length ≤ 64) → (∀ x ∈ q, 0 ≤ x ∧ x ≤ 1000) → (1 ≤ o.length ∧ o.length ≤ 64) → (∀ x ∈ o, 0 ≤ x ∧ x ≤ 1000) → (∃ x0, o[0]? = some x0 ∧ 1 ≤ x0) → GenM ⟨Kd, Vo, Wd, Tp, l 0, em, p, x, ou, q, o⟩) :
    wpM Tryz.prog T (liftM (upM st.length M)) F_gmodel.code.r.r.r.r.r.r.r (GQ st K Kp) fr s := by
  have hend : ∀ (fr : Fr) (s : St) (p x : List Int) (g2 g3 : Bool), GmS st s0 f xs a (a + 2000) mb fr s Kd Vo Wd Tp (upd1 (upd1 c 1 (.lst g2 (ints p))) 4 (.lst g3 (ints x))) → GmO st.length s (upd1 (upd1 c 1 (.lst g2 (ints p))) 4 (.lst g3 (ints x))) (fun j => if j = 4 then x else if j = 1 then p else l j) → fr.g 4 = I mn →
      ((p.length : Int) = Vo * Wd ∧ ∀ y ∈ p, -128 ≤ y ∧ y ≤ 127) → ((x.length : Int) = Vo * Wd ∧ ∀ y ∈ x, -128 ≤ y ∧ y ≤ 127) → wpM Tryz.prog T (liftM (upM st.length M)) F_gmodel.code.r.r.r.r.r.r.r.r (GQ st K Kp) fr s := fun fr s p x g2 g3 q1 q2 q5 q3 q4 =>
    gm_8 hK hM ha q1 q2 (fl := fun i => if i = 1 then g2 else g3) (by simp) (by simp) (by simpa using hl5) q5 hmn hwd fun p' x' q o z1 z2 z3 z4 z5 z6 z7 => by simpa using hgen p x p' x' q o q3 q4 z1 z2 z3 z4 z5 z6 z7
  have e : F_gmodel.code.r.r.r.r.r.r.r = .seq F_gmodel.code.r.r.r.r.r.r.r.l F_gmodel.code.r.r.r.r.r.r.r.r := rfl
  rw [e, wp_mseq]
  generalize wpM Tryz.prog T (liftM (upM st.length M)) F_gmodel.code.r.r.r.r.r.r.r.r (GQ st K Kp) = k12 at hend ⊢
  have hup : upM st.length M s0 = true := upM_of hM
  obtain ⟨a', e1, e2, g⟩ := h.gs
  have hlt := h.lt
  have hmb := h.hmb
  have hmbl : mb < s.length := (List.getElem?_eq_some_iff.1 h.md).1
  have hw2 : 0 ≤ Vo * Wd ∧ Vo * Wd ≤ 80 := ⟨Int.mul_nonneg (by omega) (by omega), Int.mul_le_mul hvo.2 hwd.2 (by omega) (by omega)⟩
  have hr1 : rdW [s0] [(mb, 5)] mb 1 = true := by simp [rdW]; omega
  have hr2 : rdW [s0] [(mb, 5)] mb 2 = true := by simp [rdW]; omega
  have hw6 : inW s.length [s0] [(mb, 5)] (liftM (upM st.length M)) mb 5 = true := by simp [inW, h.up]
  simp only [F_gmodel, MC.l, MC.r]
  refine wp_mtail [s0] [(mb, 5)] ?_
  simp [h.g0, h.g3, h.md, mdl, hr1, hr2, w64 (n := Vo * Wd) (by omega) (by omega)]
  refine sbytes_g g (inW_hd hup) (by omega) (Vo * Wd) (by omega) fun gp p a3 s3 p1 p2 p3 p4 g3 b3 => ?_
  have O3 := hO.but b3 hlt
  have R3 := get_but h.rb b3 (by omega)
  have m3 := get_but h.md b3 (by omega)
  simp
  refine sbytes_g g3 (inW_hd hup) (by omega) (Vo * Wd) (by omega) fun gx x a4 s4 x1 x2 x3 x4 g4 b4 => ?_
  have O4 := O3.but b4 hlt
  have F_gmodel.code.r.r.r.r := get_but R3 b4 (by omega)
  have m4 := get_but m3 b4 (by omega)
  have m5 := get_set m4 (mdl Kd Vo Wd Tp (upd1 c 1 (.lst gp (ints p))))
  simp [m4, mdl, h.up, hw6]
  simp [mdl] at m5
  simp [m5]
  have O5 := ((O4.apart m4 (by decide) (mdl Kd Vo Wd Tp (upd1 (upd1 c 1 (.lst gp (ints p))) 4 (.lst gx (ints x))))).val (i := 1) (by decide) (.lst gp (ints p)) p).val (i := 4) (by decide) (.lst gx (ints x)) x
  refine hend _ _ p x gp gx (h.step (g4.set (by omega) _) (by omega) (by omega) (get_ne F_gmodel.code.r.r.r.r (by omega) _) (get_set m4 (mdl Kd Vo Wd Tp (upd1 (upd1 c 1 (.lst gp (ints p))) 4 (.lst gx (ints x))))) (by simp) (by simp) (by simp) (by simp)) (by simpa [mdl] using O5) (by simp [h4m]) ⟨p1, p2⟩ ⟨x1, x2⟩
/-- what is left of the draw once the cuts are there -/
def GmG (Kd Vo Wd Tp : Int) (cu : List Int) : Prop := ∀ (mn : Int) (em ou p x q o : List Int), (1 ≤ mn ∧ mn ≤ 4 ∧ (Kd = 1 → mn = 3) ∧ (Kd = 2 → mn = 2)) → ((em.length : Int) = Vo * Wd ∧ ∀ y ∈ em, -128 ≤ y ∧ y ≤ 127) → ((ou.length : Int) = Vo * Wd ∧ ∀ y ∈ ou, -128 ≤ y ∧ y ≤ 127) → ((∃ r : Int, 1 ≤ r ∧ r ≤ 16 ∧ (p.length : Int) = r * Wd) ∧ ∀ y ∈ p, -128 ≤ y ∧ y ≤ 127) → ((x.length : Int) = mn * Wd * Wd ∧ ∀ y ∈ x, -128 ≤ y ∧ y ≤ 127) → (1 ≤ q.length ∧ q.length ≤ 64) → (∀ x ∈ q, 0 ≤ x ∧ x ≤ 1000) → (1 ≤ o.length ∧ o.length ≤ 64) → (∀ x ∈ o, 0 ≤ x ∧ x ≤ 1000) → (∃ x0, o[0]? = some x0 ∧ 1 ≤ x0) → GenM ⟨Kd, Vo, Wd, Tp, cu, em, p, x, ou, q, o⟩
set_option maxRecDepth 10000 in
theorem gm_6 (hK : GK st s0 f xs a K) (hM : M s0 = true) (ha : 0 ≤ a ∧ a ≤ 10000000) (h : GmS st s0 f xs a (a + 90) mb fr s Kd Vo Wd Tp c) {l : Nat → List Int} (hO : GmO st.length s c l) (hl5 : l 5 = []) (h4 : fr.g 4 = I 3)
    (_hkd : 1 ≤ Kd ∧ Kd ≤ 3) (hwd : 1 ≤ Wd ∧ Wd ≤ 5) (hvo : 2 ≤ Vo ∧ Vo ≤ 16) (hgen : GmG Kd Vo Wd Tp (l 0)) :
    wpM Tryz.prog T (liftM (upM st.length M)) F_gmodel.code.r.r.r.r.r.r (GQ st K Kp) fr s := by
  have hend : ∀ (fr : Fr) (s : St) (mn : Int), GmS st s0 f xs a (a + 100) mb fr s Kd Vo Wd Tp c → GmO st.length s c l → fr.g 4 = I mn → (1 ≤ mn ∧ mn ≤ 4 ∧ (Kd = 1 → mn = 3) ∧ (Kd = 2 → mn = 2)) → wpM Tryz.prog T (liftM (upM st.length M)) F_gmodel.code.r.r.r.r.r.r.r (GQ st K Kp) fr s := fun fr s mn q1 q2 q3 q4 =>
    gm_7 hK hM ha q1 q2 hl5 q3 ⟨q4.1, q4.2.1⟩ hwd hvo fun em ou p x q o => hgen mn em ou p x q o q4
  have e : F_gmodel.code.r.r.r.r.r.r = .seq F_gmodel.code.r.r.r.r.r.r.l F_gmodel.code.r.r.r.r.r.r.r := rfl
  rw [e, wp_mseq]
  generalize wpM Tryz.prog T (liftM (upM st.length M)) F_gmodel.code.r.r.r.r.r.r.r (GQ st K Kp) = k12 at hend ⊢
  have hup : upM st.length M s0 = true := upM_of hM
  obtain ⟨a', e1, e2, g⟩ := h.gs
  have hlt := h.lt
  have hmb := h.hmb
  by_cases k2 : Kd = 2
  · simp [F_gmodel, MC.l, MC.r, h.g3, h.md, mdl, k2]
    exact hend _ _ 2 (h.step g e1 (by omega) h.rb (by rw [h.md, k2]) (by simp) (by simp) (by simp) (by simp)) hO (by simp) ⟨by omega, by omega, by omega, by omega⟩
  · by_cases k3 : Kd = 3
    · simp [F_gmodel, MC.l, MC.r, h.g3, h.g0, h.md, mdl, k3]
      refine range_g g hup (by omega) 1 4 (by omega) (by omega) (by omega) fun mn s2 y1 y2 g2 b2 => ?_
      exact hend _ _ mn (h.step g2 (by omega) (by omega) (get_but h.rb b2 (by omega)) (get_but h.md b2 (by omega)) (by simp) (by simp) (by simp) (by simp)) (hO.but b2 hlt) (by simp) ⟨by omega, by omega, by omega, by omega⟩
    · simp [F_gmodel, MC.l, MC.r, h.g3, h.md, mdl, show (Kd == 2) = false by simpa using k2, show (Kd == 3) = false by simpa using k3]
      exact hend _ _ 3 (h.step g e1 (by omega) h.rb h.md (by simp) (by simp) (by simp) (by simp)) hO (by simp [h4]) ⟨by omega, by omega, by omega, by omega⟩
set_option maxRecDepth 10000 in
theorem gm_5 (hK : GK st s0 f xs a K) (hM : M s0 = true) (ha : 0 ≤ a ∧ a ≤ 10000000) (h : GmS st s0 f xs a (a + 90) mb fr s Kd Vo Wd Tp c) {l : Nat → List Int} (hO : GmO st.length s c l) (hl5 : l 5 = [])
    (hkd : 1 ≤ Kd ∧ Kd ≤ 3) (hwd : 1 ≤ Wd ∧ Wd ≤ 5) (hvo : 2 ≤ Vo ∧ Vo ≤ 16) (hgen : GmG Kd Vo Wd Tp (l 0)) :
    wpM Tryz.prog T (liftM (upM st.length M)) F_gmodel.code.r.r.r.r.r (GQ st K Kp) fr s := by
  have hend : ∀ (fr : Fr) (s : St), GmS st s0 f xs a (a + 90) mb fr s Kd Vo Wd Tp c → GmO st.length s c l → fr.g 4 = I 3 → wpM Tryz.prog T (liftM (upM st.length M)) F_gmodel.code.r.r.r.r.r.r (GQ st K Kp) fr s := fun fr s q1 q2 q3 =>
    gm_6 hK hM ha q1 q2 hl5 q3 hkd hwd hvo hgen
  have e : F_gmodel.code.r.r.r.r.r = .seq F_gmodel.code.r.r.r.r.r.l F_gmodel.code.r.r.r.r.r.r := rfl
  rw [e, wp_mseq]
  generalize wpM Tryz.prog T (liftM (upM st.length M)) F_gmodel.code.r.r.r.r.r.r (GQ st K Kp) = k12 at hend ⊢
  obtain ⟨a', e1, e2, g⟩ := h.gs
  simp [F_gmodel, MC.l, MC.r]
  exact hend _ _ (h.step g e1 e2 h.rb h.md (by simp) (by simp) (by simp) (by simp)) hO (by simp)
set_option maxRecDepth 10000 in
theorem gm_4 (hK : GK st s0 f xs a K) (hM : M s0 = true) (ha : 0 ≤ a ∧ a ≤ 10000000) (h : GmS st s0 f xs a (a + 10) mb fr s Kd Vo Wd Tp c) {l : Nat → List Int} (hO : GmO st.length s c l) (hl0 : l 0 = []) (hl5 : l 5 = [])
    (hkd : 1 ≤ Kd ∧ Kd ≤ 3) (hwd : 1 ≤ Wd ∧ Wd ≤ 5) (hvo : 2 ≤ Vo ∧ Vo ≤ 16) (htp : 1 ≤ Tp ∧ Tp ≤ Vo) :
    wpM Tryz.prog T (liftM (upM st.length M)) F_gmodel.code.r.r.r.r (GQ st K Kp) fr s := by
  have hend : ∀ (fr : Fr) (s : St) (c : Nat → V) (l' : Nat → List Int), GmS st s0 f xs a (a + 90) mb fr s Kd Vo Wd Tp c → GmO st.length s c l' → l' 5 = [] → ((l' 0).length = 4 ∧ ∀ x ∈ l' 0, 1 ≤ x ∧ x ≤ 15) → wpM Tryz.prog T (liftM (upM st.length M)) F_gmodel.code.r.r.r.r.r (GQ st K Kp) fr s := fun fr s c l' q1 q2 q3 q4 =>
    gm_5 hK hM ha q1 q2 q3 hkd hwd hvo fun mn em ou p x q o z1 z2 z3 z4 z5 z6 z7 z8 z9 z10 => ⟨hkd, hvo, hwd, htp, q4, z2, z4, ⟨⟨mn, z1.1, z1.2.1, z1.2.2.1, z1.2.2.2, z5.1⟩, z5.2⟩, z3, ⟨z6, z7⟩, ⟨z8, z9, z10⟩⟩
  have e : F_gmodel.code.r.r.r.r = .seq F_gmodel.code.r.r.r.r.l F_gmodel.code.r.r.r.r.r := rfl
  rw [e, wp_mseq]
  generalize wpM Tryz.prog T (liftM (upM st.length M)) F_gmodel.code.r.r.r.r.r (GQ st K Kp) = k12 at hend ⊢
  have hup : upM st.length M s0 = true := upM_of hM
  obtain ⟨a', e1, e2, g⟩ := h.gs
  simp [F_gmodel, MC.l, MC.r]
  refine gm_cuts (a := a) (b := a + 10) (l0 := l) (N := 4) (w4 := fr.g 4) (c := c) hM (by omega) (by omega) (by rw [hl0]; simp) rfl ⟨0, c 0, l 0, by omega, by simp, fun x hx => Or.inl hx, fun x hx => hx, h.step g (by omega) (by simp; omega) h.rb (c' := upd1 c 0 (c 0)) (by simpa [mdl] using h.md) (by simp) (by simp) (by simp) (by simp), ?_, by simp, by simp, rfl⟩ ?_
  · exact hO.id 0
  · rintro fr3 s3 ⟨k, v, o, q1, q2, q3, q4, hS, hO3, q5, q6, q7⟩ q8
    simp
    have hkn : k = 4 := by rw [q8] at q5; simp at q5; omega
    refine hend fr3 s3 (upd1 c 0 v) _ (hS.wide (by omega)) hO3 (by simp [hl5]) ⟨?_, ?_⟩
    · have q2' : o.length = 0 + k := by rw [q2, hl0]; rfl
      simp
      omega
    · simp
      intro x hx
      rcases q3 x hx with hx | hx
      · rw [hl0] at hx; simp at hx
      · simp at hx; omega
theorem GmO.nils (n : Nat) (s : St) : GmO n s nils (fun _ => []) := ⟨fun i _ => by simpa [YtadkhechobeccaaGreatDoor.Vm.nils, ints] using OutS.nil _ _ _ _, fun i j _ _ _ b hb => by simp [YtadkhechobeccaaGreatDoor.Vm.nils, ownL] at hb⟩
set_option maxRecDepth 10000 in
theorem gmodel_v (s0 : Nat) (hs : st[s0]? = some (strm f xs a)) (hM : M s0 = true) (src : xs.length ≤ 9223372036854775807 ∧ ∀ x ∈ xs, -9223372036854775808 ≤ x ∧ x ≤ 9223372036854775807) (ha : 0 ≤ a ∧ a ≤ 10000000) (hK : GK st s0 f xs a K) :
    CallV Tryz.prog T M 6 [.ptr s0 1 0 0] st K Kp := by
  have hlt : s0 < st.length := (List.getElem?_eq_some_iff.1 hs).1
  have hup : upM st.length M s0 = true := upM_of hM
  have g00 : GS st.length s0 st st f xs a := ⟨Same.refl (Nat.le_refl _), hs, hlt, src⟩
  have hend : ∀ (fr : Fr) (s : St) (mb : Nat) (Kd Vo Wd Tp : Int), GmS st s0 f xs a (a + 10) mb fr s Kd Vo Wd Tp nils → (1 ≤ Kd ∧ Kd ≤ 3) → (1 ≤ Wd ∧ Wd ≤ 5) → (2 ≤ Vo ∧ Vo ≤ 16) → (1 ≤ Tp ∧ Tp ≤ Vo) → wpM Tryz.prog T (liftM (upM st.length M)) F_gmodel.code.r.r.r.r (GQ st K Kp) fr s := fun fr s mb Kd Vo Wd Tp q1 q2 q3 q4 q5 =>
    gm_4 hK hM ha q1 (GmO.nils _ _) rfl rfl q2 q3 q4 q5
  refine CallV.give (fun_ok hmix c_gmodel (le_of rfl) ?_)
  have e : F_gmodel.code = .seq F_gmodel.code.l (.seq F_gmodel.code.r.l (.seq F_gmodel.code.r.r.l (.seq F_gmodel.code.r.r.r.l F_gmodel.code.r.r.r.r))) := rfl
  rw [show Fin F_gmodel.res (fun v st' => ∃ v', Frz st.length st' v v' ∧ LowSt st st' ∧ K v' (st'.take st.length)) (fun c st' => LowSt st st' ∧ Kp c (st'.take st.length)) = GQ st K Kp from rfl]
  generalize F_gmodel.code.r.r.r.r = c4 at hend e
  rw [e]
  simp [F_gmodel, MC.l, MC.r]
  have R0 : (st ++ [mdl 0 0 0 0 nils])[st.length]? = some (mdl 0 0 0 0 nils) := by simp
  refine range_g (g00.more _) hup (by omega) 1 3 (by omega) (by omega) (by omega) fun kd s1 k1 k2 g1 b1 => ?_
  have R1 := get_but R0 b1 (by omega)
  simp
  have e1 : (s1 ++ [Blk.row 3 1 [I 2, I 3, I 5, I 8, I 16]])[s1.length]? = some (.row 3 1 (ints [2, 3, 5, 8, 16])) := by simp [ints]
  refine pick_g (g1.more _) hup (by omega) e1 (Nat.ne_of_gt (Nat.lt_of_lt_of_le hlt g1.same.len)) rfl (by simp) fun vo s2 hvo g2 b2 => ?_
  have R2 := get_but (get_more R1 _) b2 (by omega)
  simp
  have e2 : (s2 ++ [Blk.row 3 1 [I 1, I 2, I 3, I 4, I 5]])[s2.length]? = some (.row 3 1 (ints [1, 2, 3, 4, 5])) := by simp [ints]
  refine pick_g (g2.more _) hup (by omega) e2 (Nat.ne_of_gt (Nat.lt_of_lt_of_le hlt g2.same.len)) rfl (by simp) fun wd s3 hwd g3 b3 => ?_
  have R3 := get_but (get_more R2 _) b3 (by omega)
  have hvo' : 2 ≤ vo ∧ vo ≤ 16 := by simp at hvo; omega
  have hwd' : 1 ≤ wd ∧ wd ≤ 5 := by simp at hwd; omega
  simp [g3.up]
  have m3 : (s3 ++ [mdl kd vo wd 0 nils])[s3.length]? = some (mdl kd vo wd 0 nils) := by simp
  obtain ⟨mb, hmb⟩ : ∃ mb, s3.length = mb := ⟨_, rfl⟩
  have hmn : st.length < mb := by have := (List.getElem?_eq_some_iff.1 R3).1; omega
  have hmu : upM st.length M mb = true := by simp [upM]; omega
  simp only [mdl, nils] at m3
  rw [hmb] at m3 ⊢
  refine range_g (g3.more _) hup (by omega) 1 vo (by omega) (by omega) (by omega) fun tp s4 t1 t2 g4 b4 => ?_
  have m4 := get_but m3 b4 (by omega)
  have rr4 := get_but (get_more R3 _) b4 (by omega)
  simp [m4]
  have m5 : (s4.set mb (mdl kd vo wd tp nils))[mb]? = some (mdl kd vo wd tp nils) := get_set m4 _
  have g5 := g4.set (b := mb) (by omega) (mdl kd vo wd tp nils)
  have rr5 := get_ne rr4 (show mb ≠ st.length by omega) (mdl kd vo wd tp nils)
  refine flip_g g5 hup (by omega) 2 (by omega) fun b s6 g6 b6 => ?_
  have m6 := get_but m5 b6 (by omega)
  have rr6 := get_but rr5 b6 (by omega)
  cases b with
  | false =>
    simp
    exact hend _ _ mb kd vo wd tp ⟨⟨_, by omega, by omega, g6⟩, rr6, m6, hmn, by simp, by simp, by simp, by simp⟩ ⟨k1, k2⟩ hwd' hvo' ⟨t1, t2⟩
  | true =>
    simp only [mdl, nils] at m6
    simp [m6]
    have m7 : (s6.set mb (mdl kd vo wd vo nils))[mb]? = some (mdl kd vo wd vo nils) := get_set m6 _
    have g7 := g6.set (b := mb) (by omega) (mdl kd vo wd vo nils)
    have rr7 := get_ne rr6 (show mb ≠ st.length by omega) (mdl kd vo wd vo nils)
    exact hend _ _ mb kd vo wd vo ⟨⟨_, by omega, by omega, g7⟩, rr7, m7, hmn, by simp, by simp, by simp, by simp⟩ ⟨k1, k2⟩ hwd' hvo' (by omega)
end
/-- bounds of a model -/
structure LB (B : Int) (n : Nat) (m : LModel) : Prop where
  sc : ∀ x ∈ [m.kind, m.vocab, m.width, m.top], -B ≤ x ∧ x ≤ B
  ls : ∀ l ∈ [m.cuts, m.embed, m.place, m.mix, m.out, m.soft, m.odds], l.length ≤ n ∧ ∀ x ∈ l, -B ≤ x ∧ x ≤ B
def mls (m : LModel) : Nat → List Int
  | 0 => m.cuts
  | 1 => m.embed
  | 2 => m.place
  | 3 => m.mix
  | 4 => m.out
  | 5 => m.soft
  | _ => m.odds
end Go.Proofs.YtadkhechobeccaaGreatDoor.Vm
namespace Go.Proofs.YtadkhechobeccaaGreatDoor.Vm
open Go.RowKit
/-- the first n values of a function -/
def mapR (n : Nat) (g : Nat → Int) : List Int := (List.range n).map g
@[simp] theorem mapR_len (n : Nat) (g : Nat → Int) : (mapR n g).length = n := by simp [mapR]
theorem mapR_succ (n : Nat) (g : Nat → Int) : mapR (n + 1) g = mapR n g ++ [g n] := by simp [mapR, List.range_succ]
theorem mapR_get {n : Nat} {g : Nat → Int} {k : Nat} (h : k < n) : (mapR n g)[k]? = some (g k) := by simp [mapR, h]
def gI (l : List Int) (k : Nat) : Int := (l[k]?).getD 0
theorem gI_of {l : List Int} {k : Nat} {x : Int} (h : l[k]? = some x) : gI l k = x := by simp [gI, h]
theorem gI_mem {l : List Int} {k : Nat} {lo hi : Int} (h : ∀ x ∈ l, lo ≤ x ∧ x ≤ hi) (hk : k < l.length) : lo ≤ gI l k ∧ gI l k ≤ hi := by
  rw [gI_of (List.getElem?_eq_getElem hk)]
  exact h _ (List.getElem_mem hk)
end Go.Proofs.YtadkhechobeccaaGreatDoor.Vm
namespace Go.Proofs.YtadkhechobeccaaGreatDoor.Vm
open Go.RowKit
section
variable {T : Tbl} {M : Nat → Bool} {st : St} {K : V → St → Prop} {Kp : List PanicEntry → St → Prop}
theorem pow_rng {k : Nat} (hk : k ≤ 15) : 1 ≤ (2 : Int) ^ k ∧ (2 : Int) ^ k ≤ 32768 := by
  rcases (show k = 0 ∨ k = 1 ∨ k = 2 ∨ k = 3 ∨ k = 4 ∨ k = 5 ∨ k = 6 ∨ k = 7 ∨ k = 8 ∨ k = 9 ∨ k = 10 ∨ k = 11 ∨ k = 12 ∨ k = 13 ∨ k = 14 ∨ k = 15 by omega) with e | e | e | e | e | e | e | e | e | e | e | e | e | e | e | e <;> rw [e] <;> decide
theorem within_v (n lo hi : Int) (hK : K (Bo (inB lo hi n)) st) : CallV Tryz.prog T M 56 [I n, I lo, I hi] st K Kp := by
  refine fun_ok hmix c_within (le_of rfl) ?_
  by_cases h : lo ≤ n <;> simp [F_within, h]
  · simpa [inB, h] using hK
  · simpa [inB, h] using hK
end
end Go.Proofs.YtadkhechobeccaaGreatDoor.Vm
namespace Go.Proofs.YtadkhechobeccaaGreatDoor.Vm
open Go.RowKit
/-- v reads as the ints l -/
def Rd (st : St) (v : V) (l : List Int) : Prop := (∃ f, v = .lst f (ints l)) ∨ ∃ b t, v = .own b l.length 0 l.length ∧ st[b]? = some (.row t 1 (ints l))
theorem Rd.lst (st : St) (f : Bool) (l : List Int) : Rd st (.lst f (ints l)) l := Or.inl ⟨f, rfl⟩
theorem Rd.of_out {n t : Nat} {st : St} {v : V} {l : List Int} (h : OutS n t 1 st v (ints l)) : Rd st v l := by
  rcases h with ⟨h1, rfl⟩ | ⟨b, h1, h2, rfl⟩
  · have : l = [] := by simpa [ints] using h1
    subst this
    exact Or.inl ⟨true, rfl⟩
  · rw [ints_len]
    exact Or.inr ⟨b, t, rfl, h2⟩
theorem Rd.more {st : St} {v : V} {l : List Int} (h : Rd st v l) (e : St) : Rd (st ++ e) v l := by
  rcases h with h | ⟨b, t, h1, h2⟩
  · exact Or.inl h
  · exact Or.inr ⟨b, t, h1, get_more h2 e⟩
theorem Rd.keep {st st' : St} {v : V} {l : List Int} (h : Rd st v l) (hk : ∀ b ∈ ownL v, st'[b]? = st[b]?) : Rd st' v l := by
  rcases h with h | ⟨b, t, rfl, h2⟩
  · exact Or.inl h
  · exact Or.inr ⟨b, t, rfl, (hk b (by simp [ownL])).trans h2⟩
theorem Rd.len {st : St} {v : V} {l : List Int} (h : Rd st v l) : lenV st v = some (I (l.length : Int)) := by
  rcases h with ⟨f, rfl⟩ | ⟨b, t, rfl, h2⟩
  · simp
  · simp [h2]
theorem Rd.el {st : St} {v : V} {l : List Int} (h : Rd st v l) {k : Nat} {x : Int} (hx : l[k]? = some x) : ∃ p, elemAt 1 st (k : Int) v = some p ∧ (∀ rd : Nat → Nat → Bool, (∀ b j, rd b j = true) → mLoad rd false 1 st p = some (I x)) := by
  have hi := ints_get hx
  rcases h with ⟨f, rfl⟩ | ⟨b, t, rfl, h2⟩
  · exact ⟨.cref (I x) 0, by simp [hi], fun rd _ => by simp⟩
  · have hk : k < l.length := (List.getElem?_eq_some_iff.1 hx).1
    exact ⟨.ptr b l.length k 0, by simp [h2, hk], fun rd hrd => by simp [h2, hi, rdOk_of (hrd b), hrd]⟩
theorem Rd.rdl {st : St} {v : V} {l : List Int} (h : Rd st v l) : rdl st v = some (ints l) := by
  rcases h with ⟨f, rfl⟩ | ⟨b, t, rfl, h2⟩
  · simp
  · simp [h2]; exact List.take_of_length_le (by simp [ints])
section
variable {T : Tbl} {M : Nat → Bool} {st : St} {K : V → St → Prop} {Kp : List PanicEntry → St → Prop}
theorem equal_r {va vb : V} {a b : List Int} (ra : Rd st va a) (rb : Rd st vb b) (hl : a.length ≤ 1000000000) (hK : K (Bo (decide (a = b))) st) : CallV Tryz.prog T M 13 [va, vb] st K Kp := by
  refine fun_ok hmix c_equalI (le_of rfl) ?_
  by_cases hab : a.length = b.length
  · have hn : ((a.length : Int) != (b.length : Int)) = false := by simp [hab]
    simp [F_equalI, ra.len, rb.len, hab]
    refine wp_mloop (fun fr s => ∃ k : Nat, k ≤ a.length ∧ s = st ∧ fr.df = [] ∧ fr.g 0 = va ∧ fr.g 1 = vb ∧ fr.g 12 = I a.length ∧ fr.g 13 = I k ∧ ∀ j, j < k → a[j]? = b[j]?) (fun fr _ => a.length - nat (fr.g 13)) ⟨0, by simp [hab]⟩ ?_
    rintro fr s ⟨k, hk, rfl, hdf, g0, g1, g12, g13, hj⟩
    by_cases hlt : k < a.length
    · have ha := List.getElem?_eq_getElem hlt
      have hb := List.getElem?_eq_getElem (show k < b.length by omega)
      obtain ⟨p, p1, p2⟩ := ra.el ha
      obtain ⟨q, q1, q2⟩ := rb.el hb
      generalize hu : a[k] = u at *
      generalize hv : b[k] = v at *
      simp [g12, g13, hlt]
      refine wp_mflat [] [] ?_
      simp [g0, g1, g13, p1, p2, q1, q2]
      by_cases he : u = v
      · simp [he, g12, hdf, w64 (n := (k : Int) + 1) (by omega) (by omega)]
        refine ⟨⟨k + 1, by omega, by omega, fun j hj2 => ?_⟩, by omega⟩
        rcases Nat.lt_or_ge j k with h | h
        · exact hj j h
        · obtain rfl : j = k := by omega
          rw [ha, hb, he]
      · have hne : a ≠ b := fun e => he (by rw [e] at ha; rw [ha] at hb; exact Option.some.inj hb)
        rw [decide_eq_false hne] at hK
        have hb1 : (u != v) = true := by simp [he]
        simp [hb1, hdf]
        exact hK
    · obtain rfl : k = a.length := by omega
      have heq : a = b := List.ext_getElem? fun i => by
        by_cases hi : i < a.length
        · exact hj i hi
        · rw [List.getElem?_eq_none (by omega), List.getElem?_eq_none (by omega)]
      rw [decide_eq_true heq] at hK
      simp [g12, g13, hdf]
      exact hK
  · have hne : a ≠ b := fun e => hab (by rw [e])
    rw [decide_eq_false hne] at hK
    have hb1 : ((a.length : Int) != (b.length : Int)) = true := by simp; omega
    simp [F_equalI, ra.len, rb.len, hb1]
    exact hK
end
end Go.Proofs.YtadkhechobeccaaGreatDoor.Vm
namespace Go.Proofs.YtadkhechobeccaaGreatDoor.Vm
open Go.RowKit
section
variable {T : Tbl} {M : Nat → Bool} {st : St} {K : V → St → Prop} {Kp : List PanicEntry → St → Prop}
theorem ints_get' {l : List Int} {k : Nat} {x : Int} (h : l[k]? = some x) (hk : k < (ints l).length) : (ints l)[k] = I x := by
  have := ints_get h
  rw [List.getElem?_eq_getElem hk] at this
  exact Option.some.inj this
theorem ints_set (l : List Int) (k : Nat) (x : Int) : (ints l).set k (I x) = ints (l.set k x) := by simp [ints, List.map_set]
/-- what was there still is as it was -/
structure Keep0 (s0 s : St) : Prop where
  len : s0.length ≤ s.length
  get : ∀ b, b < s0.length → s[b]? = s0[b]?
theorem Keep0.refl (s : St) : Keep0 s s := ⟨Nat.le_refl _, fun _ _ => rfl⟩
theorem Keep0.at_ {s0 s : St} (h : Keep0 s0 s) {b : Nat} {x : Blk} (hx : s0[b]? = some x) : s[b]? = some x := (h.get b (List.getElem?_eq_some_iff.1 hx).1).trans hx
theorem Keep0.more {s0 s : St} (h : Keep0 s0 s) (e : St) : Keep0 s0 (s ++ e) := ⟨by have := h.len; simp; omega, fun b hb => by rw [List.getElem?_append_left (Nat.lt_of_lt_of_le hb h.len)]; exact h.get b hb⟩
theorem Keep0.trans {s0 s s1 : St} (h : Keep0 s0 s) (hl : s.length ≤ s1.length) (hg : ∀ b, b < s0.length → s1[b]? = s[b]?) : Keep0 s0 s1 := ⟨Nat.le_trans h.len hl, fun b hb => (hg b hb).trans (h.get b hb)⟩
theorem Keep0.rd {s0 s : St} (h : Keep0 s0 s) {v : V} {l : List Int} (hr : Rd s0 v l) : Rd s v l := by
  rcases hr with h1 | ⟨b, t, h1, h2⟩
  · exact Or.inl h1
  · exact Or.inr ⟨b, t, h1, h.at_ h2⟩
theorem Keep0.low {st e s : St} (h : Keep0 (st ++ e) s) : LowSt st s := fun b hb => Or.inl (by rw [h.get b (by simp; omega), List.getElem?_append_left hb])
theorem Keep0.take {st e s : St} (h : Keep0 (st ++ e) s) : s.take st.length = st := by
  apply List.ext_getElem?
  intro i
  by_cases hi : i < st.length
  · rw [List.getElem?_take_of_lt hi, h.get i (by simp; omega), List.getElem?_append_left hi]
  · rw [List.getElem?_eq_none (by simp; omega), List.getElem?_eq_none (by omega)]
/-- one more element -/
theorem app_one {M2 : Nat → Nat → Bool} {s0 s : St} {v : V} {l : List Int} {x : Int} {k2 : V → St → Prop} (h : OutS s0.length 3 1 s v (ints l)) (hk : Keep0 s0 s) (hM : ∀ b ∈ ownL v, ∀ j, M2 b j = true) (hl : l.length ≤ 1000000)
    (hK : ∀ v' s', OutS s0.length 3 1 s' v' (ints (l ++ [x])) → Keep0 s0 s' → k2 v' s') : obind2 (mApp M2 3 1 8 (s ++ [.row 3 1 [I x]]) v (.own s.length 1 0 1)) k2 := by
  refine app_out (h.more _) (by have := hk.len; simp; omega) (news := [I x]) (by simp) (by simp) (Or.inl (by simp)) (fun b L _ e j => hM b (by rw [e]; simp [ownL]) j) (by simp; omega) (by simp; omega) fun v' s' o hl' hb' _ _ => ?_
  exact hK v' s' (by rw [ints_append]; exact o) ((hk.more _).trans hl' hb')
theorem OutS.down {n n' t k : Nat} {s : St} {v : V} {l : List V} (h : OutS n t k s v l) (hn : n' ≤ n) : OutS n' t k s v l := by
  rcases h with h | ⟨b, h1, h2, h3⟩
  · exact Or.inl h
  · exact Or.inr ⟨b, Nat.le_trans hn h1, h2, h3⟩
end
end Go.Proofs.YtadkhechobeccaaGreatDoor.Vm
namespace Go.Proofs.YtadkhechobeccaaGreatDoor.Vm
open Go.RowKit
end Go.Proofs.YtadkhechobeccaaGreatDoor.Vm
namespace Go.Proofs.YtadkhechobeccaaGreatDoor.Vm
open Go.RowKit
/-- vs are entries es, each of L numbers -/
structure EsV (vs : List V) (es : List (List Int)) (L : Nat) : Prop where
  len : vs.length = es.length
  get : ∀ (i : Nat) (e : List Int), es[i]? = some e → ∃ g, vs[i]? = some (V.lst g (ints e))
  each : ∀ e ∈ es, e.length = L
  n1 : 1 ≤ es.length ∧ es.length ≤ 64
theorem EsV.one {vs : List V} {es : List (List Int)} {L : Nat} (h : EsV vs es L) : ∀ x ∈ vs, x.cells.length = 1 := fun x hx => by
  obtain ⟨i, hi⟩ := List.getElem?_of_mem hx
  have hlt : i < es.length := by rw [← h.len]; exact (List.getElem?_eq_some_iff.1 hi).1
  obtain ⟨g, hg⟩ := h.get i _ (List.getElem?_eq_getElem hlt)
  rw [hi] at hg
  cases hg
  rfl
def gE (es : List (List Int)) (i : Nat) : List Int := (es[i]?).getD []
theorem gE_of {es : List (List Int)} {i : Nat} (h : i < es.length) : es[i]? = some (gE es i) := by rw [gE, List.getElem?_eq_getElem h]; rfl
theorem EsV.at_ {vs : List V} {es : List (List Int)} {L i : Nat} (h : EsV vs es L) (hi : i < es.length) : ∃ g, vs[i]? = some (V.lst g (ints (gE es i))) := h.get i _ (gE_of hi)
/-- the greatest of the first k + 1 -/
def mxK (l : List Int) : Nat → Int
  | 0 => gI l 0
  | k + 1 => max (mxK l k) (gI l (k + 1))
end Go.Proofs.YtadkhechobeccaaGreatDoor.Vm
namespace Go.Proofs.YtadkhechobeccaaGreatDoor.Vm
open Go.RowKit
theorem rep_ints (w : Nat) : List.replicate w (I 0) = ints (mapR w fun _ => 0) := by
  apply List.ext_getElem?
  intro i
  by_cases h : i < w
  · rw [ints_get (mapR_get h)]; simp [h]
  · rw [List.getElem?_eq_none (by simp; omega), List.getElem?_eq_none (by simp; omega)]
end Go.Proofs.YtadkhechobeccaaGreatDoor.Vm
namespace Go.Proofs.YtadkhechobeccaaGreatDoor.Vm
open Go.RowKit
theorem ints_take (l : List Int) (n : Nat) : List.take n (ints l) = ints (l.take n) := by simp [ints, List.map_take]
section
variable {T : Tbl} {M : Nat → Bool} {st : St} {K : V → St → Prop} {Kp : List PanicEntry → St → Prop}
theorem max_v {v : V} {l : List Int} (rl : Rd st v l) (h1 : 1 ≤ l.length) (h2 : l.length ≤ 1000000) (hK : K (I (mxK l (l.length - 1))) st) : CallV Tryz.prog T M 37 [v] st K Kp := by
  refine fun_ok hmix c_maxI (le_of rfl) ?_
  obtain ⟨p, p1, p2⟩ := rl.el (List.getElem?_eq_getElem (show 0 < l.length by omega))
  have h0 : mxK l 0 = l[0] := gI_of (List.getElem?_eq_getElem (show 0 < l.length by omega))
  have hz : ((0 : Nat) : Int) = 0 := rfl
  rw [hz] at p1
  simp [F_maxI, rl.len, show ¬ (l.length : Int) < 1 by omega, p1, p2]
  refine wp_mloop (fun fr s => ∃ k : Nat, k < l.length ∧ s = st ∧ fr.df = [] ∧ fr.g 0 = v ∧ fr.g 3 = I (mxK l k) ∧ fr.g 4 = I ((k : Int) + 1)) (fun fr _ => l.length - nat (fr.g 4))
    ⟨0, by omega, rfl, by simp, by simp, by simp [h0], by simp⟩ ?_
  rintro fr s ⟨k, hk, rfl, hdf, z0, z3, z4⟩
  by_cases hlt : k + 1 < l.length
  · obtain ⟨q, q1, q2⟩ := rl.el (List.getElem?_eq_getElem hlt)
    have hc : ((k + 1 : Nat) : Int) = (k : Int) + 1 := by push_cast; rfl
    rw [hc] at q1
    simp [z0, z3, z4, rl.len, show (k : Int) + 1 < (l.length : Int) by omega, q1, q2, w64 (n := (k : Int) + 1 + 1) (by omega) (by omega)]
    have hm : mxK l (k + 1) = max (mxK l k) l[k + 1] := by
      show max (mxK l k) (gI l (k + 1)) = _
      rw [gI_of (List.getElem?_eq_getElem hlt)]
    exact ⟨⟨k + 1, hlt, hdf, hm.symm, by push_cast; rfl⟩, by omega⟩
  · have : k = l.length - 1 := by omega
    subst this
    simp [z0, z3, z4, rl.len, show ¬ ((l.length - 1 : Nat) : Int) + 1 < (l.length : Int) by omega, hdf]
    exact hK
end
end Go.Proofs.YtadkhechobeccaaGreatDoor.Vm
namespace Go.Proofs.YtadkhechobeccaaGreatDoor.Vm
open Go.RowKit
end Go.Proofs.YtadkhechobeccaaGreatDoor.Vm
namespace Go.Proofs.YtadkhechobeccaaGreatDoor.Vm
open Go.RowKit
end Go.Proofs.YtadkhechobeccaaGreatDoor.Vm
namespace Go.Proofs.YtadkhechobeccaaGreatDoor.Vm
open Go.RowKit
end Go.Proofs.YtadkhechobeccaaGreatDoor.Vm
namespace Go.Proofs.YtadkhechobeccaaGreatDoor.Vm
open Go.RowKit
section
variable {T : Tbl} {M : Nat → Bool} {st : St} {K : V → St → Prop} {Kp : List PanicEntry → St → Prop}
theorem index_v {v : V} {l : List Int} (rl : Rd st v l) (hl : l.length ≤ 1000000) {F : Nat} {caps : List V} {p : Int → Bool} (hF : ∀ (M : Nat → Bool) (n : Int) (K : V → St → Prop) (Kp : List PanicEntry → St → Prop), K (Bo (p n)) st → CallV Tryz.prog T M F (I n :: caps) st K Kp) (hK : ∀ r : Int, decide (0 ≤ r) = l.any p → K (I r) st) : CallV Tryz.prog T M 55 [v, .fn F caps] st K Kp := by
  refine fun_ok hmix c_indexI (le_of rfl) ?_
  simp [F_indexI, rl.len]
  refine wp_mloop (fun fr s => ∃ k : Nat, k ≤ l.length ∧ s = st ∧ fr.df = [] ∧ fr.g 0 = v ∧ fr.g 1 = .fn F caps ∧ fr.g 7 = I l.length ∧ fr.g 8 = I k ∧ (l.take k).any p = false) (fun fr _ => l.length - nat (fr.g 8)) ⟨0, by simp⟩ ?_
  rintro fr s ⟨k, hk, rfl, hdf, g0, g1, g7, g8, hj⟩
  by_cases hlt : k < l.length
  · have ha := List.getElem?_eq_getElem hlt
    obtain ⟨q, q1, q2⟩ := rl.el ha
    simp [g7, g8, hlt]
    simp [g0, g1, q1, q2]
    refine ⟨_, _, ⟨rfl, rfl⟩, ?_⟩
    refine hF _ _ _ _ ?_
    have ht : l.take (k + 1) = l.take k ++ [l[k]] := by rw [List.take_add_one, ha]; rfl
    cases hp : p l[k] with
    | true =>
      simp [hdf]
      refine hK k ?_
      have : l.any p = true := List.any_eq_true.2 ⟨l[k], List.getElem_mem hlt, hp⟩
      rw [this]
      simp
    | false =>
      have hw1 : IntKind.i64.wrap ((k : Int) + 1) = ((k + 1 : Nat) : Int) := by rw [w64 (n := (k : Int) + 1) (by omega) (by omega)]; push_cast; rfl
      simp [hw1, -Int.natCast_add]
      refine ⟨⟨k + 1, hlt, hdf, rfl, fun x hx => ?_⟩, by omega⟩
      rw [ht] at hx
      rcases List.mem_append.1 hx with h | h
      · simpa using List.any_eq_false.1 hj x h
      · simp at h; subst h; exact hp
  · obtain rfl : k = l.length := by omega
    simp [g7, g8, hdf]
    rw [List.take_length] at hj
    exact hK (-1) (by rw [hj]; rfl)
theorem contains_v {v : V} {l : List Int} (rl : Rd st v l) (hl : l.length ≤ 1000000) {F : Nat} {caps : List V} {p : Int → Bool} (hF : ∀ (M : Nat → Bool) (n : Int) (K : V → St → Prop) (Kp : List PanicEntry → St → Prop), K (Bo (p n)) st → CallV Tryz.prog T M F (I n :: caps) st K Kp) (hK : K (Bo (l.any p)) st) : CallV Tryz.prog T M 24 [v, .fn F caps] st K Kp := by
  refine fun_ok hmix c_containsI (le_of rfl) ?_
  simp [F_containsI]
  refine index_v rl hl hF fun r hr => ?_
  simp [hr]
  exact hK
theorem all1_v (n lo hi : Int) {b1 b2 t1 t2 : Nat} (h1 : st[b1]? = some (.row t1 1 [I lo])) (h2 : st[b2]? = some (.row t2 1 [I hi])) (hK : K (Bo (!inB lo hi n)) st) : CallV Tryz.prog T M 64 [I n, .ptr b1 1 0 0, .ptr b2 1 0 0] st K Kp := by
  refine fun_ok hmix c_mall1 (le_of rfl) ?_
  simp [F_mall1, h1, h2]
  refine within_v _ _ _ ?_
  simpa using hK
theorem all_v {v : V} {l : List Int} (rl : Rd st v l) (hl : l.length ≤ 1000000) (lo hi : Int) (hK : K (Bo (l.all (inB lo hi))) st) : CallV Tryz.prog T M 31 [v, I lo, I hi] st K Kp := by
  refine CallV.give (fun_ok hmix c_mall (le_of rfl) ?_)
  simp [F_mall]
  refine contains_v (rl.more _) hl (p := fun n => !inB lo hi n) (fun M n K Kp h => all1_v n lo hi (t1 := 3) (t2 := 3) (by simp) (by simp) h) ?_
  simp
  have e : (l.any fun n => !inB lo hi n) = !l.all (inB lo hi) := by rw [List.all_eq_not_any_not]; simp
  exact ⟨_, .same _ rfl, Keep0.low (Keep0.refl _), by simpa [e] using hK⟩
end
end Go.Proofs.YtadkhechobeccaaGreatDoor.Vm
namespace Go.Proofs.YtadkhechobeccaaGreatDoor.Vm
open Go.RowKit
/-- number x stands ahead of number y -/
def bef (sc : List Int) (x y : Int) : Prop := gI sc y.toNat < gI sc x.toNat ∨ (gI sc x.toNat = gI sc y.toNat ∧ x < y)
theorem bef_irrefl (sc : List Int) (x : Int) : ¬ bef sc x x := fun h => by unfold bef at h; omega
theorem bef_trans {sc : List Int} {x y z : Int} (h : bef sc x y) (k : bef sc y z) : bef sc x z := by unfold bef at *; omega
def Ord (sc : List Int) (l : List Int) : Prop := l.Pairwise (bef sc)
theorem ord_unique {sc : List Int} : ∀ {l l' : List Int}, l.Perm l' → Ord sc l → Ord sc l' → l = l'
  | [], _, h, _, _ => (List.nil_perm.1 h).symm
  | x :: l, [], h, _, _ => absurd h.length_eq (by simp)
  | x :: l, y :: l', h, h1, h2 => by
    obtain ⟨a1, a2⟩ := List.pairwise_cons.1 h1
    obtain ⟨b1, b2⟩ := List.pairwise_cons.1 h2
    by_cases e : x = y
    · subst e
      rw [ord_unique (List.Perm.cons_inv h) a2 b2]
    · have hy : y ∈ l := by
        rcases List.mem_cons.1 (h.symm.subset List.mem_cons_self) with hh | hh
        · exact absurd hh.symm e
        · exact hh
      have hx : x ∈ l' := by
        rcases List.mem_cons.1 (h.subset List.mem_cons_self) with hh | hh
        · exact absurd hh e
        · exact hh
      exact absurd (bef_trans (a1 y hy) (b1 x hx)) (bef_irrefl sc x)
/-- the numbers from 0 to n - 1 -/
def idxs (n : Nat) : List Int := mapR n fun i => ((i : Nat) : Int)
theorem idxs_succ (n : Nat) : idxs (n + 1) = idxs n ++ [(n : Int)] := mapR_succ n _
@[simp] theorem idxs_len (n : Nat) : (idxs n).length = n := by simp [idxs]
theorem idxs_mem {n : Nat} {x : Int} : x ∈ idxs n ↔ 0 ≤ x ∧ x < n := by
  simp only [idxs, mapR, List.mem_map, List.mem_range]
  constructor
  · rintro ⟨i, hi, rfl⟩; omega
  · rintro ⟨h1, h2⟩; exact ⟨x.toNat, by omega, by omega⟩
/-- l is the rank of n scores -/
structure IsRank (sc : List Int) (n : Nat) (l : List Int) : Prop where
  ord : Ord sc l
  perm : l.Perm (idxs n)
theorem IsRank.unique {sc : List Int} {n : Nat} {l l' : List Int} (h : IsRank sc n l) (h' : IsRank sc n l') : l = l' := ord_unique (h.perm.trans h'.perm.symm) h.ord h'.ord
theorem IsRank.len {sc : List Int} {n : Nat} {l : List Int} (h : IsRank sc n l) : l.length = n := by rw [h.perm.length_eq, idxs_len]
theorem IsRank.rng {sc : List Int} {n : Nat} {l : List Int} (h : IsRank sc n l) : ∀ x ∈ l, 0 ≤ x ∧ x < n := fun _x hx => idxs_mem.1 (h.perm.subset hx)
end Go.Proofs.YtadkhechobeccaaGreatDoor.Vm
namespace Go.Proofs.YtadkhechobeccaaGreatDoor.Vm
open Go.RowKit Go.Sort
section
variable {m : Nat}
/-- what the reference's compare answers -/
def refC (sc : List Int) (x y : _root_.Fin (m + 1)) : Int := orV (cmpV (gI sc y.val) (gI sc x.val)) ((x.val : Int) - y.val)
/-- what the program's compare answers -/
def proC (sc : List Int) (x y : _root_.Fin (m + 1)) : Int := cmpV (gI sc y.val) (gI sc x.val)
def encN (x : _root_.Fin (m + 1)) : Value := .int .i64 (x.val : Int)
def row0 (m : Nat) : Array (_root_.Fin (m + 1)) := Array.ofFn fun i => i
theorem lt_ref (sc : List Int) (x y : _root_.Fin (m + 1)) : ltOf (refC sc) x y = decide (gI sc y.val < gI sc x.val ∨ (gI sc x.val = gI sc y.val ∧ x.val < y.val)) := by
  unfold ltOf refC orV cmpV
  refine decide_eq_decide.2 ?_
  repeat' split
  all_goals omega
theorem lt_pro (sc : List Int) (x y : _root_.Fin (m + 1)) : ltOf (proC sc) x y = decide (gI sc y.val < gI sc x.val) := by
  unfold ltOf proC cmpV
  refine decide_eq_decide.2 ?_
  repeat' split
  all_goals omega
theorem swo_ref (sc : List Int) : SWO (ltOf (refC (m := m) sc)) where
  irrefl x := by rw [lt_ref, decide_eq_false_iff_not]; omega
  trans x y z := by simp only [lt_ref, decide_eq_true_eq]; omega
  ntrans x y z := by simp only [lt_ref, decide_eq_false_iff_not]; omega
theorem row0_size : (row0 m).size = m + 1 := by simp [row0]
theorem row0_nums : (row0 m).toList.map (fun i => (i.val : Int)) = idxs (m + 1) := by
  refine List.ext_getElem (by simp [row0]) fun i h1 h2 => ?_
  rw [List.getElem_map, Array.getElem_toList]
  simp only [row0, idxs, mapR, Array.getElem_ofFn, List.getElem_map, List.getElem_range]
theorem idxs_nodup (n : Nat) : (idxs n).Nodup := by
  unfold idxs mapR
  exact List.pairwise_map.2 (List.Pairwise.imp (fun h => by omega) (List.nodup_range (n := n)))
/-- a sorted row of numbers is the rank -/
theorem rank_of {sc : List Int} {d' : Array (_root_.Fin (m + 1))} (hP : PermIn 0 (m + 1) (row0 m) d') (hS : SortedIn (ltOf (refC sc)) 0 (m + 1) d') : IsRank sc (m + 1) (d'.toList.map fun i => (i.val : Int)) := by
  obtain ⟨h1, -, h2⟩ := hP
  have hs : d'.size = m + 1 := h1.trans row0_size
  rw [Array.extract_eq_self_of_le (by omega), Array.extract_eq_self_of_le (by rw [row0_size]; omega)] at h2
  have hp : (d'.toList.map fun i => (i.val : Int)).Perm (idxs (m + 1)) := by rw [← row0_nums]; exact h2.map _
  have hn := hp.nodup_iff.2 (idxs_nodup _)
  refine ⟨?_, hp⟩
  refine List.pairwise_iff_getElem.2 fun i j hi hj hij => ?_
  have hi' : i < d'.size := by simpa using hi
  have hj' : j < d'.size := by simpa using hj
  have h := hS i j (Nat.zero_le _) hij (by omega)
  have hne := List.pairwise_iff_getElem.1 hn i j hi hj hij
  rw [lt_ref, decide_eq_false_iff_not] at h
  simp only [List.getElem_map, Array.getElem_toList] at hne ⊢
  simp only [getElem!_pos d' i hi', getElem!_pos d' j hj'] at h
  unfold bef
  simp only [Int.toNat_natCast]
  omega
theorem inner_perm (lt : _root_.Fin (m + 1) → _root_.Fin (m + 1) → Bool) (b : Nat) : ∀ (j : Nat) (d : Array (_root_.Fin (m + 1))), j < b → b ≤ d.size → PermIn 0 b d (insInner lt 0 j d)
  | 0, d, _, _ => by unfold insInner; exact permIn_refl d 0 b
  | j + 1, d, hj, hb => by
    unfold insInner
    split
    · exact permIn_trans _ _ _ 0 b (swp_permIn d 0 b (j + 1) j (by omega) hj (by omega) (by omega) hb) (inner_perm lt b j _ (by omega) (by rw [swp_size]; exact hb))
    · exact permIn_refl d 0 b
theorem inner_congr (sc : List Int) : ∀ (j : Nat) (d : Array (_root_.Fin (m + 1))), j < d.size → (∀ k, k < j → (d[k]!).val < (d[j]!).val) → insInner (ltOf (proC sc)) 0 j d = insInner (ltOf (refC sc)) 0 j d
  | 0, _, _, _ => rfl
  | j + 1, d, hj, h => by
    have hlt : ltOf (proC sc) d[j + 1]! d[j]! = ltOf (refC sc) d[j + 1]! d[j]! := by
      have := h j (by omega)
      rw [lt_pro, lt_ref]
      exact decide_eq_decide.2 (by omega)
    unfold insInner
    rw [hlt, inner_congr sc j (swp d (j + 1) j) (by rw [swp_size]; omega) fun k hk => by
      rw [swp_right d (j + 1) j (by omega), swp_other d (j + 1) j k (by omega) (by omega)]
      exact h k (by omega)]
theorem outer_congr (sc : List Int) (b : Nat) : ∀ (n i : Nat) (d : Array (_root_.Fin (m + 1))), b - i = n → b ≤ d.size → (∀ k, k < i → k < b → (d[k]!).val < i) → (∀ k, i ≤ k → k < b → (d[k]!).val = k) → insOuter (ltOf (proC sc)) 0 b i d = insOuter (ltOf (refC sc)) 0 b i d
  | 0, i, d, hn, hb, _, _ => by rw [insOuter_stop _ _ _ _ _ (by omega), insOuter_stop _ _ _ _ _ (by omega)]
  | n + 1, i, d, hn, hb, h1, h2 => by
    have hi : i < b := by omega
    have hp := inner_perm (ltOf (refC sc)) (i + 1) i d (by omega) (by omega)
    rw [insOuter_go _ _ _ _ _ hi, insOuter_go _ _ _ _ _ hi, inner_congr sc i d (by omega) fun k hk => by rw [h2 i (Nat.le_refl _) hi]; exact h1 k hk (by omega)]
    refine outer_congr sc b n (i + 1) _ (by omega) (by rw [hp.1]; exact hb) (fun k hk hkb => ?_) fun k hk hkb => ?_
    · refine permIn_all d _ 0 (i + 1) (fun x => x.val < i + 1) (by omega) hp (fun q _ hq => ?_) k (by omega) hk
      by_cases e : q = i
      · subst e; rw [h2 q (Nat.le_refl _) hi]; omega
      · have := h1 q (by omega) (by omega); omega
    · rw [hp.2.1 k (Or.inr hk)]
      exact h2 k (by omega) hkb
theorem sort_congr (sc : List Int) : insertionSort (ltOf (proC sc)) (row0 m) 0 (m + 1) = insertionSort (ltOf (refC sc)) (row0 m) 0 (m + 1) := by
  have hg : ∀ k, k < m + 1 → ((row0 m)[k]!).val = k := fun k hk => by
    rw [getElem!_pos (row0 m) k (by rw [row0_size]; exact hk)]
    simp [row0]
  unfold insertionSort
  exact outer_congr sc (m + 1) _ (0 + 1) _ rfl (by rw [row0_size]; omega) (fun k hk hkb => by rw [hg k hkb]; omega) fun k _ hkb => hg k hkb
theorem rank_pro (sc : List Int) : IsRank sc (m + 1) ((insertionSort (ltOf (proC sc)) (row0 m) 0 (m + 1)).toList.map fun i => (i.val : Int)) := by
  rw [sort_congr]
  have h := insertionSort_holds (lt := ltOf (refC (m := m) sc)) (swo_ref sc) (row0 m) 0 (m + 1) (Nat.zero_le _) (by rw [row0_size]; omega)
  exact rank_of h.1 h.2
end
end Go.Proofs.YtadkhechobeccaaGreatDoor.Vm
namespace Go.Proofs.YtadkhechobeccaaGreatDoor.Vm
open Go.RowKit
theorem mxK_ge (l : List Int) : ∀ (k j : Nat), j ≤ k → gI l j ≤ mxK l k
  | 0, j, h => by
    obtain rfl : j = 0 := by omega
    exact Int.le_refl _
  | k + 1, j, h => by
    show gI l j ≤ max (mxK l k) (gI l (k + 1))
    by_cases e : j = k + 1
    · subst e; omega
    · have := mxK_ge l k j (by omega); omega
theorem mxK_le (l : List Int) {x : Int} : ∀ (k : Nat), (∀ j, j ≤ k → gI l j ≤ x) → mxK l k ≤ x
  | 0, h => h 0 (Nat.le_refl _)
  | k + 1, h => by
    show max (mxK l k) (gI l (k + 1)) ≤ x
    have h1 := mxK_le l k fun j hj => h j (by omega)
    have h2 := h (k + 1) (Nat.le_refl _)
    omega
/-- the weight of a token -/
def wvM (m : LModel) (sc : List Int) (v : Int) : Int := gI m.odds (min ((mxK sc (sc.length - 1) - gI sc v.toNat).fdiv (2 ^ (gI m.cuts 3).toNat)) ((m.odds.length : Int) - 1)).toNat
def wfold (m : LModel) (sc acc l : List Int) : List Int := l.foldl (fun a v => a.set v.toNat (wvM m sc v)) acc
def wgtM (m : LModel) (sc : List Int) (vo top : Nat) (l : List Int) : List Int := wfold m sc (mapR vo fun _ => 0) (l.take top)
theorem wfold_len (m : LModel) (sc : List Int) : ∀ (l acc : List Int), (wfold m sc acc l).length = acc.length
  | [], _ => rfl
  | v :: l, acc => by
    show (wfold m sc (acc.set v.toNat (wvM m sc v)) l).length = _
    rw [wfold_len m sc l]; simp
theorem wfold_snoc (m : LModel) (sc acc l : List Int) (v : Int) : wfold m sc acc (l ++ [v]) = (wfold m sc acc l).set v.toNat (wvM m sc v) := by simp [wfold, List.foldl_append]
theorem wgtM_len (m : LModel) (sc : List Int) (vo top : Nat) (l : List Int) : (wgtM m sc vo top l).length = vo := by rw [wgtM, wfold_len, mapR_len]
/-- the first of a rank has the greatest score -/
theorem IsRank.head {sc : List Int} {n : Nat} {v : Int} {l : List Int} (h : IsRank sc n (v :: l)) : ∀ j, j < n → gI sc j ≤ gI sc v.toNat := fun j hj => by
  have hm : (j : Int) ∈ v :: l := h.perm.symm.subset (idxs_mem.2 ⟨by omega, by omega⟩)
  rcases List.mem_cons.1 hm with e | hm
  · rw [← e]; simp
  · have := (List.pairwise_cons.1 h.ord).1 _ hm
    unfold bef at this
    simp only [Int.toNat_natCast] at this
    omega
end Go.Proofs.YtadkhechobeccaaGreatDoor.Vm
namespace Go.Proofs.YtadkhechobeccaaGreatDoor
open Go.RowKit
theorem all_inB {l : List Int} {lo hi : Int} (h : ∀ x ∈ l, lo ≤ x ∧ x ≤ hi) : l.all (inB lo hi) = true := by
  rw [List.all_eq_true]
  intro x hx
  have := h x hx
  simp only [inB, Bool.and_eq_true, decide_eq_true_eq]
  exact this
theorem inB_true {lo hi n : Int} (h : lo ≤ n ∧ n ≤ hi) : inB lo hi n = true := by
  simp only [inB, Bool.and_eq_true, decide_eq_true_eq]
  exact h
theorem five {D : Int} (h : 1 ≤ D ∧ D ≤ 5) : D = 1 ∨ D = 2 ∨ D = 3 ∨ D = 4 ∨ D = 5 := by omega
theorem rowsM_mul {n d r : Nat} (hd : 1 ≤ d) (h : n = r * d) : rowsM n d = r := by
  subst h
  unfold rowsM
  rw [if_pos (Nat.mul_mod_left _ _), Nat.mul_div_cancel _ (by omega)]
section
variable {m : LModel} (g : GenM m)
include g
theorem GenM.sized : sizedM m.kind m.vocab m.width = 0 := by
  unfold sizedM
  rw [inB_true g.kind, inB_true g.vocab, inB_true g.width]
  rfl
theorem GenM.formed : formM m = true := by
  obtain ⟨D1, D2⟩ := g.width
  obtain ⟨⟨r, r1, r2, hr⟩, -⟩ := g.place
  obtain ⟨⟨q, q1, q2, k1, k2, hq⟩, -⟩ := g.mix
  have hp : rowsM m.place.length m.width.toNat = r.toNat := rowsM_mul (by omega) (by
    have : ((r.toNat * m.width.toNat : Nat) : Int) = r * m.width := by push_cast; rw [Int.toNat_of_nonneg (by omega), Int.toNat_of_nonneg (by omega)]
    omega)
  have hm : mixM m.kind m.width m.mix.length = true := by
    unfold mixM
    by_cases c1 : m.kind = 1
    · rw [if_pos c1, hq, k1 c1]
      simp
    · rw [if_neg c1]
      by_cases c2 : m.kind = 2
      · rw [if_pos c2, hq, k2 c2]
        simp
      · rw [if_neg c2]
        have h3 : rowsM m.mix.length (m.width * m.width).toNat = q.toNat := rowsM_mul (by rcases five ⟨D1, D2⟩ with e | e | e | e | e <;> rw [e] <;> decide) (by
          have : ((q.toNat * (m.width * m.width).toNat : Nat) : Int) = q * m.width * m.width := by
            push_cast
            rw [Int.toNat_of_nonneg (by omega), Int.toNat_of_nonneg (Int.mul_nonneg (by omega) (by omega)), Int.mul_assoc]
          omega)
        rw [h3, Int.toNat_of_nonneg (by omega)]
        exact inB_true ⟨q1, q2⟩
  unfold formM
  rw [hm, hp, Int.toNat_of_nonneg (by omega), inB_true ⟨r1, r2⟩, inB_true (show (1 : Int) ≤ (m.soft.length : Int) ∧ (m.soft.length : Int) ≤ 64 by have := g.soft.1; omega), inB_true (show (1 : Int) ≤ (m.odds.length : Int) ∧ (m.odds.length : Int) ≤ 64 by have := g.odds.1; omega), g.cuts.1, g.embed.1, g.out.1]
  simp
theorem GenM.vals : valM m = true := by
  obtain ⟨-, ho, x0, hx, hx1⟩ := g.odds
  have hfl : ([m.embed, m.place, m.mix, m.out].flatten).all (inB (-128) 127) = true := by
    simp [List.all_append, all_inB g.embed.2, all_inB g.place.2, all_inB g.mix.2, all_inB g.out.2]
  have hz : (x0 == 0) = false := by simp; omega
  unfold valM
  rw [all_inB g.cuts.2, hfl, all_inB g.soft.2, all_inB ho, hx, Option.getD_some, hz]
  rfl
theorem GenM.ok : chkM m = 0 := by
  unfold chkM
  rw [if_pos g.sized, if_pos (inB_true g.top), if_pos g.formed, if_pos g.vals]
theorem GenM.lens : m.cuts.length = 4 ∧ m.embed.length ≤ 80 ∧ m.place.length ≤ 80 ∧ m.mix.length ≤ 100 ∧ m.out.length ≤ 80 ∧ m.soft.length ≤ 64 ∧ m.odds.length ≤ 64 := by
  obtain ⟨⟨r, r1, r2, hr⟩, -⟩ := g.place
  obtain ⟨⟨q, q1, q2, k1, k2, hq⟩, -⟩ := g.mix
  have hv := vd_small g.vocab g.width
  have he := g.embed.1
  have ho := g.out.1
  refine ⟨g.cuts.1, by omega, ?_, ?_, by omega, g.soft.1.2, g.odds.1.2⟩
  · rcases five g.width with e | e | e | e | e <;> rw [e] at hr <;> omega
  · rcases five g.width with e | e | e | e | e <;> rw [e] at hq <;> omega
end
end Go.Proofs.YtadkhechobeccaaGreatDoor
namespace Go.Proofs.YtadkhechobeccaaGreatDoor
open Go.RowKit Go.ChangeShapes
theorem laid_out : laidOutB Tryz.prog = true := by kernel_rfl
theorem readable_ints : Tryz.prog.readableRec 22 = true := by kernel_rfl
theorem row_ints : 22 < Tryz.prog.types.size := of_decide_eq_true (by kernel_rfl)
theorem cells_int : Tryz.prog.cellsOf 3 = 1 := by kernel_rfl
set_option maxRecDepth 100000 in
theorem li_of {H : Type} {enc : TypeId × Value → H} {W : World} {base : Nat} {v : Value} {d : DataW H} {p : List MemPlace}
    (hv : Value.okWide Tryz.prog W .any base 22 v) (h : DataW.Trod enc Tryz.prog W 0 (fun _ => true) true 22 v d p) : ∃ xs, LI W v xs := by
  obtain ⟨A, n, c, rfl⟩ := Go.WideShapes.okWide_slice Tryz.underlying22 hv
  obtain ⟨fuel, hf⟩ := h
  rcases open_ints Tryz.underlying22 Tryz.underlying3 cells_int hf with ⟨hcs, -⟩ | ⟨a, len, cap, zs, hcs, -, hle, hmax, hall, -, hcell, hwf⟩
  · simp [Value.cells] at hcs
    obtain ⟨rfl, rfl, rfl⟩ := hcs
    exact ⟨[], Sl.nil_ W, Nat.zero_le _, fun x hx => by cases hx⟩
  · simp [Value.cells] at hcs
    obtain ⟨rfl, rfl, rfl⟩ := hcs
    simp only [if_true] at hall
    have hl : (zs.take n).length = n := by rw [List.length_take]; omega
    refine ⟨zs.take n, ⟨some a, c, by rw [i64s_length, hl], by rw [i64s_length, hl]; exact hle, hmax, fun h0 => ?_⟩, by rw [hl]; omega, fun x hx => ?_⟩
    · rw [i64s_length, hl] at h0
      obtain ⟨b, off, rfl, hc⟩ := ints_at hcell (by omega)
      refine ⟨b, off, rfl, fun j u hu => ?_⟩
      have hj : j < n := by
        have := (List.getElem?_eq_some_iff.1 hu).1
        rwa [i64s_length, hl] at this
      rw [i64s_at (by rw [hl]; exact hj)] at hu
      injection hu with hu
      subst hu
      rw [hc j (by omega)]
      simp [hj]
    · exact bounds_i64 (hwf x (List.mem_of_mem_take hx))
end Go.Proofs.YtadkhechobeccaaGreatDoor
