/-
  Stream.Tainted, run by the value machine.
-/
import Derived.Test.YtkcdgaijklhnaaaGreatDoorK08
import Derived.Test.YtkcdgaijklhnaaaGreatDoorK07
namespace Go.Proofs.YtkcdgaijklhnaaaGreatDoor.Vm
open Go.RowKit
noncomputable def slfV (k : Nat) (st : St) (l h m : Nat) : V → Option V
  | .lst _ xs => if l ≤ h ∧ h = m ∧ h ≤ xs.length ∧ (∀ x ∈ xs, x.cells.length = k) then some (.lst true ((xs.drop l).take (h - l))) else none
  | .own b L _ _ => match st[b]? with
      | some (.row _ _ xs) => if xs.length = L ∧ l = 0 ∧ h = 0 ∧ m = 0 then some (.lst true []) else none
      | _ => none
  | _ => none
@[simp ↓] theorem ob_slf {T : Tbl} {rd : Nat → Nat → Bool} {fr : Fr} {st : St} {K : V → Prop} (k : Nat) (x : Od) (l : Option Od) (h m : Od) : obind (mStill T rd (.slf k x l h m) fr st) K = obind (x.ev T fr) fun x => obind (evo T fr 0 l) fun l => obind (evo T fr 0 (some h)) fun h => obind (evo T fr 0 (some m)) fun m => obind (slfV k st l h m x) K := by
  have e : ∀ (v : V) (l h m : Nat), (match v with
      | .lst _ xs => if l ≤ h ∧ h = m ∧ h ≤ xs.length ∧ (∀ x ∈ xs, x.cells.length = k) then some (V.lst true ((xs.drop l).take (h - l))) else none
      | .own b L _ _ => match st[b]? with
        | some (.row _ _ xs) => if xs.length = L ∧ l = 0 ∧ h = 0 ∧ m = 0 then some (.lst true []) else none
        | _ => none
      | _ => none) = slfV k st l h m v := fun v l h m => by cases v <;> rfl
  simp only [mStill, ob_bind]
  rfl
@[simp] theorem slfV_lst (k : Nat) (st : St) (l h m : Nat) (f : Bool) (xs : List V) : slfV k st l h m (.lst f xs) = if l ≤ h ∧ h = m ∧ h ≤ xs.length ∧ (∀ x ∈ xs, x.cells.length = k) then some (.lst true ((xs.drop l).take (h - l))) else none := nr rfl
theorem app_full {M : Nat → Nat → Bool} {t k bytes : Nat} {s : St} {ys news : List V} {x : V} {K : V → St → Prop} (hx : rdl s x = some news) (h1 : ∀ y ∈ news, y.cells.length = k) (h2 : ∀ y ∈ ys, y.cells.length = k) (h3 : ys = [] ∨ news ≠ []) (h4 : (ys.length + news.length) * bytes ≤ 140737488355328) (h5 : ys.length + news.length ≤ 9223372036854775807)
    (hK : K (.own s.length (ys.length + news.length) 0 (ys.length + news.length)) (s ++ [.row t k (ys ++ news)])) : obind2 (mApp M t k bytes s (.lst true ys) x) K := by
  have e : mApp M t k bytes s (.lst true ys) x = some (.own s.length (ys.length + news.length) 0 (ys.length + news.length), s ++ [.row t k (ys ++ news)]) := by
    unfold mApp
    rw [hx]
    show (if _ then _ else none) = _
    rw [if_pos h1]
    show (if _ then some _ else none) = _
    rw [if_pos ⟨h2, h3, h4, h5⟩]
  rw [e, ob2_some]
  exact hK
def lm (K V D T : Int) (l : Nat → List Int) : LModel := ⟨K, V, D, T, l 0, l 1, l 2, l 3, l 4, l 5, l 6⟩
structure TnV (st : St) (s0 : Nat) (f : Bool) (xs : List Int) (a b : Int) (fr : Fr) (s : St) (K V D T : Int) (c : Nat → Vm.V) (z : Nat) : Prop where
  gs : ∃ a', a ≤ a' ∧ a' ≤ b ∧ GS st.length s0 st s f xs a'
  md : s[st.length]? = some (mdl K V D T c)
  rb : s[st.length + 1]? = some (mdl 0 0 0 0 nils)
  g0 : fr.g 0 = .ptr s0 1 0 0
  g3 : fr.g 3 = .ptr st.length 1 0 0
  g4 : fr.g 4 = .ptr (st.length + 1) 1 0 0
  g6 : fr.g 6 = .ptr st.length 1 0 (4 + z)
  df : fr.df = []
  hz : z < 7
def TQ (st : St) (K : V → St → Prop) (Kp : List PanicEntry → St → Prop) : Post := Fin F_tainted.res (fun v st' => ∃ v', Frz st.length st' v v' ∧ LowSt st st' ∧ K v' (st'.take st.length)) (fun c st' => LowSt st st' ∧ Kp c (st'.take st.length))
def TK (st : St) (s0 : Nat) (f : Bool) (xs : List Int) (a : Int) (B : Int) (n : Nat) (K : V → St → Prop) : Prop := ∀ (fl : Nat → Bool) m a', LB (B + 100) (n + 1) m → a ≤ a' → a' ≤ a + 10 → K (encM fl m) (st.set s0 (strm f xs a'))
def FS (n : Nat) (s : St) (v : V) (l : List Int) : Prop := (∃ g, v = .lst g (ints l)) ∨ OutS n 3 1 s v (ints l)
section
variable {st s : St} {s0 z : Nat} {fr : Fr} {f : Bool} {xs : List Int} {a b : Int} {T : Tbl} {M : Nat → Bool} {K : V → St → Prop} {Kp : List PanicEntry → St → Prop} {Kd Vo Wd Tp : Int} {c : Nat → V}
theorem FS.leaf {n : Nat} {v : V} {l : List Int} (h : FS n s v l) : v.leaf = true := by
  rcases h with ⟨_, rfl⟩ | ⟨-, rfl⟩ | ⟨_, -, -, rfl⟩ <;> rfl
theorem FS.frz {n : Nat} {v : V} {l : List Int} (h : FS n s v l) : ∃ g, Frz n s v (.lst g (ints l)) := by
  rcases h with ⟨g, rfl⟩ | h
  · exact ⟨g, .same _ rfl⟩
  · exact h.frz (ints_cells _)
theorem FS.apart {n m t2 k2 : Nat} {ys : List V} {v : V} {l : List Int} (h : FS n s v l) (hc : s[m]? = some (.row t2 k2 ys)) (hk : k2 ≠ 1) (x : Blk) : FS n (s.set m x) v l := by
  rcases h with h | h
  · exact Or.inl h
  · exact Or.inr (h.apart hc hk x)
set_option maxRecDepth 10000 in
theorem tn_end {B : Int} {n : Nat} (hK : TK st s0 f xs a B n K) (h : TnV st s0 f xs a (a + 10) fr s Kd Vo Wd Tp c z) {l : Nat → List Int} (hF : ∀ i, FS st.length s (c i) (l i)) (hb : LB (B + 100) (n + 1) (lm Kd Vo Wd Tp l)) :
    wpM Tryz.prog T (liftM (upM st.length M)) F_tainted.code.r.r.r.r.r (TQ st K Kp) fr s := by
  obtain ⟨a', e1, e2, g⟩ := h.gs
  have md := h.md
  have rb := h.rb
  have rb2 : ∀ x, (s.set (st.length + 1) x)[st.length + 1]? = some x := fun x => get_set rb x
  have lf := fun i => (hF i).leaf
  simp [F_tainted, MC.r, TQ, h.g3, h.g4, md, rb, mdl, nils, lf, rb2, h.df]
  generalize Blk.row 27 11 _ = xb
  have g' := g.set (b := st.length + 1) (by omega) xb
  have fz := fun i => ((hF i).apart rb (by decide) xb).frz
  obtain ⟨fl, fz⟩ := Classical.axiomOfChoice fz
  have hlow := g'.same.low g'.str (by simp [V.low])
  have hk := hK fl _ a' hb e1 e2
  refine ⟨encM fl (lm Kd Vo Wd Tp l), .agg _ _ rfl fun i x y hx hy => ?_, hlow, ?_⟩
  · match i with
    | 0 => simp at hx hy; subst hx hy; exact .same _ rfl
    | 1 => simp at hx hy; subst hx hy; exact .same _ rfl
    | 2 => simp at hx hy; subst hx hy; exact .same _ rfl
    | 3 => simp at hx hy; subst hx hy; exact .same _ rfl
    | 4 => simp at hx hy; subst hx hy; exact fz 0
    | 5 => simp at hx hy; subst hx hy; exact fz 1
    | 6 => simp at hx hy; subst hx hy; exact fz 2
    | 7 => simp at hx hy; subst hx hy; exact fz 3
    | 8 => simp at hx hy; subst hx hy; exact fz 4
    | 9 => simp at hx hy; subst hx hy; exact fz 5
    | 10 => simp at hx hy; subst hx hy; exact fz 6
    | i + 11 => simp at hx
  · rw [g'.same.take g'.str]
    exact hk
theorem lb_of {B : Int} {n : Nat} {l : Nat → List Int} (hs : (-B ≤ Kd ∧ Kd ≤ B) ∧ (-B ≤ Vo ∧ Vo ≤ B) ∧ (-B ≤ Wd ∧ Wd ≤ B) ∧ (-B ≤ Tp ∧ Tp ≤ B)) (hl : ∀ i, i < 7 → (l i).length ≤ n ∧ ∀ x ∈ l i, -B ≤ x ∧ x ≤ B) : LB B n (lm Kd Vo Wd Tp l) :=
  ⟨fun x hx => by
    simp [lm] at hx
    rcases hx with rfl | rfl | rfl | rfl
    · exact hs.1
    · exact hs.2.1
    · exact hs.2.2.1
    · exact hs.2.2.2,
   fun y hy => by
    simp [lm] at hy
    rcases hy with rfl | rfl | rfl | rfl | rfl | rfl | rfl
    · exact hl 0 (by decide)
    · exact hl 1 (by decide)
    · exact hl 2 (by decide)
    · exact hl 3 (by decide)
    · exact hl 4 (by decide)
    · exact hl 5 (by decide)
    · exact hl 6 (by decide)⟩
theorem lb_to {B : Int} {n : Nat} {l : Nat → List Int} (h : LB B n (lm Kd Vo Wd Tp l)) : ((-B ≤ Kd ∧ Kd ≤ B) ∧ (-B ≤ Vo ∧ Vo ≤ B) ∧ (-B ≤ Wd ∧ Wd ≤ B) ∧ (-B ≤ Tp ∧ Tp ≤ B)) ∧ ∀ i, i < 7 → (l i).length ≤ n ∧ ∀ x ∈ l i, -B ≤ x ∧ x ≤ B :=
  ⟨⟨h.sc _ (by simp [lm]), h.sc _ (by simp [lm]), h.sc _ (by simp [lm]), h.sc _ (by simp [lm])⟩, fun i hi => by
    match i with
    | 0 => exact h.ls _ (by simp [lm])
    | 1 => exact h.ls _ (by simp [lm])
    | 2 => exact h.ls _ (by simp [lm])
    | 3 => exact h.ls _ (by simp [lm])
    | 4 => exact h.ls _ (by simp [lm])
    | 5 => exact h.ls _ (by simp [lm])
    | 6 => exact h.ls _ (by simp [lm])
    | i + 7 => omega⟩
theorem mdl_get (hz : z < 7) : ([I Kd, I Vo, I Wd, I Tp, c 0, c 1, c 2, c 3, c 4, c 5, c 6] : List V)[4 + z]? = some (c z) := by
  match z with
  | 0 | 1 | 2 | 3 | 4 | 5 | 6 => rfl
  | i + 7 => omega
theorem mdl_put (hz : z < 7) (v : V) : ([I Kd, I Vo, I Wd, I Tp, c 0, c 1, c 2, c 3, c 4, c 5, c 6] : List V).take (4 + z) ++ (v :: ([I Vo, I Wd, I Tp, c 0, c 1, c 2, c 3, c 4, c 5, c 6] : List V).drop (4 + z)) = [I Kd, I Vo, I Wd, I Tp, upd1 c z v 0, upd1 c z v 1, upd1 c z v 2, upd1 c z v 3, upd1 c z v 4, upd1 c z v 5, upd1 c z v 6] := by
  match z with
  | 0 | 1 | 2 | 3 | 4 | 5 | 6 => simp
  | i + 7 => omega
theorem TnV.step (h : TnV st s0 f xs a b fr s Kd Vo Wd Tp c z) {s' : St} {b' a' : Int} (g : GS st.length s0 st s' f xs a') (h1 : a ≤ a') (h2 : a' ≤ b') (hr : s'[st.length + 1]? = some (mdl 0 0 0 0 nils)) {Kd' Vo' Wd' Tp' : Int} {c' : Nat → V} (hm : s'[st.length]? = some (mdl Kd' Vo' Wd' Tp' c')) {fr' : Fr} (e0 : fr'.g 0 = fr.g 0) (e3 : fr'.g 3 = fr.g 3) (e4 : fr'.g 4 = fr.g 4) (e6 : fr'.g 6 = fr.g 6) (ed : fr'.df = fr.df) :
    TnV st s0 f xs a b' fr' s' Kd' Vo' Wd' Tp' c' z := ⟨⟨a', h1, h2, g⟩, hm, hr, e0.trans h.g0, e3.trans h.g3, e4.trans h.g4, e6.trans h.g6, ed.trans h.df, h.hz⟩
set_option maxRecDepth 10000 in
theorem tn_sw {B : Int} {n : Nat} (hK : TK st s0 f xs a B n K) (hM : M s0 = true) (ha : 0 ≤ a ∧ a ≤ 10000000) (hB : 2000 ≤ B ∧ B ≤ 100000) (hn : 1 ≤ n ∧ n ≤ 100000) (h : TnV st s0 f xs a (a + 1) fr s Kd Vo Wd Tp c z) {l : Nat → List Int} {fl : Nat → Bool} (hc : ∀ i, c i = .lst (fl i) (ints (l i))) (hlz : l z ≠ []) (hb : LB B n (lm Kd Vo Wd Tp l)) :
    wpM Tryz.prog T (liftM (upM st.length M)) F_tainted.code.r.r.r.r (TQ st K Kp) fr s := by
  have hend : ∀ (fr : Fr) (s : St) (Kd Vo Wd Tp : Int) (c : Nat → V) (l : Nat → List Int), TnV st s0 f xs a (a + 10) fr s Kd Vo Wd Tp c z → (∀ i, FS st.length s (c i) (l i)) → LB (B + 100) (n + 1) (lm Kd Vo Wd Tp l) → wpM Tryz.prog T (liftM (upM st.length M)) F_tainted.code.r.r.r.r.r (TQ st K Kp) fr s := fun fr s Kd Vo Wd Tp c l q1 q2 q3 => tn_end hK q1 q2 q3
  have e : F_tainted.code.r.r.r.r = .seq F_tainted.code.r.r.r.r.l F_tainted.code.r.r.r.r.r := rfl
  rw [e, wp_mseq]
  generalize wpM Tryz.prog T (liftM (upM st.length M)) F_tainted.code.r.r.r.r.r (TQ st K Kp) = k12 at hend ⊢
  have hup : upM st.length M s0 = true := upM_of hM
  obtain ⟨a', e1, e2, g⟩ := h.gs
  have hlt := g.hsb
  obtain ⟨⟨hb1, hb2, hb3, hb4⟩, hbl⟩ := lb_to hb
  have hFS : ∀ s i, FS st.length s (c i) (l i) := fun s i => Or.inl ⟨_, hc i⟩
  have hbl' : ∀ i, i < 7 → (l i).length ≤ n + 1 ∧ ∀ x ∈ l i, -(B + 100) ≤ x ∧ x ≤ B + 100 := fun i hi => ⟨by have := (hbl i hi).1; omega, fun x hx => by have := (hbl i hi).2 x hx; omega⟩
  -- a number of the model is changed
  simp [F_tainted, MC.l, MC.r, h.g0]
  refine next_g g hup (by omega) 7 (by omega) fun q s1 q1 q2 g1 b1 => ?_
  have m1 := get_but h.md b1 (by omega)
  have r1 := get_but h.rb b1 (by omega)
  have hq : q = 0 ∨ q = 1 ∨ q = 2 ∨ q = 3 ∨ q = 4 ∨ q = 5 ∨ q = 6 := by omega
  rcases hq with rfl | rfl | rfl | rfl | rfl | rfl | rfl
  · simp
    refine range_g g1 hup (by omega) 0 4 (by omega) (by omega) (by omega) fun r s2 y1 y2 g2 b2 => ?_
    have m2 := get_but m1 b2 (by omega)
    have r2 := get_but r1 b2 (by omega)
    simp only [mdl] at m2
    simp [h.g3, m2]
    exact hend _ _ r Vo Wd Tp c l (h.step (g2.set (Nat.le_refl _) (mdl r Vo Wd Tp c)) (by omega) (by omega) (get_ne r2 (by omega) _) (get_set m2 _) (by simp) (by simp) (by simp) (by simp) (by simp)) (hFS _) (lb_of ⟨by omega, by omega, by omega, by omega⟩ hbl')
  · simp
    refine wp_mtail [s0] [] ?_
    have hrd : rdW [s0] [] st.length 1 = true := by simp [rdW]; omega
    have e5 : (s1 ++ [Blk.row 3 1 [I 1, I (-1), I 100]])[s1.length]? = some (.row 3 1 (ints [1, -1, 100])) := by simp [ints]
    simp only [mdl] at m1
    simp [h.g3, h.g0, m1, hrd]
    refine pick_g (g1.more _) (inW_hd hup) (by omega) e5 (by have := g1.same.len; omega) rfl (by simp) fun x s2 hx g2 b2 => ?_
    have m2 := get_but (get_more m1 _) b2 (by omega)
    have r2 := get_but (get_more r1 _) b2 (by omega)
    have hx' : -100 ≤ x ∧ x ≤ 100 := by simp at hx; omega
    simp [m2, w64 (n := Vo + x) (by omega) (by omega)]
    exact hend _ _ Kd (Vo + x) Wd Tp c l (h.step (g2.set (Nat.le_refl _) (mdl Kd (Vo + x) Wd Tp c)) (by omega) (by omega) (get_ne r2 (by omega) _) (get_set m2 _) (by simp) (by simp) (by simp) (by simp) (by simp)) (hFS _) (lb_of ⟨by omega, by omega, by omega, by omega⟩ hbl')
  · simp
    refine wp_mtail [s0] [] ?_
    have hrd : rdW [s0] [] st.length 2 = true := by simp [rdW]; omega
    have e5 : (s1 ++ [Blk.row 3 1 [I 1, I (-1), I 5]])[s1.length]? = some (.row 3 1 (ints [1, -1, 5])) := by simp [ints]
    simp only [mdl] at m1
    simp [h.g3, h.g0, m1, hrd]
    refine pick_g (g1.more _) (inW_hd hup) (by omega) e5 (by have := g1.same.len; omega) rfl (by simp) fun x s2 hx g2 b2 => ?_
    have m2 := get_but (get_more m1 _) b2 (by omega)
    have r2 := get_but (get_more r1 _) b2 (by omega)
    have hx' : -100 ≤ x ∧ x ≤ 100 := by simp at hx; omega
    simp [m2, w64 (n := Wd + x) (by omega) (by omega)]
    exact hend _ _ Kd Vo (Wd + x) Tp c l (h.step (g2.set (Nat.le_refl _) (mdl Kd Vo (Wd + x) Tp c)) (by omega) (by omega) (get_ne r2 (by omega) _) (get_set m2 _) (by simp) (by simp) (by simp) (by simp) (by simp)) (hFS _) (lb_of ⟨by omega, by omega, by omega, by omega⟩ hbl')
  · simp
    refine wp_mtail [s0] [] ?_
    have hrd : rdW [s0] [] st.length 3 = true := by simp [rdW]; omega
    have e5 : (s1 ++ [Blk.row 3 1 [I 1, I (-20)]])[s1.length]? = some (.row 3 1 (ints [1, -20])) := by simp [ints]
    simp only [mdl] at m1
    simp [h.g3, h.g0, m1, hrd]
    refine pick_g (g1.more _) (inW_hd hup) (by omega) e5 (by have := g1.same.len; omega) rfl (by simp) fun x s2 hx g2 b2 => ?_
    have m2 := get_but (get_more m1 _) b2 (by omega)
    have r2 := get_but (get_more r1 _) b2 (by omega)
    have hx' : -100 ≤ x ∧ x ≤ 100 := by simp at hx; omega
    simp [m2, w64 (n := Tp + x) (by omega) (by omega)]
    exact hend _ _ Kd Vo Wd (Tp + x) c l (h.step (g2.set (Nat.le_refl _) (mdl Kd Vo Wd (Tp + x) c)) (by omega) (by omega) (get_ne r2 (by omega) _) (get_set m2 _) (by simp) (by simp) (by simp) (by simp) (by simp)) (hFS _) (lb_of ⟨by omega, by omega, by omega, by omega⟩ hbl')
  · have hg := mdl_get (Kd := Kd) (Vo := Vo) (Wd := Wd) (Tp := Tp) (c := c) h.hz
    have hp := mdl_put (Kd := Kd) (Vo := Vo) (Wd := Wd) (Tp := Tp) (c := c) h.hz
    simp only [mdl] at m1
    have ht : List.take ((l z).length - 1) (ints (l z)).tail = ints (l z).tail := by
      rw [List.take_of_length_le (by simp [ints])]
      simp [ints]
    have hz := h.hz
    have hl1 : 1 ≤ (l z).length := List.length_pos_iff.2 hlz
    simp [h.g6, m1, hg, hp, hc z, ht]
    refine ⟨⟨hl1, fun x hx => ?_⟩, by omega, ?_⟩
    · obtain ⟨y, -, rfl⟩ := List.mem_map.1 hx; rfl
    · refine hend _ _ Kd Vo Wd Tp (upd1 c z (.lst (fl z) (ints (l z).tail))) (fun j => if j = z then (l z).tail else l j) (h.step (g1.set (Nat.le_refl _) (mdl Kd Vo Wd Tp (upd1 c z (.lst (fl z) (ints (l z).tail))))) (by omega) (by omega) (get_ne r1 (by omega) _) (get_set m1 _) (by simp) (by simp) (by simp) (by simp) (by simp)) (fun i => ?_) (lb_of ⟨by omega, by omega, by omega, by omega⟩ fun i hi => ?_)
      · by_cases hiz : i = z
        · simp [hiz]; exact Or.inl ⟨_, rfl⟩
        · simp [hiz]; exact hFS _ i
      · by_cases hiz : i = z
        · simp [hiz]
          have := hbl' z hz
          exact ⟨by omega, fun x hx => this.2 x (List.mem_of_mem_tail hx)⟩
        · simp [hiz]; exact hbl' i hi
  · have hg := mdl_get (Kd := Kd) (Vo := Vo) (Wd := Wd) (Tp := Tp) (c := c) h.hz
    have hp := mdl_put (Kd := Kd) (Vo := Vo) (Wd := Wd) (Tp := Tp) (c := c) h.hz
    simp only [mdl] at m1
    simp
    refine wp_mtail [s0] [] ?_
    have hrd : rdW [s0] [] st.length (4 + z) = true := by simp [rdW]; omega
    have e5 : (s1 ++ [Blk.row 3 1 [I 0, I 1, I 200, I (-200)]])[s1.length]? = some (.row 3 1 (ints [0, 1, 200, -200])) := by simp [ints]
    simp [h.g0, h.g6, m1, hg, hc z, hrd]
    refine ⟨fun x hx => by obtain ⟨y, -, rfl⟩ := List.mem_map.1 hx; rfl, ?_⟩
    rw [List.take_of_length_le (by simp [ints])]
    refine pick_g (g1.more _) (inW_hd hup) (by omega) e5 (by have := g1.same.len; omega) rfl (by simp) fun x s2 hx g2 b2 => ?_
    have m2 := get_but (get_more m1 _) b2 (by omega)
    have r2 := get_but (get_more r1 _) b2 (by omega)
    have hx' : -200 ≤ x ∧ x ≤ 200 := by simp at hx; omega
    simp
    have hz := h.hz
    have hlz2 := hbl z hz
    have hl2 := (List.getElem?_eq_some_iff.1 m2).1
    refine app_full (news := [I x]) (by simp) (by simp) (fun y hy => by obtain ⟨w, -, rfl⟩ := List.mem_map.1 hy; rfl) (Or.inr (by simp)) (by simp [ints]; omega) (by simp [ints]; omega) ?_
    rw [show (ints (l z)).length = (l z).length by simp [ints], show ints (l z) ++ [I x] = ints (l z ++ [x]) by simp [ints]]
    have m3 := get_more (get_more m2 [Blk.row 3 1 [I x]]) [Blk.row 3 1 (ints (l z ++ [x]))]
    have r3 := get_more (get_more r2 [Blk.row 3 1 [I x]]) [Blk.row 3 1 (ints (l z ++ [x]))]
    have g3 := (g2.more [Blk.row 3 1 [I x]]).more [Blk.row 3 1 (ints (l z ++ [x]))]
    obtain ⟨b, hbe⟩ : ∃ b, (s2 ++ [Blk.row 3 1 [I x]]).length = b := ⟨_, rfl⟩
    have k3 : ((s2 ++ [Blk.row 3 1 [I x]]) ++ [Blk.row 3 1 (ints (l z ++ [x]))])[b]? = some (Blk.row 3 1 (ints (l z ++ [x]))) := by rw [← hbe, st_at]; rfl
    have hbl3 : st.length < b := by rw [← hbe]; simp; omega
    rw [hbe]
    generalize (s2 ++ [Blk.row 3 1 [I x]]) ++ [Blk.row 3 1 (ints (l z ++ [x]))] = s3 at m3 r3 g3 k3 ⊢
    simp [m3, hp]
    refine ⟨by omega, hend _ _ Kd Vo Wd Tp (upd1 c z (.own b ((l z).length + 1) 0 ((l z).length + 1))) (fun j => if j = z then l z ++ [x] else l j) (h.step (g3.set (Nat.le_refl _) (mdl Kd Vo Wd Tp (upd1 c z (.own b ((l z).length + 1) 0 ((l z).length + 1))))) (by omega) (by omega) (get_ne r3 (by omega) _) (get_set m3 _) (by simp) (by simp) (by simp) (by simp) (by simp)) (fun i => ?_) (lb_of ⟨by omega, by omega, by omega, by omega⟩ fun i hi => ?_)⟩
    · by_cases hiz : i = z
      · simp [hiz]
        exact Or.inr (Or.inr ⟨b, by omega, get_ne k3 (by omega) _, by simp [ints]⟩)
      · simp [hiz]; exact hFS _ i
    · by_cases hiz : i = z
      · simp [hiz]
        have := hbl' z hz
        refine ⟨by omega, fun y hy => ?_⟩
        rcases hy with hy | rfl
        · exact this.2 y hy
        · omega
      · simp [hiz]; exact hbl' i hi
  · have hg := mdl_get (Kd := Kd) (Vo := Vo) (Wd := Wd) (Tp := Tp) (c := c) h.hz
    have hp := mdl_put (Kd := Kd) (Vo := Vo) (Wd := Wd) (Tp := Tp) (c := c) h.hz
    have hl1 : 1 ≤ (l z).length := List.length_pos_iff.2 hlz
    have hz := h.hz
    have hlz2 := hbl z hz
    simp only [mdl] at m1
    simp [h.g6, m1, hg, hc z]
    refine app_out (OutS.nil st.length _ _ s1) g1.same.len (news := ints (l z)) rfl (fun x hx => by obtain ⟨y, -, rfl⟩ := List.mem_map.1 hx; rfl) (Or.inr rfl) (fun b L _ hb => by cases hb) (by simp [ints]; omega) (by simp [ints]; omega) fun v s2 o2 hl2 hb2 hk2 hn2 => ?_
    obtain ⟨b, hb1', hbb, rfl⟩ : ∃ b, st.length ≤ b ∧ s2[b]? = some (.row 3 1 (ints (l z))) ∧ v = .own b (l z).length 0 (l z).length := by
      rcases o2 with ⟨hnil, -⟩ | ⟨b, h1, h2, h3⟩
      · exact absurd hnil (by simpa [ints] using hlz)
      · exact ⟨b, h1, by simpa using h2, by simpa [ints] using h3⟩
    have m2 : s2[st.length]? = some (mdl Kd Vo Wd Tp c) := by rw [hk2 _ (List.getElem?_eq_some_iff.1 m1).1 (by simp [ownL])]; exact m1
    have r2 : s2[st.length + 1]? = some (mdl 0 0 0 0 nils) := by rw [hk2 _ (List.getElem?_eq_some_iff.1 r1).1 (by simp [ownL])]; exact r1
    have g2 := g1.to hl2 hb2
    have hbn : b ≠ st.length ∧ b ≠ st.length + 1 := ⟨fun e => by rw [e, m2] at hbb; simp [mdl] at hbb, fun e => by rw [e, r2] at hbb; simp [mdl] at hbb⟩
    simp [hbb]
    refine next_g g2 hup (by omega) _ (by omega) fun p s3 p1 p2 g3 b3 => ?_
    have m3 := get_but m2 b3 (by omega)
    have r3 := get_but r2 b3 (by omega)
    have k3 := get_but hbb b3 (by omega)
    have e5 : (s3 ++ [Blk.row 3 1 [I 0, I (-1), I 16, I 128, I (-129), I 1001]])[s3.length]? = some (.row 3 1 (ints [0, -1, 16, 128, -129, 1001])) := by simp [ints]
    simp
    refine pick_g (g3.more _) hup (by omega) e5 (by have := g3.same.len; omega) rfl (by simp) fun x s4 hx g4 b4 => ?_
    have m4 := get_but (get_more m3 _) b4 (by omega)
    have r4 := get_but (get_more r3 _) b4 (by omega)
    have k4 := get_but (get_more k3 _) b4 (by omega)
    have hx' : -1001 ≤ x ∧ x ≤ 1001 := by simp at hx; omega
    have hpl : p.toNat < (l z).length := by omega
    have hub : upM st.length M b = true := by simp [upM, hb1']
    simp [k4, p1, hub]
    have hi6 : (ints (l z))[p.toNat]? = some (I (l z)[p.toNat]) := by simp [ints, hpl]
    have hs6 : (ints (l z)).set p.toNat (I x) = ints ((l z).set p.toNat x) := by simp [ints, List.map_set]
    have m5 := get_ne m4 hbn.1 (Blk.row 3 1 (ints ((l z).set p.toNat x)))
    have r5 := get_ne r4 hbn.2 (Blk.row 3 1 (ints ((l z).set p.toNat x)))
    have k5 := get_set k4 (Blk.row 3 1 (ints ((l z).set p.toNat x)))
    have m5' := m5
    simp only [mdl] at m5'
    simp [hi6, hs6, m5', hp, show p < ((l z).length : Int) by omega]
    refine ⟨by omega, hend _ _ Kd Vo Wd Tp (upd1 c z (.own b (l z).length 0 (l z).length)) (fun j => if j = z then (l z).set p.toNat x else l j) (h.step ((g4.set hb1' _).set (Nat.le_refl _) (mdl Kd Vo Wd Tp (upd1 c z (.own b (l z).length 0 (l z).length)))) (by omega) (by omega) (get_ne r5 (by omega) _) (get_set m5 _) (by simp) (by simp) (by simp) (by simp) (by simp)) (fun i => ?_) (lb_of ⟨by omega, by omega, by omega, by omega⟩ fun i hi => ?_)⟩
    · by_cases hiz : i = z
      · simp [hiz]
        exact Or.inr (Or.inr ⟨b, hb1', get_ne k5 (Ne.symm hbn.1) _, by simp [ints]⟩)
      · simp [hiz]; exact hFS _ i
    · by_cases hiz : i = z
      · simp [hiz]
        have := hbl' z hz
        refine ⟨by omega, fun y hy => ?_⟩
        rcases List.mem_or_eq_of_mem_set hy with hy | rfl
        · exact this.2 y hy
        · omega
      · simp [hiz]; exact hbl' i hi
set_option maxRecDepth 10000 in
theorem tn_len {B : Int} {n : Nat} (hK : TK st s0 f xs a B n K) (hM : M s0 = true) (ha : 0 ≤ a ∧ a ≤ 10000000) (hB : 2000 ≤ B ∧ B ≤ 100000) (hn : 1 ≤ n ∧ n ≤ 100000) (h : TnV st s0 f xs a (a + 1) fr s Kd Vo Wd Tp c z) {l : Nat → List Int} {fl : Nat → Bool} (hc : ∀ i, c i = .lst (fl i) (ints (l i))) (hb : LB B n (lm Kd Vo Wd Tp l)) :
    wpM Tryz.prog T (liftM (upM st.length M)) F_tainted.code.r.r.r (TQ st K Kp) fr s := by
  have hend : ∀ (fr : Fr) (s : St) (c : Nat → V) (l : Nat → List Int) (fl : Nat → Bool), TnV st s0 f xs a (a + 1) fr s Kd Vo Wd Tp c z → (∀ i, c i = .lst (fl i) (ints (l i))) → l z ≠ [] → LB B n (lm Kd Vo Wd Tp l) → wpM Tryz.prog T (liftM (upM st.length M)) F_tainted.code.r.r.r.r (TQ st K Kp) fr s := fun fr s c l fl q1 q2 q3 q4 => tn_sw hK hM ha hB hn q1 q2 q3 q4
  have e : F_tainted.code.r.r.r = .seq F_tainted.code.r.r.r.l F_tainted.code.r.r.r.r := rfl
  rw [e, wp_mseq]
  generalize wpM Tryz.prog T (liftM (upM st.length M)) F_tainted.code.r.r.r.r (TQ st K Kp) = k12 at hend ⊢
  obtain ⟨a', e1, e2, g⟩ := h.gs
  have hg := mdl_get (Kd := Kd) (Vo := Vo) (Wd := Wd) (Tp := Tp) (c := c) h.hz
  have hp := mdl_put (Kd := Kd) (Vo := Vo) (Wd := Wd) (Tp := Tp) (c := c) h.hz
  obtain ⟨hb1, hbl⟩ := lb_to hb
  have hz := h.hz
  have m1 := h.md
  simp only [mdl] at m1
  by_cases hl : l z = []
  · simp [F_tainted, MC.l, MC.r, h.g6, m1, hg, hp, hc z, hl, ints]
    refine ⟨by omega, hend _ _ (upd1 c z (.lst false (ints [0]))) (fun j => if j = z then [0] else l j) (fun j => if j = z then false else fl j) (h.step (g.set (Nat.le_refl _) (mdl Kd Vo Wd Tp (upd1 c z (.lst false (ints [0]))))) e1 e2 (get_ne h.rb (by omega) _) (get_set h.md _) (by simp) (by simp) (by simp) (by simp) (by simp)) (fun i => ?_) (by simp) (lb_of hb1 fun i hi => ?_)⟩
    · by_cases hiz : i = z
      · simp [hiz]
      · simp [hiz]; exact hc i
    · by_cases hiz : i = z
      · simp [hiz]; omega
      · simp [hiz]; exact hbl i hi
  · have hl' : (((l z).length : Int) == 0) = false := by
      have := List.length_pos_iff.2 hl
      simp; omega
    simp [F_tainted, MC.l, MC.r, h.g6, m1, hg, hc z, hl']
    exact hend _ _ c l fl (h.step g e1 e2 h.rb h.md (by simp) (by simp) (by simp) (by simp) (by simp)) hc hl hb
set_option maxRecDepth 10000 in
theorem tainted_v (s0 : Nat) (fl : Nat → Bool) (m : LModel) {B : Int} {n : Nat} (hs : st[s0]? = some (strm f xs a)) (hM : M s0 = true) (src : xs.length ≤ 9223372036854775807 ∧ ∀ x ∈ xs, -9223372036854775808 ≤ x ∧ x ≤ 9223372036854775807) (ha : 0 ≤ a ∧ a ≤ 10000000) (hB : 2000 ≤ B ∧ B ≤ 100000) (hn : 1 ≤ n ∧ n ≤ 100000) (hb : LB B n m) (hK : TK st s0 f xs a B n K) :
    CallV Tryz.prog T M 39 [.ptr s0 1 0 0, encM fl m] st K Kp := by
  have hlt : s0 < st.length := (List.getElem?_eq_some_iff.1 hs).1
  have hup : upM st.length M s0 = true := upM_of hM
  have g00 : GS st.length s0 st st f xs a := ⟨Same.refl (Nat.le_refl _), hs, hlt, src⟩
  have hend : ∀ (fr : Fr) (s : St) (c : Nat → V) (z : Nat), TnV st s0 f xs a (a + 1) fr s m.kind m.vocab m.width m.top c z → (∀ i, c i = .lst (fl i) (ints (mls m i))) → wpM Tryz.prog T (liftM (upM st.length M)) F_tainted.code.r.r.r (TQ st K Kp) fr s := fun fr s c z q1 q2 => tn_len hK hM ha hB hn q1 q2 hb
  refine CallV.give (fun_ok hmix c_tainted (le_of rfl) ?_)
  have e : F_tainted.code = .seq F_tainted.code.l (.seq F_tainted.code.r.l (.seq F_tainted.code.r.r.l F_tainted.code.r.r.r)) := rfl
  rw [show Fin F_tainted.res (fun v st' => ∃ v', Frz st.length st' v v' ∧ LowSt st st' ∧ K v' (st'.take st.length)) (fun c st' => LowSt st st' ∧ Kp c (st'.take st.length)) = TQ st K Kp from rfl]
  generalize F_tainted.code.r.r.r = c4 at hend e
  rw [e]
  simp [F_tainted, MC.l, MC.r, encM]
  refine next_g (g00.more _) hup (by omega) 7 (by omega) fun q s1 q1 q2 g1 b1 => ?_
  have m1 := get_but (show (st ++ [mdl m.kind m.vocab m.width m.top (fun i => .lst (fl i) (ints (mls m i))), mdl 0 0 0 0 nils, Blk.row 116 1 [.ptr st.length 1 0 4, .ptr st.length 1 0 5, .ptr st.length 1 0 6, .ptr st.length 1 0 7, .ptr st.length 1 0 8, .ptr st.length 1 0 9, .ptr st.length 1 0 10]])[st.length]? = some (mdl m.kind m.vocab m.width m.top (fun i => .lst (fl i) (ints (mls m i)))) by simp) b1 (by omega)
  have r1 := get_but (show (st ++ [mdl m.kind m.vocab m.width m.top (fun i => .lst (fl i) (ints (mls m i))), mdl 0 0 0 0 nils, Blk.row 116 1 [.ptr st.length 1 0 4, .ptr st.length 1 0 5, .ptr st.length 1 0 6, .ptr st.length 1 0 7, .ptr st.length 1 0 8, .ptr st.length 1 0 9, .ptr st.length 1 0 10]])[st.length + 1]? = some (mdl 0 0 0 0 nils) by simp) b1 (by omega)
  have p1 := get_but (show (st ++ [mdl m.kind m.vocab m.width m.top (fun i => .lst (fl i) (ints (mls m i))), mdl 0 0 0 0 nils, Blk.row 116 1 [.ptr st.length 1 0 4, .ptr st.length 1 0 5, .ptr st.length 1 0 6, .ptr st.length 1 0 7, .ptr st.length 1 0 8, .ptr st.length 1 0 9, .ptr st.length 1 0 10]])[st.length + 2]? = some (Blk.row 116 1 [.ptr st.length 1 0 4, .ptr st.length 1 0 5, .ptr st.length 1 0 6, .ptr st.length 1 0 7, .ptr st.length 1 0 8, .ptr st.length 1 0 9, .ptr st.length 1 0 10]) by simp) b1 (by omega)
  have hq : q = 0 ∨ q = 1 ∨ q = 2 ∨ q = 3 ∨ q = 4 ∨ q = 5 ∨ q = 6 := by omega
  rcases hq with rfl | rfl | rfl | rfl | rfl | rfl | rfl
  · simp [p1]
    exact hend _ _ (fun i => .lst (fl i) (ints (mls m i))) 0 ⟨⟨_, by omega, by omega, g1⟩, m1, r1, by simp, by simp, by simp, by simp, by simp, by omega⟩ fun i => rfl
  · simp [p1]
    exact hend _ _ (fun i => .lst (fl i) (ints (mls m i))) 1 ⟨⟨_, by omega, by omega, g1⟩, m1, r1, by simp, by simp, by simp, by simp, by simp, by omega⟩ fun i => rfl
  · simp [p1]
    exact hend _ _ (fun i => .lst (fl i) (ints (mls m i))) 2 ⟨⟨_, by omega, by omega, g1⟩, m1, r1, by simp, by simp, by simp, by simp, by simp, by omega⟩ fun i => rfl
  · simp [p1]
    exact hend _ _ (fun i => .lst (fl i) (ints (mls m i))) 3 ⟨⟨_, by omega, by omega, g1⟩, m1, r1, by simp, by simp, by simp, by simp, by simp, by omega⟩ fun i => rfl
  · simp [p1]
    exact hend _ _ (fun i => .lst (fl i) (ints (mls m i))) 4 ⟨⟨_, by omega, by omega, g1⟩, m1, r1, by simp, by simp, by simp, by simp, by simp, by omega⟩ fun i => rfl
  · simp [p1]
    exact hend _ _ (fun i => .lst (fl i) (ints (mls m i))) 5 ⟨⟨_, by omega, by omega, g1⟩, m1, r1, by simp, by simp, by simp, by simp, by simp, by omega⟩ fun i => rfl
  · simp [p1]
    exact hend _ _ (fun i => .lst (fl i) (ints (mls m i))) 6 ⟨⟨_, by omega, by omega, g1⟩, m1, r1, by simp, by simp, by simp, by simp, by simp, by omega⟩ fun i => rfl
end
end Go.Proofs.YtkcdgaijklhnaaaGreatDoor.Vm
