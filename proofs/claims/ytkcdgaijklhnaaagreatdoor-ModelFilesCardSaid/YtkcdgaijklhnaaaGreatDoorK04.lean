/-
  The value machine: allocs, calls, regions, code, functions, laws, its simp set, growing slices.
-/
import Derived.Test.YtkcdgaijklhnaaaGreatDoorK03
import Derived.LoopN
import Derived.Defers
import Derived.Laws.StructEq
import Derived.Lib.AppendZerosOnto
namespace Go.Proofs.YtkcdgaijklhnaaaGreatDoor.Vm
open Go.RowKit
def rdl (st : St) : V → Option (List V)
 | .lst _ ys => some ys
 | .own b L lo n => match st[b]? with
  | some (.row _ _ xs) => if xs.length = L then some ((xs.drop lo).take n) else none
  | _ => none
 | _ => none
section
variable {P : Program} {B : Nat} {w0 : World} {E : Env} {st st' : St} {w : World} {M : Nat → Nat → Bool}
theorem sl_of {v : V} {u : Value} {ys : List V} (h : Rel E st w v u) (hv : rdl st v = some ys) : ∃ A c, u = .slice A ys.length c := by
 cases v with
 | lst f xs =>
  cases hv
  cases h with
  | pure h => cases h with
   | nil => exact ⟨_, _, rfl⟩
   | lst _ _ p n c k us hn => exact ⟨_, _, by rw [hn]⟩
 | own b L lo n =>
  simp only [rdl] at hv
  split at hv
  ·rename_i t k xs hb
   split at hv
   ·rename_i hL
    cases hv
    cases h with
    | pure h => cases h
    | own _ _ _ _ _ hbl _ hh =>
     obtain ⟨-, g2⟩ := hh t k xs hb
     obtain ⟨g3, A, rfl, -⟩ := g2 hL.symm
     exact ⟨_, _, by rw [List.length_take, List.length_drop, Nat.min_eq_left (by omega)]⟩
   ·cases hv
  ·cases hv
 | _ => cases hv
theorem src_ok (hR : Rows E st w) {k : Nat} (hk : 0 < k) {v : V} {u : Value} {ys : List V} (h : Rel E st w v u) (hv : rdl st v = some ys) (hy : ∀ y ∈ ys, y.cells.length = k) (hne : ys ≠ []) :
  ∃ a c us, u = .slice (some a) ys.length c ∧ us.length = ys.length * k ∧ (∀ q x, us[q]? = some x → w.cell? (a.add q) = some x) ∧ Pw E st w (flat ys) us ∧ ∀ y ∈ ys, allLeaf y = true := by
 have fin : ∀ (a : Addr) (o : Nat) (f : Nat → Nat → Value), (∀ (i : Nat) (x : V), ys[i]? = some x → ∀ (j : Nat) (y : V), x.cells[j]? = some y → w.cell? ⟨a.block, a.off + (i * k + j), none⟩ = some (f i j) ∧ Rel E st w y (f i j) ∧ y.leaf = true) → a.spot = none →
   ∃ us : List Value, us.length = ys.length * k ∧ (∀ q x, us[q]? = some x → w.cell? (a.add q) = some x) ∧ Pw E st w (flat ys) us ∧ ∀ y ∈ ys, allLeaf y = true := fun a o f hf hs => by
  obtain ⟨ab, ao, az⟩ := a
  simp only at hs
  subst hs
  have hsp : ∀ q, q < ys.length * k → ∃ y, (flat ys)[q]? = some y ∧ w.cell? ⟨ab, ao + q, none⟩ = some (f (q / k) (q % k)) ∧ Rel E st w y (f (q / k) (q % k)) := fun q hq => by
   rw [← flat_len ys hy] at hq
   obtain ⟨x, h1, h2⟩ := flat_split hk ys hy (List.getElem?_eq_getElem hq)
   obtain ⟨g1, g2, -⟩ := hf _ x h1 _ _ h2
   simp only [show q / k * k + q % k = q by rw [Nat.mul_comm]; exact Nat.div_add_mod q k] at g1
   exact ⟨_, List.getElem?_eq_getElem hq, g1, g2⟩
  refine ⟨(List.range (ys.length * k)).map fun q => f (q / k) (q % k), by simp, fun q x hx => ?_, ⟨by rw [flat_len ys hy]; simp, fun q y x hy' hx => ?_⟩, fun y hy' => ?_⟩
  ·rw [List.getElem?_map] at hx
   have hq : q < ys.length * k := by
    apply Nat.lt_of_not_le
    intro hge
    rw [List.getElem?_eq_none (by simpa using hge)] at hx
    cases hx
   rw [List.getElem?_range hq] at hx
   cases hx
   obtain ⟨y, -, g1, -⟩ := hsp q hq
   rw [Addr.add_lit]
   exact g1
  ·rw [List.getElem?_map] at hx
   have hq : q < ys.length * k := by
    apply Nat.lt_of_not_le
    intro hge
    rw [List.getElem?_eq_none (by simpa using hge)] at hx
    cases hx
   rw [List.getElem?_range hq] at hx
   cases hx
   obtain ⟨y2, e, -, g2⟩ := hsp q hq
   rw [hy'] at e
   cases e
   exact g2
  ·obtain ⟨i, hi⟩ := List.getElem?_of_mem hy'
   refine List.all_eq_true.2 fun z hz => ?_
   obtain ⟨j, hj⟩ := List.getElem?_of_mem hz
   exact (hf i y hi j z hj).2.2
 cases v with
 | lst f xs =>
  cases hv
  cases h with
  | pure h => cases h with
   | nil => exact absurd rfl hne
   | lst _ _ p n c k' us hn hc hf hs hZ hk' hl hw hr =>
    have h0 : 0 < ys.length := List.length_pos_iff.2 hne
    have hkk : k' = k := by rw [← hk' 0 _ (List.getElem?_eq_getElem h0)]; exact hy _ (List.getElem_mem h0)
    subst hkk
    obtain ⟨r, r1, r2, r3, r4⟩ := fin p 0 us (fun i x hx j y hy' => ⟨hw i x hx j y hy', .pure (hr i x hx j y hy'), hl i x hx j y hy'⟩) hs
    exact ⟨p, c, r, by rw [hn], r1, r2, r3, r4⟩
 | own b L lo n =>
  simp only [rdl] at hv
  split at hv
  ·rename_i t k' xs hb
   split at hv
   ·rename_i hL
    cases hv
    cases h with
    | pure h => cases h
    | own _ _ _ _ _ hbl _ hh =>
     obtain ⟨-, g2⟩ := hh t k' xs hb
     obtain ⟨g3, A, rfl, g4⟩ := g2 hL.symm
     obtain ⟨k0, k1, k2, k3, k4⟩ := hR b t k' xs hb
     have hlen : ((xs.drop lo).take n).length = n := by rw [List.length_take, List.length_drop]; omega
     have hn0 : 0 < n := by
      have := List.length_pos_iff.2 hne
      omega
     obtain rfl := g4 (by omega)
     obtain ⟨f1, cur, f2, f3, f4⟩ := k4 (by omega)
     have hel : ∀ (i : Nat) (x : V), ((xs.drop lo).take n)[i]? = some x → xs[lo + i]? = some x := fun i x hi => by
      rw [List.getElem?_take] at hi
      split at hi
      ·rwa [List.getElem?_drop] at hi
      ·cases hi
     have h0 : 0 < ((xs.drop lo).take n).length := by omega
     have hkk : k' = k := by
      rw [← (k3 _ _ (hel 0 _ (List.getElem?_eq_getElem h0))).1]
      exact hy _ (List.getElem_mem h0)
     subst hkk
     obtain ⟨r, r1, r2, r3, r4⟩ := fin ⟨E.φ b, lo * k', none⟩ 0 (fun i j => (cur[(lo + i) * k' + j]?).getD undef) (fun i x hx j y hy' => by
      obtain ⟨u, q1, q2⟩ := f4 _ x (hel i x hx) j y hy'
      refine ⟨?_, by rw [q1]; exact q2, (k3 _ x (hel i x hx)).2 j y hy'⟩
      rw [cell_of_row w _ _ _ _ _ f2, show lo * k' + (i * k' + j) = (lo + i) * k' + j by rw [Nat.add_mul]; omega, q1]
      rfl) rfl
     exact ⟨_, _, r, by rw [hlen], r1, r2, r3, r4⟩
   ·cases hv
  ·cases hv
 | _ => cases hv
theorem run_append_none {t ty e : Nat} {i : TypeInfo} (hu : P.underlying t = some (.slice e)) (hi : P.info? e = some i) {A A' : Option Addr} {n c c' : Nat} (hle : n ≤ c) (w : World) :
  (Builtin.append_ #[t, t] ty #[.slice A n c, .slice A' 0 c']).run P w = .ok (.slice A n c) w := by
 cases A <;> cases A' <;> simp [Builtin.append_, run_underlying hu, sizeOf, typeInfo, hi, Builtin.lenOf, Builtin.firstCells, loadCells, loadCellsFrom, storeCells, hle]
theorem set_same {st : St} {b : Nat} {x : Blk} (h : st[b]? = some x) : st.set b x = st := by
 apply List.ext_getElem?
 intro i
 by_cases hi : b = i
 ·subst hi; rw [List.getElem?_set_self (List.getElem?_eq_some_iff.1 h).1, h]
 ·rw [List.getElem?_set_ne hi]
open Classical in
noncomputable def mApp (M : Nat → Nat → Bool) (t k bytes : Nat) (st : St) (s x : V) : Option (V × St) :=
 (rdl st x).bind fun news => if (∀ y ∈ news, y.cells.length = k) then (match s with
  | .own b L lo n => match st[b]? with
   | some (.row t' k' xs) => if xs.length = L ∧ lo = 0 ∧ n = L ∧ (∀ j, M b j = true) ∧ t' = t ∧ k' = k ∧ (L + news.length) * bytes ≤ 140737488355328 ∧ L + news.length ≤ 9223372036854775807 then
     some (.own b (L + news.length) 0 (L + news.length), st.set b (.row t k (xs ++ news)))
     else if xs.length = L ∧ lo = 0 ∧ n < L ∧ (∀ j, M b j = true) ∧ t' = t ∧ k' = k ∧ (n + news.length) * bytes ≤ 140737488355328 ∧ n + news.length ≤ 9223372036854775807 then
     some (.own b (max L (n + news.length)) 0 (n + news.length), st.set b (.row t k (xs.take n ++ news ++ xs.drop (n + news.length)))) else none
   | _ => none
  | .lst true ys => if (∀ y ∈ ys, y.cells.length = k) ∧ (ys = [] ∨ news ≠ []) ∧ (ys.length + news.length) * bytes ≤ 140737488355328 ∧ ys.length + news.length ≤ 9223372036854775807 then
     some (.own st.length (ys.length + news.length) 0 (ys.length + news.length), st ++ [.row t k (ys ++ news)]) else none
  | _ => none) else none
theorem app_own_ok (h : Rep B w0 E st w) {t ty e : Nat} {ie : TypeInfo} {zz : Value} (hu : P.underlying t = some (.slice e)) (hi : P.info? e = some ie) (hiz : ie.zero = some zz) (hzs : zz.cells.size = ie.size) (hk0 : 0 < ie.size)
  {x : V} {us ux : Value} (hx : Rel E st w x ux) {news : List V} (hn : rdl st x = some news) (hnk : ∀ y ∈ news, y.cells.length = ie.size) {b : Nat} {xs : List V} (hs : Rel E st w (.own b xs.length 0 xs.length) us) (hb : st[b]? = some (.row e ie.size xs)) (hM : ∀ j, M b j = true) (hbound : (xs.length + news.length) * ie.bytes ≤ 140737488355328) (h63 : xs.length + news.length ≤ 9223372036854775807) :
  Eff P M B w0 E st w (.own b (xs.length + news.length) 0 (xs.length + news.length)) (st.set b (.row e ie.size (xs ++ news))) (Builtin.append_ #[t, t] ty #[us, ux]) := by
 have hR : Rows E st w := fun b t k xs hb => (h.ok b t k xs hb).1
 have hm63 : maxLen = 9223372036854775807 := by unfold maxLen; rfl
 have hBw : B ≤ w.heap.size := Nat.le_trans h.base h.below.size
 obtain ⟨⟨k0, k1, k2, k3, k4⟩, k5⟩ := h.ok b e _ xs hb
 cases hs with
 | pure hs => cases hs
 | own _ _ _ _ _ hbl _ hh =>
  obtain ⟨-, g2⟩ := hh e _ xs hb
  obtain ⟨-, A, rfl, g4⟩ := g2 rfl
  simp only [Nat.sub_zero] at g4 ⊢
  by_cases hne : news = []
  ·subst hne
   obtain ⟨A', c', rfl⟩ := sl_of hx hn
   refine ⟨E, w, _, run_append_none hu hi (by omega) w, ?_, ?_, ?_⟩
   ·rw [List.append_nil, set_same hb]; exact h
   ·rw [List.append_nil, set_same hb]; exact Stp.refl _ _ _ _
   ·rw [List.append_nil, set_same hb]
    refine .own _ _ _ _ _ hbl rfl fun t2 k2 xs2 hb2 => ?_
    rw [hb] at hb2
    cases hb2
    exact ⟨by simp, fun _ => ⟨by simp, A, by simp, fun hp => by simpa using g4 (by simpa using hp)⟩⟩
  ·obtain ⟨a, c, nu, rfl, n1, n2, n3, n4⟩ := src_ok hR hk0 hx hn hnk hne
   have hm0 : 0 < news.length := List.length_pos_iff.2 hne
   have hleaf : ∀ u ∈ nu, u.oneCell' = true := fun u hu' => by
    obtain ⟨q, hq⟩ := List.getElem?_of_mem hu'
    have hq2 : q < (flat news).length := by rw [← n3.1]; exact (List.getElem?_eq_some_iff.1 hq).1
    obtain ⟨z, z1, z2⟩ := flat_split hk0 news hnk (List.getElem?_eq_getElem hq2)
    exact (n3.2 q _ u (List.getElem?_eq_getElem hq2) hq).one (allLeaf_get (n4 z (List.mem_of_getElem? z1)) _ _ z2)
   have hall : ∀ z ∈ xs ++ news, z.cells.length = ie.size ∧ ∀ (j : Nat) (y : V), z.cells[j]? = some y → y.leaf = true := fun z hz' => by
    rcases List.mem_append.1 hz' with hz' | hz'
    ·obtain ⟨q, hq⟩ := List.getElem?_of_mem hz'; exact k3 q z hq
    ·exact ⟨hnk z hz', fun j y hy => allLeaf_get (n4 z hz') j y hy⟩
   have hres : ∀ (g cap : Nat) (w' : World) (cur : Array Value), Rel (E.put b g cap) (st.set b (.row e ie.size (xs ++ news))) w' (.own b (xs.length + news.length) 0 (xs.length + news.length)) (.slice (some ⟨g, 0, none⟩) (xs.length + news.length) cap) := fun g cap w' cur => by
    refine .own _ _ _ _ _ (by simpa using hbl) rfl fun t2 k2 xs2 hb2 => ?_
    rw [List.getElem?_set_self hbl] at hb2
    cases hb2
    exact ⟨by simp, fun _ => ⟨by simp, some ⟨g, 0, none⟩, by simp [Env.put], fun _ => by simp [Env.put]⟩⟩
   by_cases hκ : 0 < E.κ b
   ·obtain rfl := g4 hκ
    obtain ⟨f1, cur, f2, f3, f4⟩ := k4 hκ
    have hxl : xs.length * ie.size ≤ cur.size := by rw [f3]; exact Nat.mul_le_mul_right _ k2
    have hown : w.ownsRow B e ie.size (.slice (some ⟨E.φ b, 0 * ie.size, none⟩) xs.length (E.κ b)) xs.length (cur.toList.take (xs.length * ie.size)) :=
     ⟨by simp; omega, Or.inr ⟨E.φ b, E.κ b, cur, by simp, k5 hκ, f2, k2, k1, f3, rfl⟩⟩
    obtain ⟨v', w', r1, r2, r3, r4, r5⟩ := run_append_own_at (P := P) w B t ty e ie zz ie.size ie.bytes hu hi hiz rfl rfl hzs hk0 _ xs.length _ hown a news.length c nu n1 n2 hleaf (by omega) hbound hBw
    obtain ⟨q1, q2 | ⟨g, cap, cur', q3, q4, q5, q6, q7, q8, q9⟩⟩ := r2
    ·omega
    ·subst q3
     have hcl : ∀ (i : Nat) (x : V), (xs ++ news)[i]? = some x → ∀ (j : Nat) (y : V), x.cells[j]? = some y → ∃ u, cur'[i * ie.size + j]? = some u ∧ Rel E st w y u := fun i x hx' j y hy => by
      have hj : j < ie.size := by rw [← (hall x (List.mem_of_getElem? hx')).1]; exact (List.getElem?_eq_some_iff.1 hy).1
      have hil : i < (xs ++ news).length := (List.getElem?_eq_some_iff.1 hx').1
      have hidx : i * ie.size + j < (xs.length + news.length) * ie.size := by
       have := Nat.mul_le_mul_right ie.size (show i + 1 ≤ xs.length + news.length by rw [List.length_append] at hil; omega)
       rw [Nat.add_mul] at this
       omega
      have hcur : cur'[i * ie.size + j]? = (cur.toList.take (xs.length * ie.size) ++ nu)[i * ie.size + j]? := by
       rw [← q9, List.getElem?_take_of_lt hidx, Array.getElem?_toList]
      rw [hcur, List.getElem?_append]
      have hlt : (cur.toList.take (xs.length * ie.size)).length = xs.length * ie.size := by simp; omega
      rw [hlt]
      by_cases hix : i < xs.length
      ·have := Nat.mul_le_mul_right ie.size (show i + 1 ≤ xs.length from hix)
       rw [Nat.add_mul] at this
       rw [if_pos (by omega), List.getElem?_take_of_lt (by omega), Array.getElem?_toList]
       rw [List.getElem?_append_left hix] at hx'
       exact f4 i x hx' j y hy
      ·have hge : xs.length ≤ i := by omega
       have := Nat.mul_le_mul_right ie.size hge
       rw [if_neg (by omega)]
       rw [List.getElem?_append_right hge] at hx'
       have e1 : i * ie.size + j - xs.length * ie.size = (i - xs.length) * ie.size + j := by rw [Nat.sub_mul]; omega
       rw [e1]
       have h3 := flat_get news _ j x y hnk hx' hy
       have hq : (i - xs.length) * ie.size + j < nu.length := by rw [n3.1]; exact (List.getElem?_eq_some_iff.1 h3).1
       exact ⟨nu[(i - xs.length) * ie.size + j], List.getElem?_eq_getElem hq, n3.2 _ y _ h3 (List.getElem?_eq_getElem hq)⟩
     obtain ⟨p1, p2⟩ := Rep.one_name (M := M) (st' := st.set b (.row e ie.size (xs ++ news))) h (n := b) (g := g) (c := cap) (t := e) (k := ie.size) (xs := xs ++ news) (cur := cur') (row := some (E.φ b))
      (Or.inr ⟨xs, hb, by simp, fun e => absurd (List.eq_nil_of_length_eq_zero (by rw [List.length_append] at e; omega)) hne, rfl, Or.inr ⟨rfl, hκ, fun p _ hMp => by rw [hM] at hMp; cases hMp⟩⟩) r3 q5 (by
      rcases r5 with r5 | r5
      ·exact Or.inl r5
      ·simp only [Value.ownBlock, Option.some.injEq] at r5; exact Or.inr (by omega)) hk0 q7 (by simpa using q6) q8 (fun i x hx' => hall x (List.mem_of_getElem? hx')) hcl
     exact ⟨_, _, _, r1, p1, p2, hres g cap w' cur'⟩
   ·have hx0 : xs = [] := List.eq_nil_of_length_eq_zero (by omega)
    subst hx0
    have hκ0 : E.κ b = 0 := by omega
    rw [hκ0]
    have hone : ∀ (w' : World) (g cap : Nat) (cur' : Array Value), w.grownBy w' none → w'.heap[g]? = some (.cells cur' e (0, 0)) → w.heap.size ≤ g → cap ≤ maxLen → news.length ≤ cap → cur'.size = cap * ie.size → cur'.toList.take (news.length * ie.size) = nu →
      Rep B w0 (E.put b g cap) (st.set b (.row e ie.size ([] ++ news))) w' ∧ Stp M E st w (E.put b g cap) (st.set b (.row e ie.size ([] ++ news))) w' := fun w' g cap cur' o1 o2 o3 o4 o5 o6 o7 =>
     Rep.one_name (M := M) (st' := st.set b (.row e ie.size ([] ++ news))) h (n := b) (g := g) (c := cap) (t := e) (k := ie.size) (xs := [] ++ news) (cur := cur') (row := none)
      (Or.inr ⟨[], hb, by simp, fun e => absurd (List.eq_nil_of_length_eq_zero (by simpa using e.symm)) hne, rfl, Or.inl rfl⟩) o1 o2 (Or.inr o3) hk0 o4 (by simpa using o5) o6 (fun i x hx' => hall x (List.mem_of_getElem? hx')) (fun i x hx' j y hy => by
      rw [List.nil_append] at hx'
      have h3 := flat_get news _ j x y hnk hx' hy
      have hq : i * ie.size + j < nu.length := by rw [n3.1]; exact (List.getElem?_eq_some_iff.1 h3).1
      refine ⟨nu[i * ie.size + j], ?_, n3.2 _ y _ h3 (List.getElem?_eq_getElem hq)⟩
      rw [← Array.getElem?_toList, ← List.getElem?_eq_getElem hq, ← o7, List.getElem?_take_of_lt (by rw [← n1]; exact hq)])
    cases A with
    | none =>
     obtain ⟨v', w', r1, r2, r3, r4, r5⟩ := run_append_own_at (P := P) w B t ty e ie zz ie.size ie.bytes hu hi hiz rfl rfl hzs hk0 (.slice none 0 0) 0 [] (World.ownsRow_nil w B e ie.size) a news.length c nu n1 n2 hleaf (by simpa [hm63] using h63) (by simpa using hbound) hBw
     obtain ⟨q1, q2 | ⟨g, cap, cur', q3, q4, q5, q6, q7, q8, q9⟩⟩ := r2
     ·omega
     ·subst q3
      have hgs : g = w.heap.size := by
       rcases r5 with r5 | r5
       ·simp [Value.ownBlock] at r5
       ·simpa [Value.ownBlock] using r5
      obtain ⟨p1, p2⟩ := hone w' g cap cur' r3 q5 (by omega) q7 (by simpa using q6) q8 (by simpa using q9)
      have := hres g cap w' cur'
      simp only [List.length_nil, Nat.zero_add] at this r1 ⊢
      exact ⟨_, _, _, r1, p1, p2, this⟩
    | some A0 =>
     have hr := run_append_grow (P := P) (ty := ty) w t e ie zz hu hi hiz A0 0 0 [] (by simp) (fun j u hu' => by simp at hu') a news.length c nu n1 n2 (by omega) (by simp at h63; omega) (growslice_fits (by omega) (by simpa using hbound))
     have hge := grownCap_ge w (0 + news.length) 0 e
     have hcm : grownCap w (0 + news.length) 0 e ≤ maxLen := grownCap_le_maxLen w (0 + news.length) 0 e (by simp at h63; omega)
     obtain ⟨p1, p2⟩ := hone (w.drew.alloc (.cells (([] : List Value).toArray ++ nu.toArray ++ Builtin.zeroCells zz.cells (grownCap w (0 + news.length) 0 e - (0 + news.length))) e)) w.heap.size _ _ ⟨rfl, rfl, rfl, by simp, fun q hq _ => Below.heap_alloc w.drew _ _ hq⟩ (heap_alloc_new w.drew _) (Nat.le_refl _) hcm (by omega) (by
      simp only [Array.size_append, List.size_toArray, size_zeroCells, hzs, n1, List.length_nil, Nat.zero_add]
      rw [← Nat.add_mul]
      congr 1
      rw [Nat.zero_add] at hge
      omega) (by
      simp only [Array.toList_append, List.nil_append]
      exact List.take_left' (by simp [n1]))
     have := hres w.heap.size (grownCap w (0 + news.length) 0 e) (w.drew.alloc (.cells (([] : List Value).toArray ++ nu.toArray ++ Builtin.zeroCells zz.cells (grownCap w (0 + news.length) 0 e - (0 + news.length))) e)) #[]
     simp only [List.length_nil] at this ⊢
     exact ⟨_, _, _, hr, p1, p2, this⟩
theorem app_new_ok (h : Rep B w0 E st w) {t ty e : Nat} {ie : TypeInfo} {zz : Value} (hu : P.underlying t = some (.slice e)) (hi : P.info? e = some ie) (hiz : ie.zero = some zz) (hzs : zz.cells.size = ie.size) (hk0 : 0 < ie.size)
  {x : V} {us ux : Value} (hx : Rel E st w x ux) {news : List V} (hn : rdl st x = some news) (hnk : ∀ y ∈ news, y.cells.length = ie.size) {ys : List V} (hs : Rel E st w (.lst true ys) us) (hyk : ∀ y ∈ ys, y.cells.length = ie.size) (hor : ys = [] ∨ news ≠ []) (hbound : (ys.length + news.length) * ie.bytes ≤ 140737488355328) (h63 : ys.length + news.length ≤ 9223372036854775807) :
  Eff P M B w0 E st w (.own st.length (ys.length + news.length) 0 (ys.length + news.length)) (st ++ [.row e ie.size (ys ++ news)]) (Builtin.append_ #[t, t] ty #[us, ux]) := by
 have hR : Rows E st w := fun b t k xs hb => (h.ok b t k xs hb).1
 have hm63 : maxLen = 9223372036854775807 := by unfold maxLen; rfl
 have hBw : B ≤ w.heap.size := Nat.le_trans h.base h.below.size
 by_cases hne : news = []
 ·subst hne
  have hys : ys = [] := hor.resolve_right fun hh => hh rfl
  subst hys
  obtain ⟨A', c', rfl⟩ := sl_of hx hn
  obtain ⟨s1, s2⟩ := Rep.unborn (M := M) (t := e) h hk0
  cases hs with
  | pure hs => cases hs with
   | nil _ A c hf =>
    obtain rfl := hf.1 rfl
    refine ⟨_, w, _, run_append_none hu hi (Nat.le_refl _) w, s1, s2, ?_⟩
    refine .own _ _ _ _ _ (by simp) rfl fun t' k' xs' hb => ?_
    simp only [List.append_nil] at hb
    rw [List.getElem?_append_right (Nat.le_refl _)] at hb
    simp at hb
    obtain ⟨rfl, rfl, rfl⟩ := hb
    exact ⟨by simp, fun _ => ⟨by simp, A, by simp [Env.put], fun hp => by simp [Env.put] at hp⟩⟩
   | lst _ _ p n c k us hn' hc hf hsp hZ hk' hl hw hr =>
    simp only [List.length_nil] at hn'
    subst hn'
    obtain rfl := hf rfl
    refine ⟨_, w, _, run_append_none hu hi (Nat.le_refl _) w, s1, s2, ?_⟩
    refine .own _ _ _ _ _ (by simp) rfl fun t' k' xs' hb => ?_
    simp only [List.append_nil] at hb
    rw [List.getElem?_append_right (Nat.le_refl _)] at hb
    simp at hb
    obtain ⟨rfl, rfl, rfl⟩ := hb
    exact ⟨by simp, fun _ => ⟨by simp, some p, by simp [Env.put], fun hp => by simp [Env.put] at hp⟩⟩
 ·obtain ⟨a, c, nu, rfl, n1, n2, n3, n4⟩ := src_ok hR hk0 hx hn hnk hne
  have hm0 : 0 < news.length := List.length_pos_iff.2 hne
  have hleaf : ∀ u ∈ nu, u.oneCell' = true := fun u hu' => by
   obtain ⟨q, hq⟩ := List.getElem?_of_mem hu'
   have hq2 : q < (flat news).length := by rw [← n3.1]; exact (List.getElem?_eq_some_iff.1 hq).1
   obtain ⟨z, z1, z2⟩ := flat_split hk0 news hnk (List.getElem?_eq_getElem hq2)
   exact (n3.2 q _ u (List.getElem?_eq_getElem hq2) hq).one (allLeaf_get (n4 z (List.mem_of_getElem? z1)) _ _ z2)
  -- the olds
  have holds : ∃ A ou, us = .slice A ys.length ys.length ∧ (∀ p : Addr, A = some p → ou.length = ys.length * ie.size ∧ ∀ q x, ou[q]? = some x → w.cell? (p.add q) = some x) ∧ (A = none → ou = []) ∧ Pw E st w (flat ys) ou ∧ ∀ y ∈ ys, allLeaf y = true := by
   by_cases hy0 : ys = []
   ·subst hy0
    cases hs with
    | pure hs => cases hs with
     | nil _ A c hf =>
      obtain rfl := hf.1 rfl
      exact ⟨A, [], rfl, fun p _ => ⟨by simp, fun q x hx' => by simp at hx'⟩, fun _ => rfl, Pw.nil, fun y hy => by simp at hy⟩
     | lst _ _ p n c k us hn' hc hf hsp hZ hk' hl hw hr =>
      simp only [List.length_nil] at hn'
      subst hn'
      obtain rfl := hf rfl
      exact ⟨some p, [], rfl, fun p _ => ⟨by simp, fun q x hx' => by simp at hx'⟩, fun _ => rfl, Pw.nil, fun y hy => by simp at hy⟩
   ·obtain ⟨a', c', ou, e1, o1, o2, o3, o4⟩ := src_ok hR hk0 hs rfl hyk hy0
    have hcap : c' = ys.length := by
     cases hs with
     | pure hs => cases hs with
      | nil => exact absurd rfl hy0
      | lst _ _ p n c k us hn' hc hf => 
       injection e1 with _ e2 e3
       have := hf rfl
       omega
    subst hcap
    exact ⟨some a', ou, e1, fun p hp => (by cases hp; exact ⟨o1, o2⟩), fun hh => (by cases hh), o3, o4⟩
  obtain ⟨A, ou, rfl, o1, o2, o3, o4⟩ := holds
  have hcat : Pw E st w (flat (ys ++ news)) (ou ++ nu) := by rw [flat_append]; exact o3.append n3
  have hallk : ∀ z ∈ ys ++ news, z.cells.length = ie.size ∧ allLeaf z = true := fun z hz' => by
   rcases List.mem_append.1 hz' with hz' | hz'
   ·exact ⟨hyk z hz', o4 z hz'⟩
   ·exact ⟨hnk z hz', n4 z hz'⟩
  have hflen : (ou ++ nu).length = (ys.length + news.length) * ie.size := by rw [hcat.1, flat_len _ fun z hz' => (hallk z hz').1, List.length_append]
  cases A with
  | none =>
   obtain rfl := o2 rfl
   have hys : ys.length = 0 := by
    have := o3.1
    rw [flat_len ys hyk, List.length_nil] at this
    exact (Nat.mul_eq_zero.1 this.symm).resolve_right (by omega)
   have hys0 : ys = [] := List.eq_nil_of_length_eq_zero hys
   subst hys0
   obtain ⟨v', w', r1, r2, r3, r4, r5⟩ := run_append_own_at (P := P) w B t ty e ie zz ie.size ie.bytes hu hi hiz rfl rfl hzs hk0 (.slice none 0 0) 0 [] (World.ownsRow_nil w B e ie.size) a news.length c nu n1 n2 hleaf (by simpa [hm63] using h63) (by simpa using hbound) hBw
   obtain ⟨q1, q2 | ⟨g, cap, cur', q3, q4, q5, q6, q7, q8, q9⟩⟩ := r2
   ·omega
   ·subst q3
    have hgs : g = w.heap.size := by
     rcases r5 with r5 | r5
     ·simp [Value.ownBlock] at r5
     ·simpa [Value.ownBlock] using r5
    subst hgs
    have hck : ∀ z ∈ news, z.cells.length = ie.size := hnk
    obtain ⟨p1, p2⟩ := Rep.one_name (M := M) (st' := st ++ [.row e ie.size ([] ++ news)]) h (n := st.length) (g := w.heap.size) (c := cap) (t := e) (k := ie.size) (xs := [] ++ news) (cur := cur') (row := none) (Or.inl ⟨rfl, rfl, rfl⟩) r3 q5 (Or.inr (Nat.le_refl _)) hk0 q7 (by simpa using q6) q8
     (fun i x hx' => ⟨(hallk x (List.mem_of_getElem? hx')).1, fun j y hy => allLeaf_get (hallk x (List.mem_of_getElem? hx')).2 j y hy⟩) (fun i x hx' j y hy => by
     rw [List.nil_append] at hx'
     have h3 := flat_get news _ j x y hnk hx' hy
     have hq : i * ie.size + j < nu.length := by rw [n3.1]; exact (List.getElem?_eq_some_iff.1 h3).1
     refine ⟨nu[i * ie.size + j], ?_, n3.2 _ y _ h3 (List.getElem?_eq_getElem hq)⟩
     have q9' : cur'.toList.take (news.length * ie.size) = nu := by simpa using q9
     rw [← Array.getElem?_toList, ← List.getElem?_eq_getElem hq, ← q9', List.getElem?_take_of_lt (by rw [← n1]; exact hq)])
    simp only [List.length_nil, Nat.zero_add] at r1 ⊢
    exact ⟨_, _, _, r1, p1, p2, new_own (c := cap) (A := some ⟨w.heap.size, 0, none⟩) rfl rfl (fun _ => rfl) (by simp)⟩
  | some A0 =>
   obtain ⟨o5, o6⟩ := o1 A0 rfl
   have hr := run_append_grow (P := P) (ty := ty) w t e ie zz hu hi hiz A0 ys.length ys.length ou o5 o6 a news.length c nu n1 n2 (by omega) (by omega) (growslice_fits (by omega) hbound)
   have hge := grownCap_ge w (ys.length + news.length) ys.length e
   have hcm : grownCap w (ys.length + news.length) ys.length e ≤ maxLen := grownCap_le_maxLen w (ys.length + news.length) ys.length e (by omega)
   obtain ⟨p1, p2⟩ := new_ok (M := M) (w1 := w.drew) (t := e) (k := ie.size) (c := grownCap w (ys.length + news.length) ys.length e) (xs := ys ++ news) (cur := ou.toArray ++ nu.toArray ++ Builtin.zeroCells zz.cells (grownCap w (ys.length + news.length) ys.length e - (ys.length + news.length))) h (grown_drew w) rfl hk0 hcm (by simpa using hge) (by
     simp only [List.append_toArray, Array.size_append, List.size_toArray, size_zeroCells, hzs, hflen]
     rw [← Nat.add_mul]
     congr 1
     omega) hallk (fun q y hy => by
     have hq : q < (ou ++ nu).length := by rw [hcat.1]; exact (List.getElem?_eq_some_iff.1 hy).1
     refine ⟨(ou ++ nu)[q], ?_, hcat.2 q y _ hy (List.getElem?_eq_getElem hq)⟩
     rw [show ou.toArray ++ nu.toArray = (ou ++ nu).toArray by simp, Array.getElem?_append_left (by simpa using hq), List.getElem?_toArray]
     exact List.getElem?_eq_getElem hq)
   exact ⟨_, _, _, hr, p1, p2, new_own (c := grownCap w (ys.length + news.length) ys.length e) (A := some ⟨w.heap.size, 0, none⟩) rfl rfl (fun _ => rfl) (by simp)⟩
theorem win_at (xs news : List V) {n : Nat} (hn : n ≤ xs.length) (i : Nat) : (xs.take n ++ news ++ xs.drop (n + news.length))[i]? = if i < n then xs[i]? else if i < n + news.length then news[i - n]? else xs[i]? := by
 have hl : (xs.take n).length = n := by simp; omega
 by_cases h1 : i < n
 ·rw [if_pos h1, List.append_assoc, List.getElem?_append_left (by omega), List.getElem?_take_of_lt h1]
 ·rw [if_neg h1]
  by_cases h2 : i < n + news.length
  ·rw [if_pos h2, List.getElem?_append_left (by rw [List.length_append]; omega), List.getElem?_append_right (by omega), hl]
  ·rw [if_neg h2, List.getElem?_append_right (by rw [List.length_append]; omega), List.getElem?_drop, List.length_append, hl]
   congr 1
   omega
set_option maxHeartbeats 2000000 in
theorem app_win_ok (h : Rep B w0 E st w) {t ty e : Nat} {ie : TypeInfo} {zz : Value} (hu : P.underlying t = some (.slice e)) (hi : P.info? e = some ie) (hiz : ie.zero = some zz) (hzs : zz.cells.size = ie.size) (hk0 : 0 < ie.size)
  {x : V} {us ux : Value} (hx : Rel E st w x ux) {news : List V} (hn : rdl st x = some news) (hnk : ∀ y ∈ news, y.cells.length = ie.size) {b n : Nat} {xs : List V} (hs : Rel E st w (.own b xs.length 0 n) us) (hlt : n < xs.length) (hb : st[b]? = some (.row e ie.size xs)) (hM : ∀ j, M b j = true) (hbound : (n + news.length) * ie.bytes ≤ 140737488355328) (h63 : n + news.length ≤ 9223372036854775807) :
  Eff P M B w0 E st w (.own b (max xs.length (n + news.length)) 0 (n + news.length)) (st.set b (.row e ie.size (xs.take n ++ news ++ xs.drop (n + news.length)))) (Builtin.append_ #[t, t] ty #[us, ux]) := by
 have hR : Rows E st w := fun b t k xs hb => (h.ok b t k xs hb).1
 have hm63 : maxLen = 9223372036854775807 := by unfold maxLen; rfl
 have hBw : B ≤ w.heap.size := Nat.le_trans h.base h.below.size
 obtain ⟨⟨k0, k1, k2, k3, k4⟩, k5⟩ := h.ok b e _ xs hb
 have hκ : 0 < E.κ b := by omega
 cases hs with
 | pure hs => cases hs
 | own _ _ _ _ _ hbl _ hh =>
  obtain ⟨-, g2⟩ := hh e _ xs hb
  obtain ⟨-, A, rfl, g4⟩ := g2 rfl
  simp only [Nat.sub_zero] at g4 ⊢
  obtain rfl := g4 hκ
  simp only [Nat.zero_mul]
  by_cases hne : news = []
  ·subst hne
   obtain ⟨A', c', rfl⟩ := sl_of hx hn
   have hrow : xs.take n ++ [] ++ xs.drop (n + ([] : List V).length) = xs := by simp
   have hmax : max xs.length (n + ([] : List V).length) = xs.length := by simp; omega
   rw [hrow, hmax, set_same hb]
   refine ⟨E, w, _, run_append_none hu hi (by omega) w, h, Stp.refl _ _ _ _, ?_⟩
   refine .own _ _ _ _ _ hbl rfl fun t2 k2 xs2 hb2 => ?_
   rw [hb] at hb2
   cases hb2
   exact ⟨Nat.le_refl _, fun _ => ⟨by simp; omega, some ⟨E.φ b, 0, none⟩, by simp, fun _ => by simp⟩⟩
  ·obtain ⟨a, c, nu, rfl, n1, n2, n3, n4⟩ := src_ok hR hk0 hx hn hnk hne
   have hm0 : 0 < news.length := List.length_pos_iff.2 hne
   have hleaf : ∀ u ∈ nu, u.oneCell' = true := fun u hu' => by
    obtain ⟨q, hq⟩ := List.getElem?_of_mem hu'
    have hq2 : q < (flat news).length := by rw [← n3.1]; exact (List.getElem?_eq_some_iff.1 hq).1
    obtain ⟨z, z1, z2⟩ := flat_split hk0 news hnk (List.getElem?_eq_getElem hq2)
    exact (n3.2 q _ u (List.getElem?_eq_getElem hq2) hq).one (allLeaf_get (n4 z (List.mem_of_getElem? z1)) _ _ z2)
   obtain ⟨ys, hys⟩ : ∃ ys, xs.take n ++ news ++ xs.drop (n + news.length) = ys := ⟨_, rfl⟩
   have hat : ∀ i, ys[i]? = if i < n then xs[i]? else if i < n + news.length then news[i - n]? else xs[i]? := fun i => by rw [← hys]; exact win_at xs news (by omega) i
   have hyl : ys.length = max xs.length (n + news.length) := by rw [← hys]; simp; omega
   rw [hys, ← hyl]
   have hall : ∀ (i : Nat) (z : V), ys[i]? = some z → z.cells.length = ie.size ∧ ∀ (j : Nat) (y : V), z.cells[j]? = some y → y.leaf = true := fun i z hz' => by
    rw [hat] at hz'
    split at hz'
    ·exact k3 i z hz'
    ·split at hz'
     ·exact ⟨hnk z (List.mem_of_getElem? hz'), fun j y hy => allLeaf_get (n4 z (List.mem_of_getElem? hz')) j y hy⟩
     ·exact k3 i z hz'
   have hres : ∀ (g cap : Nat) (w' : World), Rel (E.put b g cap) (st.set b (.row e ie.size ys)) w' (.own b ys.length 0 (n + news.length)) (.slice (some ⟨g, 0, none⟩) (n + news.length) cap) := fun g cap w' => by
    refine .own _ _ _ _ _ (by simpa using hbl) rfl fun t2 k2 xs2 hb2 => ?_
    rw [List.getElem?_set_self hbl] at hb2
    cases hb2
    exact ⟨by simp, fun _ => ⟨by omega, some ⟨g, 0, none⟩, by simp [Env.put], fun _ => by simp [Env.put]⟩⟩
   obtain ⟨f1, cur, f2, f3, f4⟩ := k4 hκ
   have fin : ∀ cur' : Array Value, (∀ p, p < ys.length * ie.size → cur'[p]? = if p < n * ie.size then cur[p]? else if p < (n + news.length) * ie.size then nu[p - n * ie.size]? else cur[p]?) → ∀ (i : Nat) (x : V), ys[i]? = some x → ∀ (j : Nat) (y : V), x.cells[j]? = some y → ∃ u, cur'[i * ie.size + j]? = some u ∧ Rel E st w y u := fun cur' hc i x hx' j y hy => by
    have hj : j < ie.size := by rw [← (hall i x hx').1]; exact (List.getElem?_eq_some_iff.1 hy).1
    have hil : i < ys.length := (List.getElem?_eq_some_iff.1 hx').1
    have hmul : ∀ q, i < q → i * ie.size + j < q * ie.size := fun q hq => by
     have := Nat.mul_le_mul_right ie.size (show i + 1 ≤ q from hq)
     rw [Nat.add_mul] at this
     omega
    have hmul2 : ∀ q, q ≤ i → ¬ i * ie.size + j < q * ie.size := fun q hq => by
     have := Nat.mul_le_mul_right ie.size hq
     omega
    rw [hc _ (hmul _ hil)]
    rw [hat] at hx'
    by_cases h1 : i < n
    ·rw [if_pos h1] at hx'
     rw [if_pos (hmul _ h1)]
     exact f4 i x hx' j y hy
    ·rw [if_neg h1] at hx'
     rw [if_neg (hmul2 _ (by omega))]
     by_cases h2 : i < n + news.length
     ·rw [if_pos h2] at hx'
      rw [if_pos (hmul _ h2)]
      have e1 : i * ie.size + j - n * ie.size = (i - n) * ie.size + j := by
       have := Nat.mul_le_mul_right ie.size (show n ≤ i by omega)
       rw [Nat.sub_mul]; omega
      rw [e1]
      have h3 := flat_get news _ j x y hnk hx' hy
      have hq : (i - n) * ie.size + j < nu.length := by rw [n3.1]; exact (List.getElem?_eq_some_iff.1 h3).1
      exact ⟨nu[(i - n) * ie.size + j], List.getElem?_eq_getElem hq, n3.2 _ y _ h3 (List.getElem?_eq_getElem hq)⟩
     ·rw [if_neg h2] at hx'
      rw [if_neg (hmul2 _ (by omega))]
      exact f4 i x hx' j y hy
   have hncur : n * ie.size ≤ cur.size := by rw [f3]; exact Nat.mul_le_mul_right _ (by omega)
   by_cases hroom : n + news.length ≤ xs.length
   ·have hylx : ys.length = xs.length := by omega
    have hfit : n * ie.size + nu.length ≤ cur.size := by rw [n1, f3, ← Nat.add_mul]; exact Nat.mul_le_mul_right _ (by omega)
    have hr := run_append_room (P := P) w t ty e ie hu hi (E.φ b) n (E.κ b) cur f2 a news.length c nu n1 n2 hleaf (by omega) hfit
    obtain ⟨cur', hcur'⟩ : ∃ cur', (cur.toList.take (n * ie.size) ++ nu ++ cur.toList.drop (n * ie.size + nu.length)).toArray = cur' := ⟨_, rfl⟩
    rw [hcur'] at hr
    have hsz : cur'.size = E.κ b * ie.size := by rw [← hcur', ← f3]; simp; omega
    have hc : ∀ p, p < ys.length * ie.size → cur'[p]? = if p < n * ie.size then cur[p]? else if p < (n + news.length) * ie.size then nu[p - n * ie.size]? else cur[p]? := fun p _ => by
     have hl : (cur.toList.take (n * ie.size)).length = n * ie.size := by simp; omega
     rw [← hcur', List.getElem?_toArray, Nat.add_mul, ← n1]
     by_cases h1 : p < n * ie.size
     ·rw [if_pos h1, List.append_assoc, List.getElem?_append_left (by omega), List.getElem?_take_of_lt h1, Array.getElem?_toList]
     ·rw [if_neg h1]
      by_cases h2 : p < n * ie.size + nu.length
      ·rw [if_pos h2, List.getElem?_append_left (by rw [List.length_append]; omega), List.getElem?_append_right (by omega), hl]
      ·rw [if_neg h2, List.getElem?_append_right (by rw [List.length_append]; omega), List.getElem?_drop, List.length_append, hl, Array.getElem?_toList]
       congr 1
       omega
    obtain ⟨p1, p2⟩ := Rep.one_name (M := M) (w' := w.setRow (E.φ b) cur') (st' := st.set b (.row e ie.size ys)) h (n := b) (g := E.φ b) (c := E.κ b) (t := e) (k := ie.size) (xs := ys) (cur := cur') (row := some (E.φ b))
     (Or.inr ⟨xs, hb, by omega, fun _ => ⟨rfl, rfl⟩, rfl, Or.inr ⟨rfl, hκ, fun p _ hMp => by rw [hM] at hMp; cases hMp⟩⟩) ⟨rfl, rfl, rfl, by simp, fun k hk hne' => setRow_other w _ k _ (fun e => hne' (by rw [e]))⟩ (setRow_heap w _ cur _ e _ f2) (Or.inl rfl) hk0 k1 (by omega) hsz hall (fin cur' hc)
    exact ⟨_, _, _, hr, p1, p2, hres (E.φ b) (E.κ b) _⟩
   ·have hylx : ys.length = n + news.length := by omega
    have hown : w.ownsRow B e ie.size (.slice (some ⟨E.φ b, 0, none⟩) n (E.κ b)) n (cur.toList.take (n * ie.size)) :=
     ⟨by simp; omega, Or.inr ⟨E.φ b, E.κ b, cur, by simp, k5 hκ, f2, by omega, k1, f3, rfl⟩⟩
    obtain ⟨v', w', r1, r2, r3, r4, r5⟩ := run_append_own_at (P := P) w B t ty e ie zz ie.size ie.bytes hu hi hiz rfl rfl hzs hk0 _ n _ hown a news.length c nu n1 n2 hleaf (by omega) hbound hBw
    obtain ⟨q1, q2 | ⟨g, cap, cur', q3, q4, q5, q6, q7, q8, q9⟩⟩ := r2
    ·omega
    ·subst q3
     have hc : ∀ p, p < ys.length * ie.size → cur'[p]? = if p < n * ie.size then cur[p]? else if p < (n + news.length) * ie.size then nu[p - n * ie.size]? else cur[p]? := fun p hp => by
      rw [hylx] at hp
      have hl : (cur.toList.take (n * ie.size)).length = n * ie.size := by simp; omega
      have hcur : cur'[p]? = (cur.toList.take (n * ie.size) ++ nu)[p]? := by
       rw [← q9, List.getElem?_take_of_lt hp, Array.getElem?_toList]
      rw [hcur]
      by_cases h1 : p < n * ie.size
      ·rw [if_pos h1, List.getElem?_append_left (by omega), List.getElem?_take_of_lt h1, Array.getElem?_toList]
      ·rw [if_neg h1, if_pos hp, List.getElem?_append_right (by omega), hl]
     obtain ⟨p1, p2⟩ := Rep.one_name (M := M) (st' := st.set b (.row e ie.size ys)) h (n := b) (g := g) (c := cap) (t := e) (k := ie.size) (xs := ys) (cur := cur') (row := some (E.φ b))
      (Or.inr ⟨xs, hb, by omega, fun e => by omega, rfl, Or.inr ⟨rfl, hκ, fun p _ hMp => by rw [hM] at hMp; cases hMp⟩⟩) r3 q5 (by
      rcases r5 with r5 | r5
      ·exact Or.inl r5
      ·simp only [Value.ownBlock, Option.some.injEq] at r5; exact Or.inr (by omega)) hk0 q7 (by omega) q8 hall (fin cur' hc)
     exact ⟨_, _, _, r1, p1, p2, hres g cap w'⟩
theorem app_ok (h : Rep B w0 E st w) {t ty e k bytes : Nat} {l : List V} (hu : P.underlying t = some (.slice e)) (hk : sizeX P e = some k) (hby : (P.info? e).map (·.bytes) = some bytes) (hz : zeroX P e = some l) (hzl : l.length = k) (hk0 : 0 < k)
  {s x r : V} {us ux : Value} (hs : Rel E st w s us) (hx : Rel E st w x ux) (ha : mApp M e k bytes st s x = some (r, st')) :
  Eff P M B w0 E st w r st' (Builtin.append_ #[t, t] ty #[us, ux]) := by
 obtain ⟨i, zz, hi, hiz, rfl⟩ := zeroX_ok hz
 obtain ⟨ie, hie, rfl⟩ := sizeX_ok hk
 obtain rfl : ie = i := by rw [hie] at hi; injection hi
 obtain rfl : ie.bytes = bytes := by rw [hi] at hby; simpa using hby
 have hzs : zz.cells.size = ie.size := by simpa using hzl
 obtain ⟨news, hn, ha2⟩ := bind_some ha
 clear ha
 split at ha2
 ·rename_i hnk
  cases s with
  | own b L lo n =>
   dsimp only at ha2
   split at ha2
   ·rename_i t' k' xs hb
    split at ha2
    ·rename_i hc
     obtain ⟨hL, hlo, hnL, hM, ht', hk', hbound, h63⟩ := hc
     subst hlo hnL ht' hk' hL
     cases ha2
     exact app_own_ok h hu hi hiz hzs hk0 hx hn hnk hs hb hM hbound h63
    ·split at ha2
     ·rename_i hc
      obtain ⟨hL, hlo, hnL, hM, ht', hk', hbound, h63⟩ := hc
      subst hlo ht' hk' hL
      cases ha2
      exact app_win_ok h hu hi hiz hzs hk0 hx hn hnk hs hnL hb hM hbound h63
     ·cases ha2
   ·cases ha2
  | lst f ys =>
   cases f with
   | false => cases ha2
   | true =>
    dsimp only at ha2
    split at ha2
    ·rename_i hc
     cases ha2
     exact app_new_ok h hu hi hiz hzs hk0 hx hn hnk hs hc.1 hc.2.1 hc.2.2.1 hc.2.2.2
    ·cases ha2
  | _ => cases ha2
 ·cases ha2
end
end Go.Proofs.YtkcdgaijklhnaaaGreatDoor.Vm
namespace Go.Proofs.YtkcdgaijklhnaaaGreatDoor.Vm
open Go.RowKit
def elemZ (P : Program) (e : Nat) : Option V :=
 match zeroX P e, P.underlying e with
 | some l, some d => cond d.isRow (some (.agg l)) (match l with
  | [y] => some y
  | _ => none)
 | _, _ => none
theorem elemZ_ok {P : Program} {e : Nat} {z : V} (h : elemZ P e = some z) : ∃ l, zeroX P e = some l ∧ z.cells = l := by
 unfold elemZ at h
 split at h
 ·rename_i l d hl hd
  cases hr : d.isRow with
  | true => rw [hr] at h; cases h; exact ⟨l, hl, rfl⟩
  | false =>
  rw [hr] at h
  simp only [cond] at h
  split at h
  ·rename_i y
   cases h
   refine ⟨_, hl, ?_⟩
   obtain ⟨i, zz, h1, h2, h3⟩ := zeroX_ok hl
   have hm : z ∈ zz.cells.toList.map nval := by rw [← h3]; exact List.mem_cons_self
   obtain ⟨u, -, rfl⟩ := List.mem_map.1 hm
   unfold nval
   split <;> rfl
  ·cases h
 ·cases h
def partsQ : List (Nat × Operand) → List (Nat × Od)
 | [] => []
 | (i, x) :: l => (i, cOd x) :: partsQ l
def kOk : TypeDesc → Value → Bool
 | .int k, .int k' _ => decide (k = k')
 | .string, .string _ => true
 | .bool, .bool _ => true
 | _, _ => false
def keyEq : Value → Value → Bool
 | .int _ a, .int _ b => a == b
 | .string a, .string b => a.toList == b.toList
 | .bool a, .bool b => a == b
 | _, _ => false
def mfind (key : Value) : List (Value × V) → Nat → Option (Nat × V)
 | [], _ => none
 | e :: r, i => if keyEq key e.1 = true then some (i, e.2) else mfind key r (i + 1)
def mget (key : Value) (es : List (Value × V)) : Option V := (mfind key es 0).map (·.2)
def mput (key : Value) (v : V) (es : List (Value × V)) : List (Value × V) := match mfind key es 0 with
 | some (j, _) => es.set j (key, v)
 | none => es ++ [(key, v)]
def lkV (kd : TypeDesc) (z : V) (ok : Bool) (st : St) : V → V → Option V
 | .mp b, .val key => match st[b]? with
  | some (.map es) => if kOk kd key = true ∧ (∀ kv ∈ es, kOk kd kv.1 = true) then some (cond ok (.tup [(mget key es).getD z, .val (.bool (mget key es).isSome)]) ((mget key es).getD z)) else none
  | _ => none
 | _, _ => none
def upV (kd : TypeDesc) (st : St) : V → V → V → Option St
 | .mp b, .val key, v => match st[b]? with
  | some (.map es) => if kOk kd key = true ∧ (∀ kv ∈ es, kOk kd kv.1 = true) ∧ v.pure = true then some (st.set b (.map (mput key v es))) else none
  | _ => none
 | _, _, _ => none
section
variable {P : Program} {B : Nat} {w0 : World} {E : Env} {st st' : St} {w : World} {M : Nat → Nat → Bool}
theorem Rep.mname (h : Rep B w0 E st w) {g : Nat} {es : List (Value × V)} (hB : B ≤ g) (hm : MapOk E.Z w g es) (hfr : ∀ b es', st[b]? = some (.map es') → E.φ b ≠ g) :
  Rep B w0 (E.put st.length g 0) (st ++ [.map es]) w ∧ Stp M E st w (E.put st.length g 0) (st ++ [.map es]) w ∧ Rel (E.put st.length g 0) (st ++ [.map es]) w (.mp st.length) (.map (some g)) := by
 have hget : ∀ (b t2 k2 : Nat) (xs2 : List V), (st ++ [.map es])[b]? = some (.row t2 k2 xs2) → b ≠ st.length ∧ st[b]? = some (.row t2 k2 xs2) := fun b t2 k2 xs2 hb => by
  rw [List.getElem?_append] at hb
  split at hb
  ·exact ⟨by omega, hb⟩
  ·have : b - st.length = 0 := by
    have := (List.getElem?_eq_some_iff.1 hb).1
    simpa using this
   rw [this] at hb
   simp at hb
 have hgm : ∀ (b : Nat) (es2 : List (Value × V)), (st ++ [.map es])[b]? = some (.map es2) → (b ≠ st.length ∧ st[b]? = some (.map es2)) ∨ (b = st.length ∧ es2 = es) := fun b es2 hb => by
  rw [List.getElem?_append] at hb
  split at hb
  ·exact Or.inl ⟨by omega, hb⟩
  ·have : b - st.length = 0 := by
    have := (List.getElem?_eq_some_iff.1 hb).1
    simpa using this
   rw [this] at hb
   simp at hb
   exact Or.inr ⟨by omega, hb.symm⟩
 have hext : Ext E st w (E.put st.length g 0) (st ++ [.map es]) w := by
  refine ⟨by simp, fun _ h => h, fun _ _ _ h => h, fun b t2 k2 xs2 hb hx => ?_, fun b es2 hb hx => ?_⟩
  ·obtain ⟨e1, e2⟩ := hget b t2 k2 xs2 hx
   exact ⟨xs2, e2, Nat.le_refl _, fun _ => by simp [Env.put, e1]⟩
  ·rw [List.getElem?_append_left hb] at hx
   exact ⟨⟨es2, hx⟩, by simp [Env.put, Nat.ne_of_lt hb]⟩
 refine ⟨⟨h.base, h.below, h.zlt, fun b t2 k2 xs2 hb => ?_, fun a b t1 k1 x1 t2 k2 x2 ha hb ka kb e => ?_, fun b es2 hb => ?_, fun a b e1 e2 ha hb e => ?_⟩, ⟨hext, fun b t2 k2 xs2 hb hkb => ?_, fun _ _ _ => rfl, Nat.le_refl _⟩, .mp _ _ (by simp) rfl fun es2 hb => by simp [Env.put]⟩
 ·obtain ⟨hne, hb'⟩ := hget b t2 k2 xs2 hb
  obtain ⟨⟨k0, k1, k2', k3, k4⟩, k5⟩ := h.ok b t2 k2 xs2 hb'
  refine ⟨⟨k0, by simp [Env.put, hne, k1], by simp [Env.put, hne, k2'], k3, fun hkb => ?_⟩, fun hkb => by simp only [Env.put, hne, if_false] at hkb ⊢; exact k5 hkb⟩
  simp only [Env.put, hne, if_false] at hkb ⊢
  obtain ⟨g1, cur, g2, g3, g4⟩ := k4 hkb
  refine ⟨g1, cur, g2, g3, fun i x hi j y hy => ?_⟩
  obtain ⟨u, f1, f2⟩ := g4 i x hi j y hy
  exact ⟨u, f1, f2.mono hext⟩
 ·obtain ⟨na, ha'⟩ := hget a _ _ _ ha
  obtain ⟨nb, hb'⟩ := hget b _ _ _ hb
  simp only [Env.put, na, nb, if_false] at e ka kb
  exact h.inj _ _ _ _ _ _ _ _ ha' hb' ka kb e
 ·rcases hgm b es2 hb with ⟨nb, hb'⟩ | ⟨rfl, rfl⟩
  ·have e3 : (E.put st.length g 0).φ b = E.φ b := by simp [Env.put, nb]
   rw [e3]
   exact h.maps b es2 hb'
  ·have e3 : (E.put st.length g 0).φ st.length = g := by simp [Env.put]
   rw [e3]
   exact ⟨hB, hm⟩
 ·rcases hgm a _ ha with ⟨na, ha'⟩ | ⟨rfl, rfl⟩ <;> rcases hgm b _ hb with ⟨nb, hb'⟩ | ⟨rfl, rfl⟩
  ·simp only [Env.put, na, nb, if_false] at e
   exact h.minj a b _ _ ha' hb' e
  ·simp only [Env.put, na, if_false, if_true] at e
   exact absurd e (hfr a _ ha')
  ·simp only [Env.put, nb, if_false, if_true] at e
   exact absurd e.symm (hfr b _ hb')
  ·rfl
 ·obtain ⟨nb, hb'⟩ := hget b _ _ _ hb
  simp only [Env.put, nb, if_false] at hkb ⊢
  exact Or.inl ⟨(List.getElem?_eq_some_iff.1 hb').1, trivial, hkb⟩
theorem Rep.mset (h : Rep B w0 E st w) {b : Nat} {es es' : List (Value × V)} (hb : st[b]? = some (.map es)) {ents : Array MapEntry} {ck : Nat} (hs : ents.size = es'.length)
  (hr : ∀ (i : Nat) (kv : Value × V) (e : MapEntry), es'[i]? = some kv → ents[i]? = some e → e.key = kv.1 ∧ PR E.Z w kv.2 e.val) :
  Rep B w0 E (st.set b (.map es')) { w with heap := w.heap.setIfInBounds (E.φ b) (.map ents ck) } ∧ Stp M E st w E (st.set b (.map es')) { w with heap := w.heap.setIfInBounds (E.φ b) (.map ents ck) } := by
 obtain ⟨m1, ents0, ck0, m2, m3, m4⟩ := h.maps b es hb
 have hlt := (Array.getElem?_eq_some_iff.1 m2).1
 have hbl := (List.getElem?_eq_some_iff.1 hb).1
 have hold : ∀ q, q ≠ E.φ b → (w.heap.setIfInBounds (E.φ b) (.map ents ck))[q]? = w.heap[q]? := fun q hq => Array.getElem?_setIfInBounds_ne (Ne.symm hq)
 have hnew : (w.heap.setIfInBounds (E.φ b) (.map ents ck))[E.φ b]? = some (.map ents ck) := by rw [Array.getElem?_setIfInBounds, if_pos rfl, if_pos hlt]
 generalize hw' : ({ w with heap := w.heap.setIfInBounds (E.φ b) (.map ents ck) } : World) = w'
 have hheap : ∀ q, q ≠ E.φ b → w'.heap[q]? = w.heap[q]? := by subst hw'; exact hold
 have hnew' : w'.heap[E.φ b]? = some (.map ents ck) := by subst hw'; exact hnew
 have hsz : w'.heap.size = w.heap.size := by subst hw'; simp
 have hcell : ∀ p : Addr, w'.cell? p = w.cell? p := fun p => by
  by_cases e : p.block = E.φ b
  ·simp only [World.cell?, e, hnew', m2]
  ·exact World.cell?_of_block (hheap _ e)
 have hget : ∀ (b2 t2 k2 : Nat) (xs2 : List V), (st.set b (.map es'))[b2]? = some (.row t2 k2 xs2) → st[b2]? = some (.row t2 k2 xs2) := fun b2 t2 k2 xs2 hx => by
  by_cases e : b2 = b
  ·subst e; rw [List.getElem?_set_self hbl] at hx; cases hx
  ·rwa [List.getElem?_set_ne (Ne.symm e)] at hx
 have hgm : ∀ (b2 : Nat) (es2 : List (Value × V)), (st.set b (.map es'))[b2]? = some (.map es2) → (b2 = b ∧ es2 = es') ∨ (b2 ≠ b ∧ st[b2]? = some (.map es2)) := fun b2 es2 hx => by
  by_cases e : b2 = b
  ·subst e; rw [List.getElem?_set_self hbl] at hx; cases hx; exact Or.inl ⟨rfl, rfl⟩
  ·rw [List.getElem?_set_ne (Ne.symm e)] at hx; exact Or.inr ⟨e, hx⟩
 have hall : ∀ (b2 : Nat) (es2 : List (Value × V)), (st.set b (.map es'))[b2]? = some (.map es2) → ∃ e, st[b2]? = some (.map e) := fun b2 es2 hx => by
  rcases hgm b2 es2 hx with ⟨rfl, -⟩ | ⟨-, e⟩
  ·exact ⟨es, hb⟩
  ·exact ⟨es2, e⟩
 have hext : Ext E st w E (st.set b (.map es')) w' := ⟨by simp, fun _ h => h, fun p u _ hu => by rw [hcell]; exact hu, fun b2 t k xs _ hx => ⟨xs, hget _ _ _ _ hx, Nat.le_refl _, fun _ => ⟨rfl, rfl⟩⟩, fun b2 e2 _ hx => ⟨hall b2 e2 hx, rfl⟩⟩
 refine ⟨⟨h.base, ?_, fun g hg => by rw [hsz]; exact h.zlt g hg, fun b2 t k xs hx => ?_, fun a c t k xs t' k' xs' ha hc => h.inj a c t k xs t' k' xs' (hget _ _ _ _ ha) (hget _ _ _ _ hc), fun b2 e2 hx => ?_, fun a c e1 e2 ha hc e => ?_⟩, ⟨hext, fun b2 t k xs hx hk => Or.inl ⟨(List.getElem?_eq_some_iff.1 (hget _ _ _ _ hx)).1, rfl, hk⟩, fun p _ _ => hcell p, by omega⟩⟩
 ·refine ⟨?_, ?_, ?_, ?_, fun q hq => ?_⟩
  ·subst hw'; exact h.below.os
  ·subst hw'; exact h.below.tape
  ·subst hw'; exact h.below.output
  ·rw [hsz]; exact h.below.size
  ·exact (hheap q (by omega)).trans (h.below.block q hq)
 ·obtain ⟨⟨k0, k1, k2, k3, k4⟩, k5⟩ := h.ok b2 t k xs (hget _ _ _ _ hx)
  refine ⟨⟨k0, k1, k2, k3, fun hk => ?_⟩, k5⟩
  obtain ⟨g1, cur, g2, g3, g4⟩ := k4 hk
  refine ⟨g1, cur, (hheap _ (fun e => by rw [e, m2] at g2; cases g2)).trans g2, g3, fun i x hi j y hy => ?_⟩
  obtain ⟨u, f1, f2⟩ := g4 i x hi j y hy
  exact ⟨u, f1, f2.mono hext⟩
 ·rcases hgm b2 e2 hx with ⟨rfl, rfl⟩ | ⟨hne, hx'⟩
  ·exact ⟨m1, ents, ck, hnew', hs, fun i kv e hi he => ⟨(hr i kv e hi he).1, (hr i kv e hi he).2.mono (fun _ h => h) (fun p u _ hu => by rw [hcell]; exact hu)⟩⟩
  ·obtain ⟨q1, q2⟩ := h.maps b2 e2 hx'
   exact ⟨q1, q2.mono (fun _ h => h) (fun p u _ hu => by rw [hcell]; exact hu) (hheap _ fun e => hne (h.minj b2 b _ _ hx' hb e))⟩
 ·obtain ⟨f1, ha'⟩ := hall a e1 ha
  obtain ⟨f2, hc'⟩ := hall c e2 hc
  exact h.minj a c f1 f2 ha' hc' e
theorem kOk_cases {kd : TypeDesc} {v : Value} (h : kOk kd v = true) : (∃ k n, kd = .int k ∧ v = .int k n) ∨ (∃ s, kd = .string ∧ v = .string s) ∨ ∃ b, kd = .bool ∧ v = .bool b := by
 unfold kOk at h
 split at h
 ·rename_i k k' n
  obtain rfl := of_decide_eq_true h
  exact Or.inl ⟨_, _, rfl, rfl⟩
 ·exact Or.inr (Or.inl ⟨_, rfl, rfl⟩)
 ·exact Or.inr (Or.inr ⟨_, rfl, rfl⟩)
 ·cases h
theorem same_now {kd : TypeDesc} {a b : Value} (h1 : kOk kd a = true) (h2 : kOk kd b = true) : Instr.sameNow kd a b = some (keyEq a b) := by
 rcases kOk_cases h1 with ⟨k, n, rfl, rfl⟩ | ⟨s, rfl, rfl⟩ | ⟨q, rfl, rfl⟩ <;> rcases kOk_cases h2 with ⟨k', n', e, rfl⟩ | ⟨s', e, rfl⟩ | ⟨q', e, rfl⟩ <;> first
  | (cases e; done)
  | (cases e; simp [Instr.sameNow, keyEq, beq_toListBytes])
theorem rel_ok {v : V} {u : Value} (h : Rel E st w v u) (b : Bool) : Rel E st w (.tup [v, .val (.bool b)]) (.tuple #[u, .bool b]) := .tup _ [u, .bool b] rfl fun q y z hy hz => by
 match q with
 | 0 => cases hy; cases hz; exact h
 | 1 => cases hy; cases hz; exact .pure (.val _)
theorem find_now {kd : TypeDesc} {key : Value} (hk : kOk kd key = true) {Z : Nat → Prop} : ∀ (es : List (Value × V)) (ents : List MapEntry) (i0 : Nat), (∀ kv ∈ es, kOk kd kv.1 = true) → ents.length = es.length →
  (∀ (i : Nat) (kv : Value × V) (e : MapEntry), es[i]? = some kv → ents[i]? = some e → e.key = kv.1 ∧ PR Z w kv.2 e.val) →
  (mfind key es i0 = none ∧ Instr.findNow kd key ents i0 = some none) ∨ ∃ j v u, mfind key es i0 = some (i0 + j, v) ∧ Instr.findNow kd key ents i0 = some (some (i0 + j, u)) ∧ PR Z w v u ∧ j < es.length ∧ ∃ e, ents[j]? = some e ∧ keyEq key e.key = true
 | [], [], i0, _, _, _ => Or.inl ⟨rfl, rfl⟩
 | [], _ :: _, _, _, h, _ => by simp at h
 | _ :: _, [], _, _, h, _ => by simp at h
 | kv :: es, e :: ents, i0, h1, h2, h3 => by
  obtain ⟨f1, f2⟩ := h3 0 kv e rfl rfl
  have hs := same_now hk (h1 kv List.mem_cons_self)
  have hs' : Instr.sameNow kd key e.key = some (keyEq key kv.1) := by rw [f1]; exact hs
  simp only [mfind, Instr.findNow, hs']
  cases hc : keyEq key kv.1 with
  | true => exact Or.inr ⟨0, kv.2, e.val, by simp, by simp, f2, by simp, e, rfl, by rw [f1]; exact hc⟩
  | false =>
   rcases find_now hk es ents (i0 + 1) (fun x hx => h1 x (List.mem_cons_of_mem _ hx)) (by simpa using h2) (fun i kv' e' hi he => h3 (i + 1) kv' e' (by simpa using hi) (by simpa using he)) with ⟨g1, g2⟩ | ⟨j, v, u, g1, g2, g3, g4, e', g5, g6⟩
   ·exact Or.inl ⟨by simpa using g1, by simpa using g2⟩
   ·exact Or.inr ⟨j + 1, v, u, by simpa [show i0 + 1 + j = i0 + (j + 1) by omega] using g1, by simpa [show i0 + 1 + j = i0 + (j + 1) by omega] using g2, g3, by simp; omega, e', by simpa using g5, g6⟩
theorem check_key {kd : TypeDesc} {kt : Nat} {key : Value} (hu : P.underlying kt = some kd) (hk : kOk kd key = true) (em : Bool) (w' : World) : (Instr.checkKey em 10000 kt key).run P w' = .ok () w' := by
 have h : ∀ n, (Instr.checkKey em (n + 1) kt key).run P w' = .ok () w' := fun n => by
  unfold Instr.checkKey
  rcases kOk_cases hk with ⟨k, n, rfl, rfl⟩ | ⟨s, rfl, rfl⟩ | ⟨b, rfl, rfl⟩ <;> simp [run_underlying hu]
 exact h 9999
theorem find_key {kd : TypeDesc} {kt : Nat} {key : Value} {es : List MapEntry} {r : Option (Nat × Value)} (hu : P.underlying kt = some kd) (h : Instr.findNow kd key es 0 = some r) (w' : World) : (Instr.findKey kt key es).run P w' = .ok r w' := by
 simp [Instr.findKey, run_underlying hu, h]
theorem lk_ok (h : Rep B w0 E st w) {t kt et : Nat} {kd : TypeDesc} {i : TypeInfo} {z : Value} (hu : P.underlying t = some (.map kt et)) (hk : P.underlying kt = some kd) (hi : P.info? et = some i) (hz : i.zero = some z) {ok : Bool} {x ix r : V} {ux ui : Value} (hx : Rel E st w x ux) (hix : Rel E st w ix ui) (hs : lkV kd (cval z) ok st x ix = some r) :
  Eff P M B w0 E st w r st (Instr.lookup t ux ui ok) := by
 unfold lkV at hs
 split at hs
 ·rename_i b key
  obtain rfl := hix.lit
  split at hs
  ·rename_i es hb
   split at hs
   ·rename_i hc
    cases hs
    obtain ⟨m1, ents, ck, m2, m3, m4⟩ := h.maps b es hb
    cases hx with
    | pure hx => cases hx
    | mp _ _ _ _ hm =>
     obtain rfl := hm es hb
     have h3 : (getObj (E.φ b)).run P w = .ok (.map ents ck) w := by simp [getObj, Sem.run, m2]
     have hzv : (zeroValue et).run P w = .ok z w := by simp [zeroValue, typeInfo, hi, hz]
     rcases find_now (Z := E.Z) (w := w) hc.1 es ents.toList 0 hc.2 (by simpa using m3) (fun q kv e hq he => m4 q kv e hq (by simpa using he)) with ⟨g1, g2⟩ | ⟨j, v, u, g1, g2, g3, g4, -⟩
     ·have hmg : mget ui es = none := by simp [mget, g1]
      refine ⟨E, w, if ok then .tuple #[z, .bool false] else z, ?_, h, Stp.refl _ _ _ _, ?_⟩
      ·cases ok <;> simp only [Instr.lookup, Sem.run_bind, run_underlying hu w, Result.andThen_ok, h3, Sem.run_pure, check_key hk hc.1, find_key hk g2, hzv] <;> rfl
      ·rw [hmg]
       cases ok with
       | false => exact cval_ok _ _ _ _
       | true => exact rel_ok (cval_ok _ _ _ _) _
     ·have hmg : mget ui es = some v := by simp [mget, g1]
      refine ⟨E, w, if ok then .tuple #[u, .bool true] else u, ?_, h, Stp.refl _ _ _ _, ?_⟩
      ·cases ok <;> simp only [Instr.lookup, Sem.run_bind, run_underlying hu w, Result.andThen_ok, h3, Sem.run_pure, check_key hk hc.1, find_key hk g2] <;> rfl
      ·rw [hmg]
       cases ok with
       | false => exact g3.rel
       | true => exact rel_ok g3.rel _
   ·cases hs
  ·cases hs
 ·cases hs
theorem same_bits {kd : TypeDesc} {a b : Value} (h1 : kOk kd a = true) (h2 : kOk kd b = true) (h : keyEq a b = true) : Instr.sameBits 10000 b a = true := by
 rcases kOk_cases h1 with ⟨k, n, rfl, rfl⟩ | ⟨s, rfl, rfl⟩ | ⟨q, rfl, rfl⟩ <;> rcases kOk_cases h2 with ⟨k', n', e, rfl⟩ | ⟨s', e, rfl⟩ | ⟨q', e, rfl⟩ <;> first
  | (cases e; done)
  | (cases e; simp only [keyEq, beq_iff_eq] at h; simp [Instr.sameBits, beq_toListBytes, h])
theorem up_ok (h : Rep B w0 E st w) {t kt et : Nat} {kd : TypeDesc} (hu : P.underlying t = some (.map kt et)) (hk : P.underlying kt = some kd) {x k v : V} {ux uk uv : Value} (hx : Rel E st w x ux) (hkx : Rel E st w k uk) (hv : Rel E st w v uv) (hs : upV kd st x k v = some st') :
  ∃ E' w', (Instr.mapUpdate t ux uk uv).run P w = .ok () w' ∧ Rep B w0 E' st' w' ∧ Stp M E st w E' st' w' := by
 unfold upV at hs
 split at hs
 ·rename_i b key
  obtain rfl := hkx.lit
  split at hs
  ·rename_i es hb
   split at hs
   ·rename_i hc
    cases hs
    obtain ⟨m1, ents, ck, m2, m3, m4⟩ := h.maps b es hb
    cases hx with
    | pure hx => cases hx
    | mp _ _ _ _ hm =>
     obtain rfl := hm es hb
     have h3 : (getObj (E.φ b)).run P w = .ok (.map ents ck) w := by simp [getObj, Sem.run, m2]
     have hset : ∀ o : Obj, (setObj (E.φ b) o).run P w = .ok () { w with heap := w.heap.setIfInBounds (E.φ b) o } := fun o => by simp [setObj, Sem.run, m2]
     have hpr := hv.pr hc.2.2
     rcases find_now (Z := E.Z) (w := w) hc.1 es ents.toList 0 hc.2.1 (by simpa using m3) (fun q kv e hq he => m4 q kv e hq (by simpa using he)) with ⟨g1, g2⟩ | ⟨j, v', u, g1, g2, g3, g4, e, g5, g6⟩
     ·have hmp : mput uk v es = es ++ [(uk, v)] := by simp [mput, g1]
      rw [hmp]
      obtain ⟨r1, r2⟩ := Rep.mset (M := M) (es' := es ++ [(uk, v)]) (ents := ents.push { key := uk, val := uv, born := ck }) (ck := ck + 1) h hb (by simp [m3]) (fun q kv e hq he => by
       rw [List.getElem?_append] at hq
       rw [Array.getElem?_push] at he
       split at hq
       ·rename_i hlt
        rw [if_neg (by omega)] at he
        exact m4 q kv e hq he
       ·have : q - es.length = 0 := by
         have := (List.getElem?_eq_some_iff.1 hq).1
         simpa using this
        rw [this] at hq
        rw [if_pos (by omega)] at he
        cases hq; cases he
        exact ⟨rfl, hpr⟩)
      exact ⟨E, _, by simp only [Instr.mapUpdate, Sem.run_bind, run_underlying hu w, Result.andThen_ok, h3, check_key hk hc.1, find_key hk g2, hset], r1, r2⟩
     ·rw [Nat.zero_add] at g1 g2
      have hmp : mput uk v es = es.set j (uk, v) := by simp [mput, g1]
      rw [hmp]
      have g5' : ents[j]? = some e := by simpa using g5
      have hek : kOk kd e.key = true := by
       obtain ⟨q1, -⟩ := m4 j es[j] e (List.getElem?_eq_getElem g4) g5'
       rw [q1]
       exact hc.2.1 _ (List.getElem_mem g4)
      have hst : (Instr.keyThatStays e.key uk).run P w = .ok uk w := by simp [Instr.keyThatStays, same_bits hc.1 hek g6]
      obtain ⟨r1, r2⟩ := Rep.mset (M := M) (es' := es.set j (uk, v)) (ents := ents.modify j fun e => { e with key := uk, val := uv }) (ck := ck) h hb (by simp [m3]) (fun q kv e hq he => by
       rw [Array.getElem?_modify] at he
       by_cases hqj : j = q
       ·subst hqj
        rw [List.getElem?_set_self g4] at hq
        cases hq
        rw [if_pos rfl, g5'] at he
        cases he
        exact ⟨rfl, hpr⟩
       ·rw [List.getElem?_set_ne hqj] at hq
        rw [if_neg hqj] at he
        exact m4 q kv e hq he)
      exact ⟨E, _, by simp only [Instr.mapUpdate, Sem.run_bind, run_underlying hu w, Result.andThen_ok, h3, check_key hk hc.1, find_key hk g2, g5', Option.map_some, Option.getD_some, hst, hset], r1, r2⟩
   ·cases hs
  ·cases hs
 ·cases hs
theorem mkmap_ok (h : Rep B w0 E st w) (t : Nat) : Eff P M B w0 E st w (.mp st.length) (st ++ [.map []]) (Instr.makeMap t none) := by
 have hg : w.grownBy (w.alloc (.map #[] 0)) none := ⟨rfl, rfl, rfl, by simp, fun q hq _ => Below.heap_alloc w _ _ hq⟩
 obtain ⟨r1, r2⟩ := Rep.idle (M := M) h hg
 obtain ⟨s1, s2, s3⟩ := Rep.mname (M := M) (es := []) r1 (g := w.heap.size) (Nat.le_trans h.base h.below.size) ⟨#[], 0, heap_alloc_new w _, rfl, fun i kv e hi => by simp at hi⟩ (fun b es' hb e => by
  have := (h.maps b es' hb).2.lt
  omega)
 exact ⟨_, _, _, by simp [Instr.makeMap, newObj, Sem.run], s1, r2.trans s2, s3⟩
end
def compE0 (P : Program) (op : Op) : Option MOp :=
 match op with
 | .makeMap _ none => some .mkmap
 | .lookup t x i ok => match P.underlying t with
  | some (.map kt et) => match P.underlying kt, P.info? et with
   | some kd, some inf => match inf.zero with
    | some z => some (.mlk kd (cval z) ok (cOd x) (cOd i))
    | none => none
   | _, _ => none
  | _ => none
 | .mapUpdate t x k v => match P.underlying t with
  | some (.map kt _) => match P.underlying kt with
   | some kd => some (.mup kd (cOd x) (cOd k) (cOd v))
   | none => none
  | _ => none
 | .store t x v => match sizeX P t with
  | some n => some (.store n (cOd x) (cOd v))
  | none => none
 | .alloc t => match elemZ P t with
  | some z => cond (allLeaf z && Nat.blt 0 z.cells.length) (some (.alloc t z)) none
  | none => none
 | .box t x => some (.box t (cOd x))
 | .buildSlice t len parts => match P.underlying t with
  | some (.slice e) => match sizeX P e, elemZ P e with
   | some k, some z => cond (Nat.beq len 0 && parts.isEmpty) (some .emp) (cond (Nat.beq z.cells.length k && allLeaf z && Nat.blt 0 k && Nat.ble (len * k) 16777216 && Nat.blt 0 len) (some (.bsl e k len z (partsQ parts.toList))) none)
   | _, _ => none
  | _ => none
 | .makeSlice t x y => match P.underlying t with
  | some (.slice e) => match sizeX P e, elemZ P e, P.info? e with
   | some k, some z, some i => cond (Nat.beq z.cells.length k && allLeaf z && Nat.blt 0 k) (some (.mksl e k i.bytes z (cOd x) (cOd y))) none
   | _, _, _ => none
  | _ => none
 | .call { callee := .builtin .append, args, argTypes } => match args.toList, argTypes.toList with
  | [s, x], [t, t'] => match P.underlying t with
   | some (.slice e) => match sizeX P e, elemZ P e, P.info? e with
    | some k, some z, some i => cond (Nat.beq t t' && Nat.beq z.cells.length k && Nat.blt 0 k) (some (.app e k i.bytes (cOd s) (cOd x))) none
    | _, _, _ => none
   | _ => none
  | _, _ => none
 | _ => none
def frzOp : MOp → MOp
 | .bsl _ k 1 _ [(0, .c v)] => .flit k v
 | m => m
def compZ (P : Program) (op : Op) : Option MOp :=
 match op with
 | .call { callee := .builtin .append, args, argTypes } => match args.toList, argTypes.toList with
  | [s, x], [t, t'] => match P.underlying t, P.underlying t' with
   | some (.slice e), some (.int _) => match sizeX P e, elemZ P e, P.info? e with
    | some k, some z, some i => cond (Nat.beq z.cells.length k && allLeaf z && Nat.blt 0 k) (some (.apz e k i.bytes z (cOd s) (cOd x))) none
    | _, _, _ => none
   | _, _ => none
  | _, _ => none
 | _ => none
def compE (P : Program) (op : Op) : Option MOp := match compE0 P op with
 | some m => some (frzOp m)
 | none => compZ P op
def evq (T : Tbl) (fr : Fr) : List (Nat × Od) → Option (List (Nat × V))
 | [] => some []
 | (i, x) :: l => match x.ev T fr, evq T fr l with
  | some v, some r => some ((i, v) :: r)
  | _, _ => none
def slzV (k : Nat) (st : St) (l h m : Nat) : V → Option (V × St)
 | .own b L lo _ => match st[b]? with
  | some (.row _ k' xs) => if xs.length = L ∧ k' = k ∧ lo = 0 ∧ l = 0 ∧ h = m ∧ 0 < h ∧ h ≤ L ∧ (∀ x ∈ xs, x.cells.all V.pl = true) then some (.lst true (xs.take h), st.set b .dead) else none
  | _ => none
 | _ => none
noncomputable def mEff (T : Tbl) (M : Nat → Nat → Bool) (op : MOp) (fr : Fr) (st : St) : Option (V × St) :=
 match op with
 | .store n x v => (x.ev T fr).bind fun p => (v.ev T fr).bind fun u => (mStore M n st p u).bind fun st' => some (.val undef, st')
 | .alloc t z => some (.ptr st.length 1 0 0, st ++ [.row t z.cells.length [z]])
 | .box t x => (x.ev T fr).bind fun v => if allLeaf v = true ∧ 0 < v.cells.length then some (.ptr st.length 1 0 0, st ++ [.row t v.cells.length [v]]) else none
 | .bsl t k len z ps => (evq T fr ps).bind fun l => if (∀ q ∈ l, q.1 < len ∧ q.2.cells.length = k ∧ allLeaf q.2 = true) then some (.own st.length len 0 len, st ++ [.row t k (setAll (List.replicate len z) l)]) else none
 | .flit k v => if v.cells.length = k ∧ allLeaf v = true ∧ v.cells.all V.pl = true then some (.lst false [v], st) else none
 | .emp => some (.lst true [], st)
 | .mkmap => some (.mp st.length, st ++ [.map []])
 | .mlk kd z ok x i => (x.ev T fr).bind fun x => (i.ev T fr).bind fun i => (lkV kd z ok st x i).bind fun r => some (r, st)
 | .mup kd x k v => (x.ev T fr).bind fun x => (k.ev T fr).bind fun k => (v.ev T fr).bind fun v => (upV kd st x k v).bind fun st' => some (.val undef, st')
 | .mksl t k bytes z x y => (x.ev T fr).bind fun x => (y.ev T fr).bind fun y => (intOf x).bind fun n => (intOf y).bind fun c => if 0 ≤ n.2 ∧ n.2 ≤ c.2 ∧ (bytes : Int) * c.2 ≤ 281474976710656 ∧ c.2 ≤ 9223372036854775807 then
   some (.own st.length n.2.toNat 0 n.2.toNat, st ++ [.row t k (List.replicate n.2.toNat z)]) else none
 | .app t k bytes s x => (s.ev T fr).bind fun s => (x.ev T fr).bind fun x => mApp M t k bytes st s x
 | .apz t k bytes z s x => (s.ev T fr).bind fun s => (x.ev T fr).bind fun x => (intOf x).bind fun n => match s with
  | .lst true [] => if 0 < n.2 ∧ n.2 * bytes ≤ 140737488355328 ∧ n.2 ≤ 9223372036854775807 then some (.own st.length n.2.toNat 0 n.2.toNat, st ++ [.row t k (List.replicate n.2.toNat z)]) else none
  | _ => none
 | .slf k x lo hi mx => (x.ev T fr).bind fun x => (evo T fr 0 lo).bind fun l => (evo T fr 0 (some hi)).bind fun h => (evo T fr 0 (some mx)).bind fun m => slzV k st l h m x
 | _ => none
section
variable {P : Program} {T : Tbl} {B : Nat} {w0 : World} {E : Env} {st st' : St} {w : World} {M : Nat → Nat → Bool} {nt : Nat} {fr : Fr} {a : Act}
def EffN (P : Program) (M : Nat → Nat → Bool) (B : Nat) (w0 : World) (E : Env) (st : St) (w : World) (v : V) (st' : St) (m : Sem Next) : Prop :=
 ∃ E' w' u nx, m.run P w = .ok nx w' ∧ (nx = .value u ∨ (nx = .skip ∧ u = undef)) ∧ Rep B w0 E' st' w' ∧ Stp M E st w E' st' w' ∧ Rel E' st' w' v u
theorem Eff.n {v : V} {s : Sem Value} (h : Eff P M B w0 E st w v st' s) : EffN P M B w0 E st w v st' (do pure (.value (← s))) := by
 obtain ⟨E', w', u, h1, h2, h3, h4⟩ := h
 exact ⟨E', w', u, _, by rw [Sem.run_bind, h1]; rfl, Or.inl rfl, h2, h3, h4⟩
theorem evq_ok (hT : TblOk T B w0 E w) (h : FrOk nt E st w fr a) : ∀ (l : List (Nat × Operand)) (r : List (Nat × V)), evq T fr (partsQ l) = some r →
  (l.map fun p => (p.1, a.eval p.2)).length = r.length ∧ ∀ (i : Nat) (p : Nat × Value) (q : Nat × V), (l.map fun p => (p.1, a.eval p.2))[i]? = some p → r[i]? = some q → p.1 = q.1 ∧ Rel E st w q.2 p.2
 | [], r, hr => by
  simp only [partsQ, evq, Option.some.injEq] at hr
  subst hr
  exact ⟨rfl, fun i p q hp => by simp at hp⟩
 | (i, x) :: l, r, hr => by
  simp only [partsQ, evq] at hr
  split at hr
  ·rename_i v s hv hs
   cases hr
   obtain ⟨h1, h2⟩ := evq_ok hT h l s hs
   refine ⟨by simpa using h1, fun j p q' hp hq' => ?_⟩
   cases j with
   | zero => simp at hp hq'; subst hp hq'; exact ⟨rfl, ev_ok hT h hv⟩
   | succ j => simp only [List.map_cons, List.getElem?_cons_succ] at hp hq'; exact h2 j p q' hp hq'
  ·cases hr
theorem info_bytes {P : Program} {e : Nat} {i : TypeInfo} (h : P.info? e = some i) : (P.info? e).map (·.bytes) = some i.bytes := by rw [h]; rfl
theorem eff_ok0 (hT : TblOk T B w0 E w) (h : Rep B w0 E st w) (hf : FrOk nt E st w fr a) {o : Oper} {m : MOp} (hm : compE0 P o.op = some m) {v : V} (hv : mEff T M m fr st = some (v, st')) : EffN P M B w0 E st w v st' (execOp a.eval o) := by
 obtain ⟨dst, op, type, pos, after, guard⟩ := o
 simp only at hm
 unfold compE0 at hm
 split at hm
 ·cases hm
  cases hv
  exact (mkmap_ok (M := M) h _).n
 ·split at hm
  ·rename_i kt et hu
   split at hm
   ·rename_i kd inf hk hi
    split at hm
    ·rename_i z hz
     cases hm
     obtain ⟨x, h1, h2⟩ := bind_some hv
     obtain ⟨i, h3, h4⟩ := bind_some h2
     obtain ⟨r, h5, h6⟩ := bind_some h4
     cases h6
     exact (lk_ok (M := M) h hu hk hi hz (ev_ok hT hf h1) (ev_ok hT hf h3) h5).n
    ·cases hm
   ·cases hm
  ·cases hm
 ·split at hm
  ·rename_i kt et hu
   split at hm
   ·rename_i kd hk
    cases hm
    obtain ⟨x, h1, h2⟩ := bind_some hv
    obtain ⟨k, h3, h4⟩ := bind_some h2
    obtain ⟨y, h5, h6⟩ := bind_some h4
    obtain ⟨s, h7, h8⟩ := bind_some h6
    cases h8
    obtain ⟨E', w', r1, r2, r3⟩ := up_ok (P := P) (M := M) h hu hk (ev_ok hT hf h1) (ev_ok hT hf h3) (ev_ok hT hf h5) h7
    exact ⟨E', w', undef, .skip, by simp only [execOp, Sem.run_bind, r1]; rfl, Or.inr ⟨rfl, rfl⟩, r2, r3, .pure (.val _)⟩
   ·cases hm
  ·cases hm
 ·split at hm
  ·rename_i n hn
   cases hm
   obtain ⟨p, h1, h2⟩ := bind_some hv
   obtain ⟨u, h3, h4⟩ := bind_some h2
   obtain ⟨s, h5, h6⟩ := bind_some h4
   cases h6
   obtain ⟨E', w', r1, r2, r3⟩ := store_ok (P := P) (M := M) h hn (ev_ok hT hf h1) (ev_ok hT hf h3) h5
   exact ⟨E', w', undef, .skip, by simp only [execOp, Sem.run_bind, r1]; rfl, Or.inr ⟨rfl, rfl⟩, r2, r3, .pure (.val _)⟩
  ·cases hm
 ·split at hm
  ·rename_i z hz
   cases hc : (allLeaf z && Nat.blt 0 z.cells.length) with
   | false => rw [hc] at hm; cases hm
   | true =>
    rw [hc] at hm
    cases hm
    simp only [Bool.and_eq_true] at hc
    obtain ⟨l, e1, e2⟩ := elemZ_ok hz
    cases hv
    exact (alloc_ok (M := M) h e1 e2 hc.1 (Nat.le_of_ble_eq_true hc.2)).n
  ·cases hm
 ·cases hm
  obtain ⟨x, h1, h2⟩ := bind_some hv
  split at h2
  ·rename_i hc
   cases h2
   exact (box_ok (M := M) h (ev_ok hT hf h1) hc.1 hc.2).n
  ·cases h2
 ·rename_i t len parts
  split at hm
  ·rename_i e hu
   split at hm
   ·rename_i k z hk hz
    cases h0 : (Nat.beq len 0 && parts.isEmpty) with
    | true =>
     rw [h0] at hm
     cases hm
     cases hv
     simp only [Bool.and_eq_true] at h0
     obtain rfl := Nat.eq_of_beq_eq_true h0.1
     have e1 : parts = #[] := Array.isEmpty_iff.1 h0.2
     subst e1
     obtain ⟨ie, hie, rfl⟩ := sizeX_ok hk
     have hg : w.grownBy (w.alloc (.cells #[] e)) none := ⟨rfl, rfl, rfl, by simp, fun q hq _ => Below.heap_alloc w _ _ hq⟩
     obtain ⟨r1, r2⟩ := Rep.idle (M := M) h hg
     refine Eff.n ⟨E, w.alloc (.cells #[] e), .slice (some ⟨w.heap.size, 0, none⟩) 0 0, ?_, r1, r2, .pure (.nil _ _ _ ⟨fun _ => rfl, Nat.zero_le _⟩)⟩
     have he : (Array.range (0 * ie.size)).map (fun i => (#[] : Array Value)[i % (#[] : Array Value).size]!) = #[] := Array.eq_empty_of_size_eq_zero (by simp)
     simp only [Array.map_empty, Instr.buildSlice, Sem.run_bind, run_underlying hu, Result.andThen_ok]
     simp [sizeOf, typeInfo, hie, newRow, Instr.fill]
     congr 2
     exact Array.eq_empty_of_size_eq_zero (by simp)
    | false =>
     rw [h0] at hm
     simp only [cond] at hm
     cases hc : (Nat.beq z.cells.length k && allLeaf z && Nat.blt 0 k && Nat.ble (len * k) 16777216 && Nat.blt 0 len) with
     | false => rw [hc] at hm; cases hm
     | true =>
      rw [hc] at hm
      cases hm
      simp only [Bool.and_eq_true] at hc
      obtain ⟨⟨⟨⟨c1, c2⟩, c3⟩, c4⟩, c5⟩ := hc
      obtain ⟨l, h1, h2⟩ := bind_some hv
      split at h2
      ·rename_i hq
       cases h2
       obtain ⟨lz, e1, e2⟩ := elemZ_ok hz
       obtain ⟨g1, g2⟩ := evq_ok hT hf _ _ h1
       have := bsl_ok (M := M) h hu hk e1 e2 (Nat.eq_of_beq_eq_true c1) c2 (Nat.le_of_ble_eq_true c3) (Nat.le_of_ble_eq_true c5) (Nat.le_of_ble_eq_true c4) _ l g1 g2 hq
       have hps : (parts.map fun (x : Nat × Operand) => (x.1, a.eval x.2)) = (parts.toList.map fun p => (p.1, a.eval p.2)).toArray := by rw [← Array.toList_map, Array.toArray_toList]
       simp only [execOp]
       rw [hps]
       exact this.n
      ·cases h2
   ·cases hm
  ·cases hm
 ·split at hm
  ·rename_i e hu
   split at hm
   ·rename_i k z i hk hz hi
    cases hc : (Nat.beq z.cells.length k && allLeaf z && Nat.blt 0 k) with
    | false => rw [hc] at hm; cases hm
    | true =>
     rw [hc] at hm
     cases hm
     simp only [Bool.and_eq_true] at hc
     obtain ⟨⟨c1, c2⟩, c3⟩ := hc
     obtain ⟨x, h1, h2⟩ := bind_some hv
     obtain ⟨y, h3, h4⟩ := bind_some h2
     obtain ⟨n, h5, h6⟩ := bind_some h4
     obtain ⟨c, h7, h8⟩ := bind_some h6
     have r1 := ev_ok hT hf h1
     have r2 := ev_ok hT hf h3
     rw [intOf_eq h5] at r1
     rw [intOf_eq h7] at r2
     split at h8
     ·rename_i hb
      cases h8
      obtain ⟨lz, e1, e2⟩ := elemZ_ok hz
      simp only [execOp, r1.lit, r2.lit]
      exact (mksl_ok (M := M) h hu hk (info_bytes hi) e1 e2 (Nat.eq_of_beq_eq_true c1) c2 (Nat.le_of_ble_eq_true c3) hb.1 hb.2.1 hb.2.2.1 hb.2.2.2).n
     ·cases h8
   ·cases hm
  ·cases hm
 ·rename_i args argTypes
  split at hm
  ·rename_i s x t t' ha ht
   split at hm
   ·rename_i e hu
    split at hm
    ·rename_i k z i hk hz hi
     cases hc : (Nat.beq t t' && Nat.beq z.cells.length k && Nat.blt 0 k) with
     | false => rw [hc] at hm; cases hm
     | true =>
      rw [hc] at hm
      cases hm
      simp only [Bool.and_eq_true] at hc
      obtain ⟨⟨c1, c2⟩, c3⟩ := hc
      obtain rfl := Nat.eq_of_beq_eq_true c1
      obtain ⟨sv, h1, h2⟩ := bind_some hv
      obtain ⟨xv, h3, h4⟩ := bind_some h2
      obtain ⟨lz, e1, e2⟩ := elemZ_ok hz
      have a1 : args = #[s, x] := by rw [← Array.toArray_toList (xs := args), ha]
      have a2 : argTypes = #[t, t] := by rw [← Array.toArray_toList (xs := argTypes), ht]
      subst a1 a2
      have := (app_ok (P := P) (M := M) (ty := type) h hu hk (info_bytes hi) e1 (by rw [← e2]; exact Nat.eq_of_beq_eq_true c2) (Nat.le_of_ble_eq_true c3) (ev_ok hT hf h1) (ev_ok hT hf h3) h4).n
      simpa [execOp, resolve, invoke, builtin] using this
    ·cases hm
   ·cases hm
  ·cases hm
 ·cases hm
theorem apz_ok (h : Rep B w0 E st w) {t tn ty e k bytes : Nat} {kn : IntKind} {z : V} {l : List V} (hu : P.underlying t = some (.slice e)) (htn : P.underlying tn = some (.int kn)) (hk : sizeX P e = some k) (hby : (P.info? e).map (·.bytes) = some bytes) (hz : zeroX P e = some l) (hv : z.cells = l) (hzk : z.cells.length = k) (hzl : allLeaf z = true) (hk0 : 0 < k)
  {us : Value} (hs : Rel E st w (.lst true []) us) {kq : IntKind} {n : Int} (h0 : 0 < n) (hb : n * bytes ≤ 140737488355328) (h63 : n ≤ 9223372036854775807) :
  Eff P M B w0 E st w (.own st.length n.toNat 0 n.toNat) (st ++ [.row e k (List.replicate n.toNat z)]) (Builtin.append_ #[t, tn] ty #[us, .int kq n]) := by
 obtain ⟨i, zz, hi, hiz, rfl⟩ := zeroX_ok hz
 obtain ⟨ie, hie, rfl⟩ := sizeX_ok hk
 obtain rfl : ie = i := by rw [hie] at hi; injection hi
 obtain rfl : ie.bytes = bytes := by rw [hi] at hby; simpa using hby
 have hzs : zz.cells.size = ie.size := by rw [← hzk, hv]; simp
 obtain ⟨m, rfl⟩ : ∃ m : Nat, n = (m : Int) := ⟨n.toNat, by omega⟩
 have hm0 : 0 < m := by omega
 have hmb : m * ie.bytes ≤ 140737488355328 := by rw [← Int.natCast_mul] at hb; omega
 obtain ⟨A, rfl⟩ : ∃ A, us = .slice A 0 0 := by
  cases hs with
  | pure hs => cases hs with
   | nil _ A c hc => exact ⟨A, by rw [hc.1 rfl]⟩
   | lst _ _ p n c k us hn hc hf =>
    obtain rfl : n = 0 := by rw [← hn]; rfl
    exact ⟨some p, by rw [hf rfl]⟩
 have hfc : (Builtin.firstCells ie.size 0 (.slice A 0 0)).run P w.drew = .ok ([] : List Value).toArray w.drew := by
  cases A <;> simp [Builtin.firstCells, loadCells, loadCellsFrom]
 have hrun := Lib.run_append_grow_zeros (P := P) w t tn ty e ie zz kq kn hu htn hi hiz A 0 0 [] hfc m hm0 hk0 (by omega) (by omega) (by omega) (by rw [Nat.zero_add, nextslicecap_zero hm0]; omega)
 have hge := grownCap_ge w (0 + m) 0 e
 have hcm : grownCap w (0 + m) 0 e ≤ maxLen := grownCap_le_maxLen w (0 + m) 0 e (by unfold maxLen; omega)
 have hrep : ∀ x ∈ List.replicate m z, x.cells.length = ie.size ∧ allLeaf x = true := fun x hx => by rw [List.eq_of_mem_replicate hx]; exact ⟨hzk, hzl⟩
 have hpw := made_pw (E := E) (st := st) (w := w) (n := m) hv hzk hk0
 have hzc : Builtin.zeroCells zz.cells m = madeCells zz.cells (m * ie.size) := by rw [← hzs]; rfl
 obtain ⟨h1, h2⟩ := new_ok (M := M) (w1 := w.drew) (t := e) (k := ie.size) (c := grownCap w (0 + m) 0 e) (xs := List.replicate m z) (cur := ([] : List Value).toArray ++ Builtin.zeroCells zz.cells m ++ Builtin.zeroCells zz.cells (grownCap w (0 + m) 0 e - (0 + m))) h (grown_drew w) rfl hk0 hcm (by simp at hge ⊢; omega) (by
   simp only [Array.size_append, size_zeroCells, hzs, List.size_toArray, List.length_nil]
   rw [Nat.zero_add, ← Nat.add_mul]
   congr 1
   omega) hrep (fun q y hy => by
   have hq : q < (madeCells zz.cells (m * ie.size)).toList.length := by rw [hpw.1]; exact (List.getElem?_eq_some_iff.1 hy).1
   refine ⟨(madeCells zz.cells (m * ie.size)).toList[q], ?_, hpw.2 q y _ hy (List.getElem?_eq_getElem hq)⟩
   rw [hzc, show ([] : List Value).toArray ++ madeCells zz.cells (m * ie.size) = madeCells zz.cells (m * ie.size) by simp, Array.getElem?_append_left (by simpa using hq), ← Array.getElem?_toList]
   exact List.getElem?_eq_getElem hq)
 refine ⟨_, _, _, hrun, h1, h2, ?_⟩
 simp only [Nat.zero_add]
 exact new_own (c := grownCap w m 0 e) (A := some ⟨w.heap.size, 0, none⟩) rfl rfl (fun _ => rfl) (by simp)
theorem effZ_ok (hT : TblOk T B w0 E w) (h : Rep B w0 E st w) (hf : FrOk nt E st w fr a) {o : Oper} {m : MOp} (hm : compZ P o.op = some m) {v : V} (hv : mEff T M m fr st = some (v, st')) : EffN P M B w0 E st w v st' (execOp a.eval o) := by
 obtain ⟨dst, op, type, pos, after, guard⟩ := o
 simp only at hm
 unfold compZ at hm
 split at hm
 ·rename_i args argTypes
  split at hm
  ·rename_i s x t t' ha ht
   split at hm
   ·rename_i e kn hu hu'
    split at hm
    ·rename_i k z i hk hz hi
     cases hc : (Nat.beq z.cells.length k && allLeaf z && Nat.blt 0 k) with
     | false => rw [hc] at hm; cases hm
     | true =>
      rw [hc] at hm
      cases hm
      simp only [Bool.and_eq_true] at hc
      obtain ⟨⟨c1, c2⟩, c3⟩ := hc
      obtain ⟨sv, h1, h2⟩ := bind_some hv
      obtain ⟨xv, h3, h4⟩ := bind_some h2
      obtain ⟨n, h5, h6⟩ := bind_some h4
      obtain ⟨lz, e1, e2⟩ := elemZ_ok hz
      have a1 : args = #[s, x] := by rw [← Array.toArray_toList (xs := args), ha]
      have a2 : argTypes = #[t, t'] := by rw [← Array.toArray_toList (xs := argTypes), ht]
      subst a1 a2
      have r1 := ev_ok hT hf h3
      rw [intOf_eq h5] at r1
      split at h6
      ·split at h6
       ·rename_i hcc
        cases h6
        have := (apz_ok (P := P) (M := M) (ty := type) (kq := n.1) h hu hu' hk (info_bytes hi) e1 e2 (Nat.eq_of_beq_eq_true c1) c2 (Nat.le_of_ble_eq_true c3) (ev_ok hT hf h1) hcc.1 hcc.2.1 hcc.2.2).n
        simpa [execOp, resolve, invoke, builtin, r1.lit] using this
       ·cases h6
      ·cases h6
    ·cases hm
   ·cases hm
  ·cases hm
 ·cases hm
theorem eff_ok (hT : TblOk T B w0 E w) (h : Rep B w0 E st w) (hf : FrOk nt E st w fr a) {o : Oper} {m : MOp} (hm : compE P o.op = some m) {v : V} (hv : mEff T M m fr st = some (v, st')) : EffN P M B w0 E st w v st' (execOp a.eval o) := by
 unfold compE at hm
 split at hm
 ·rename_i m0 h0
  cases hm
  unfold frzOp at hv
  split at hv
  ·rename_i t k z x
   simp only [mEff] at hv
   split at hv
   ·rename_i hx
    cases hv
    have h1 : mEff T M (.bsl t k 1 z [(0, .c x)]) fr st = some (.own st.length 1 0 1, st ++ [.row t k [x]]) := by
     show (if _ then _ else none) = _
     rw [if_pos (fun q hq => by simp at hq; subst hq; exact ⟨by omega, hx.1, hx.2.1⟩)]
     rfl
    obtain ⟨E', w', u, nx, r1, r2, r3, r4, r5⟩ := eff_ok0 hT h hf h0 h1
    have ht : (st ++ [Blk.row t k [x]]).take st.length = st := List.take_left' rfl
    obtain ⟨g1, g2⟩ := Rep.trunc h r3 r4 (LowSt.same ht)
    have hfz : Frz st.length (st ++ [Blk.row t k [x]]) (.own st.length 1 0 1) (.lst false (([x].drop 0).take 1)) :=
     Frz.row st.length 1 0 1 t k [x] (Nat.le_refl _) (by rw [List.getElem?_append_right (Nat.le_refl _), Nat.sub_self]; rfl) rfl (fun y hy q hq => by
      simp only [List.mem_singleton] at hy
      subst hy
      exact ⟨List.all_eq_true.1 hx.2.1 q hq, List.all_eq_true.1 hx.2.2 q hq⟩)
    have g3 := Rel.frz r3 (by simp) hfz r5
    rw [ht] at g1 g2 g3
    exact ⟨_, w', u, nx, r1, r2, g1, g2, g3⟩
   ·cases hv
  ·exact eff_ok0 hT h hf h0 hv
 ·exact effZ_ok hT h hf hm hv
end
end Go.Proofs.YtkcdgaijklhnaaaGreatDoor.Vm
namespace Go.Proofs.YtkcdgaijklhnaaaGreatDoor.Vm
open Go.RowKit
def entersX (P : Program) (f : Nat) : Bool :=
 match P.funcs[f]? with
 | some fn => !(fn.name == "runtime.NumGoroutine") && !fn.body.isNone
 | none => false
theorem entersX_ok {P : Program} {f : Nat} (h : entersX P f = true) (args : Array Value) (w : World) : (callFunc f args).run P w = .ok (.enter f args) w := by
 unfold entersX at h
 split at h
 ·rename_i fn hf
  simp only [Bool.and_eq_true, Bool.not_eq_true'] at h
  have hp : (Sem.program Sem.pure).run P w = .ok P w := rfl
  have n1 : ¬ fn.name = "runtime.NumGoroutine" := by simpa using h.1
  have n2 : ¬ fn.body = none := fun e => by rw [e] at h; exact absurd h.2 (by decide)
  simp [callFunc, program, hp, hf, n1, n2]
 ·cases h
def EndOk (_P : Program) (M : Nat → Bool) (B : Nat) (w0 : World) (E : Env) (st : St) (w : World) (K : V → St → Prop) (Kp : List PanicEntry → St → Prop) : Ending → World → Prop
 | .returned u, w' => ∃ E' st' v, Rep B w0 E' st' w' ∧ Stp (fun b _ => M b) E st w E' st' w' ∧ Rel E' st' w' v u ∧ K v st'
 | .panicked c, w' => ∃ E' st', Rep B w0 E' st' w' ∧ Stp (fun b _ => M b) E st w E' st' w' ∧ Kp c st'
 | .outgrown, _ => False
def CallV (P : Program) (T : Tbl) (M : Nat → Bool) (f : Nat) (args : List V) (st : St) (K : V → St → Prop) (Kp : List PanicEntry → St → Prop) : Prop :=
 entersX P f = true ∧ ∀ B w0 E w (us : List Value), Rep B w0 E st w → TblOk T B w0 E w → Pw E st w args us → Calls P f us.toArray w (EndOk P M B w0 E st w K Kp)
theorem EndOk.mono {P : Program} {M M' : Nat → Bool} {B : Nat} {w0 : World} {E : Env} {st : St} {w : World} {K K' : V → St → Prop} {Kp Kp' : List PanicEntry → St → Prop} (hM : ∀ b, b < st.length → M b = true → M' b = true) (hK : ∀ v st', K v st' → K' v st') (hp : ∀ c st', Kp c st' → Kp' c st') {e : Ending} {w' : World} (h : EndOk P M B w0 E st w K Kp e w') : EndOk P M' B w0 E st w K' Kp' e w' := by
 cases e with
 | returned u => obtain ⟨E', st', v, h1, h2, h3, h4⟩ := h; exact ⟨E', st', v, h1, h2.mono (fun b _ => hM b), h3, hK _ _ h4⟩
 | panicked c => obtain ⟨E', st', h1, h2, h3⟩ := h; exact ⟨E', st', h1, h2.mono (fun b _ => hM b), hp _ _ h3⟩
 | outgrown => exact h
theorem CallV.mono {P : Program} {T : Tbl} {M M' : Nat → Bool} {f : Nat} {args : List V} {st : St} {K K' : V → St → Prop} {Kp Kp' : List PanicEntry → St → Prop} (h : CallV P T M f args st K Kp) (hM : ∀ b, b < st.length → M b = true → M' b = true) (hK : ∀ v st', K v st' → K' v st') (hp : ∀ c st', Kp c st' → Kp' c st') : CallV P T M' f args st K' Kp' :=
 ⟨h.1, fun B w0 E w us h1 h2 h3 => (h.2 B w0 E w us h1 h2 h3).mono fun _ _ h' => h'.mono hM hK hp⟩
inductive Xit where
 | normal
 | exit (id : Nat)
 | goto (l : Nat)
 | ret
 | panic (c : List PanicEntry)
def Xit.e : Xit → Exit
 | .normal => .normal
 | .exit id => .exit id
 | .goto l => .goto l
 | .ret => .ret
 | .panic c => .panic c
abbrev Post := Xit → Fr → St → Prop
def maskd (D : List Nat) (fr : Fr) : Fr := ⟨fun t => if t ∈ D then .any else fr.g t, fr.df⟩
def PostR (nt : Nat) (B : Nat) (w0 : World) (M : Nat → Nat → Bool) (E : Env) (st : St) (w : World) (Q : Post) : Exit → Act → World → Prop := fun e a w' =>
 ∃ x E' st' fr', e = Xit.e x ∧ Rep B w0 E' st' w' ∧ Stp M E st w E' st' w' ∧ FrOk nt E' st' w' fr' a ∧ Q x fr' st'
def comp (P : Program) (o : Oper) : Option MOp :=
 match o.op with
 | .call { callee := .value (.func f), args, .. } => some (.call f (ods args.toList))
 | .call { callee := .value g, args, .. } => some (.callv (cOd g) (ods args.toList))
 | .defer { callee := .value g, args, .. } => cond args.isEmpty (some (.dfr (cOd g))) none
 | .panic x => some (.pan (cOd x))
 | op => match compS P op with
  | some m => some m
  | none => match compE P op with
   | some m => some m
   | none => some .bad
def evW (T : Tbl) (M : Nat → Nat → Bool) (m : MOp) (fr : Fr) (st : St) (K : V → Fr → St → Prop) : Prop :=
 (∃ v, mStill T (fun _ _ => true) m fr st = some v ∧ K v fr st) ∨ (∃ v st', mEff T M m fr st = some (v, st') ∧ K v fr st')
open Classical in
noncomputable def callM (M : Nat → Nat → Bool) : Nat → Bool := fun b => decide (∀ j, M b j = true)
def panK (v : V) (k : List PanicEntry → Prop) : Prop := match v with
 | .val (.iface t u) => k [{ v := .iface t u, recovered := false }]
 | _ => False
def isSl : V → Bool
 | .lst .. => true
 | _ => false
def opW (P : Program) (T : Tbl) (M : Nat → Nat → Bool) (m : MOp) (fr : Fr) (st : St) (K : V → Fr → St → Prop) (Kp : List PanicEntry → St → Prop) : Prop :=
 match m with
 | .call f args => ∃ vs, evs T fr args = some vs ∧ CallV P T (callM M) f vs st (fun v st' => K v fr st') Kp
 | .callv f args => (∃ g caps vs, f.ev T fr = some (.fn g caps) ∧ evs T fr args = some vs ∧ CallV P T (callM M) g (vs ++ caps) st (fun v st' => K v fr st') Kp) ∨ (∃ g first vs, f.ev T fr = some (.met g first) ∧ evs T fr args = some vs ∧ CallV P T (callM M) g (first ++ vs) st (fun v st' => K v fr st') Kp)
 | .dfr f => ∃ g caps, f.ev T fr = some (.fn g caps) ∧ K (.val undef) { fr with df := (g, caps) :: fr.df } st
 | .pan x => ∃ v, x.ev T fr = some v ∧ panK v fun c => Kp c st
 | .snil neg x => evW T M (.snil neg x) fr st K ∨ (∃ v, x.ev T fr = some v ∧ isSl v = true ∧ ∀ b, K (.val (.bool b)) fr st)
 | m => evW T M m fr st K
section
variable {P : Program} {T : Tbl} {B : Nat} {w0 : World} {E : Env} {st st' : St} {w : World} {M : Nat → Nat → Bool} {nt : Nat} {fr : Fr} {a : Act}
theorem condS {c : Bool} {α : Type} {x : Option α} {m : α} (h : cond c x none = some m) : x = some m := by cases c <;> first | exact h | cases h
set_option maxHeartbeats 1000000 in
theorem compS_eff {op : Op} {m : MOp} (h : compS P op = some m) : ((∀ k x l h mm, m ≠ .slf k x l h mm) → ∀ T M fr st, mEff T M m fr st = none) ∧ ((∀ n x, m ≠ .snil n x) → ∀ T M fr st K Kp, opW P T M m fr st K Kp = evW T M m fr st K) := by
 unfold compS at h
 split at h <;> (try (repeat' (split at h))) <;> first
  | (cases h; done)
  | (cases h; exact ⟨fun _ _ _ _ _ => rfl, fun _ _ _ _ _ _ _ => rfl⟩)
  | (cases h; exact ⟨fun _ _ _ _ _ => rfl, fun hne => absurd rfl (hne _ _)⟩)
  | (cases h; exact ⟨fun hne => absurd rfl (hne _ _ _ _ _), fun _ _ _ _ _ _ _ => rfl⟩)
  | (rename_i first caps; cases hf : first.isEmpty <;> rw [hf] at h <;> first | (cases h; exact ⟨fun _ _ _ _ _ => rfl, fun _ _ _ _ _ _ _ => rfl⟩) | (cases hg : caps.isEmpty <;> rw [hg] at h <;> cases h; exact ⟨fun _ _ _ _ _ => rfl, fun _ _ _ _ _ _ _ => rfl⟩))
  | (replace h := condS h; first | (cases h; done) | (cases h; exact ⟨fun _ _ _ _ _ => rfl, fun _ _ _ _ _ _ _ => rfl⟩))
set_option maxHeartbeats 1000000 in
theorem compS_snil {op : Op} {neg : Bool} {x : Od} (hm : compS P op = some (.snil neg x)) : ∃ bo t xo e n c q, op = .binOp bo t xo (.const (.slice none n c)) q ∧ bo = (if neg then .neq else .eql) ∧ P.underlying t = some (.slice e) ∧ x = cOd xo := by
 unfold compS at hm
 split at hm <;> (try (repeat' (split at hm))) <;> first
  | (cases hm; done)
  | (cases hm; exact ⟨_, _, _, _, _, _, _, rfl, rfl, by assumption, rfl⟩)
  | (rename_i first caps; cases hf : first.isEmpty <;> rw [hf] at hm <;> first | (cases hm; done) | (cases hg : caps.isEmpty <;> rw [hg] at hm <;> cases hm))
  | (replace hm := condS hm; cases hm)
theorem isSl_ok {v : V} {u : Value} (h : Rel E st w v u) (hv : isSl v = true) : ∃ A n c, u = .slice A n c := by
 cases v <;> first | (cases hv; done) | skip
 cases h with
  | pure h => cases h <;> exact ⟨_, _, _, rfl⟩
theorem snil_any {neg : Bool} {op : BinOp} (ho : op = (if neg then .neq else .eql)) {t e : Nat} {x y : Operand} (hu : P.underlying t = some (.slice e)) (A : Option Addr) (n c n2 c2 : Nat) :
  ∃ b, (do eqGuard op t x y (.slice A n c) (.slice none n2 c2); binOp op t (.slice A n c) (.slice none n2 c2) : Sem Value).run P w = .ok (.bool b) w := by
 cases A with
 | some A =>
  have hg : ∀ w', (eqGuard op t x y (.slice (some A) n c) (.slice none n2 c2)).run P w' = .ok () w' := fun w' => by unfold eqGuard; cases op <;> rfl
  have he : ∀ w', (Op.equal t (.slice (some A) n c) (.slice none n2 c2)).run P w' = .ok false w' := fun w' => cmp_nil w' 9999 t A n c n2 c2 hu
  refine ⟨neg, ?_⟩
  rw [Sem.run_bind, hg w]
  cases neg <;> subst ho <;> simp [binOp, he w]
 | none =>
  have hg : ∀ w', (eqGuard op t x y (.slice none n c) (.slice none n2 c2)).run P w' = .ok () w' := fun w' => by unfold eqGuard; cases op <;> rfl
  have hd : ∀ w' (d : Nat), (Op.equalIn (d + 1) t (.slice none n c) (.slice none n2 c2)).run P w' = .ok true w' := fun w' d => by simp [Op.equalIn, run_underlying hu]
  have he : ∀ w', (Op.equal t (.slice none n c) (.slice none n2 c2)).run P w' = .ok true w' := fun w' => hd w' 9999
  refine ⟨!neg, ?_⟩
  rw [Sem.run_bind, hg w]
  cases neg <;> subst ho <;> simp [binOp, he w]
set_option maxHeartbeats 1000000 in
theorem compS_slf {op : Op} {k : Nat} {x : Od} {l : Option Od} {h mm : Od} (hm : compS P op = some (.slf k x l h mm)) : ∃ t xo lo ho mo e, op = .slice t xo lo (some ho) (some mo) ∧ P.underlying t = some (.slice e) ∧ sizeX P e = some k ∧ x = cOd xo ∧ l = optOd lo ∧ h = cOd ho ∧ mm = cOd mo := by
 unfold compS at hm
 split at hm <;> (try (repeat' (split at hm))) <;> first
  | (cases hm; done)
  | (cases hm; exact ⟨_, _, _, _, _, _, rfl, by assumption, by assumption, rfl, rfl, rfl, rfl⟩)
  | (rename_i first caps; cases hf : first.isEmpty <;> rw [hf] at hm <;> first | (cases hm; done) | (cases hg : caps.isEmpty <;> rw [hg] at hm <;> cases hm))
  | (replace hm := condS hm; cases hm)
set_option maxHeartbeats 1000000 in
theorem compE0_still {op : Op} {m : MOp} (h : compE0 P op = some m) : (∀ T rd fr st, mStill T rd m fr st = none) ∧ ∀ T M fr st K Kp, opW P T M m fr st K Kp = evW T M m fr st K := by
 have key : ∀ {c : Bool} {x : MOp}, cond c (some x) none = some m → m = x := fun {c x} hh => by cases c <;> cases hh; rfl
 unfold compE0 at h
 split at h <;> (try (repeat' (split at h))) <;> first
  | (cases h; done)
  | (cases h; exact ⟨fun _ _ _ _ => rfl, fun _ _ _ _ _ _ => rfl⟩)
  | (obtain rfl := key h; exact ⟨fun _ _ _ _ => rfl, fun _ _ _ _ _ _ => rfl⟩)
  | (rename_i parts _ _ _ _ _ _ _; revert h; generalize (Nat.beq _ 0 && _) = c; intro h; cases c with
    | true => cases h; exact ⟨fun _ _ _ _ => rfl, fun _ _ _ _ _ _ => rfl⟩
    | false => obtain rfl := key h; exact ⟨fun _ _ _ _ => rfl, fun _ _ _ _ _ _ => rfl⟩)
theorem compE_still {op : Op} {m : MOp} (h : compE P op = some m) : (∀ T rd fr st, mStill T rd m fr st = none) ∧ ∀ T M fr st K Kp, opW P T M m fr st K Kp = evW T M m fr st K := by
 unfold compE at h
 split at h
 ·rename_i m0 h0
  cases h
  unfold frzOp
  split
  ·exact ⟨fun _ _ _ _ => rfl, fun _ _ _ _ _ _ => rfl⟩
  ·exact compE0_still h0
 ·have key : ∀ {c : Bool} {x : MOp}, cond c (some x) none = some m → m = x := fun {c x} hh => by cases c <;> cases hh; rfl
  unfold compZ at h
  split at h <;> (try (repeat' (split at h))) <;> first
   | (cases h; done)
   | (obtain rfl := key h; exact ⟨fun _ _ _ _ => rfl, fun _ _ _ _ _ _ => rfl⟩)
end
end Go.Proofs.YtkcdgaijklhnaaaGreatDoor.Vm
namespace Go.Proofs.YtkcdgaijklhnaaaGreatDoor.Vm
open Go.RowKit
section
variable {P : Program} {T : Tbl} {B : Nat} {w0 : World} {E : Env} {st st' : St} {w : World} {M : Nat → Nat → Bool} {nt : Nat} {fr : Fr} {a : Act} {Q : Exit → Act → World → Prop} {Kr : Act → World → Prop}
theorem Rep.rows (h : Rep B w0 E st w) : Rows E st w := fun b t k xs hb => (h.ok b t k xs hb).1
theorem slf_run {t e k : Nat} (hu : P.underlying t = some (.slice e)) (hk : sizeX P e = some k) {lo : Option Value} {kh km : IntKind} {ih im : Int} (hl : Bd lo 0 0) (h0 : 0 ≤ ih) (h0' : 0 ≤ im) (h2 : ih.toNat = im.toNat) (h3 : 0 < ih.toNat) (A : Addr) (hA : A.spot = none) (n c : Nat) (hc : ih.toNat ≤ c) (w' : World) :
  (Instr.sliceAt t (.slice (some A) n c) lo (some (.int kh ih)) (some (.int km im))).run P w' = .ok (.slice (some A) ih.toNat ih.toNat) w' := by
 obtain ⟨ie, hie, rfl⟩ := sizeX_ok hk
 have he : P.elem t = e := by simp [Program.elem, hu]
 have hsz : ∀ w', (sizeOf e).run P w' = .ok ie.size w' := fun w' => by simp [sizeOf, typeInfo, hie]
 have hat : (Instr.sliceAt t (.slice (some A) n c) lo (some (.int kh ih)) (some (.int km im))).run P w' = (Instr.slice t (.slice (some A) n c) lo (some (.int kh ih)) (some (.int km im))).run P w' := by simp [Instr.sliceAt, run_underlying hu]
 have hb : (Instr.sliceBounds true n c lo (some (.int kh ih)) (some (.int km im))).run P w' = .ok (0, ih.toNat, ih.toNat) w' := by
  have sb : ∀ (k : IntKind) (i : Int) (n : Nat) (cd : BoundsCode) (w' : World), 0 ≤ i → i ≤ (n : Int) → (Instr.sliceBound (.int k i) n cd).run P w' = .ok i.toNat w' := fun k i n cd w' g1 g2 => by simp [Instr.sliceBound, asIntOf, g1, g2]
  generalize hz : (0 : Nat) = z at hl
  cases hl with
  | none =>
   simp only [Instr.sliceBounds, Sem.run_bind, sb km im c _ w' h0' (by omega), Result.andThen_ok, sb kh ih im.toNat _ w' h0 (by omega), Sem.run_pure, h2, ← hz]
  | some k i _ hi0 =>
   simp only [Instr.sliceBounds, Sem.run_bind, sb km im c _ w' h0' (by omega), Result.andThen_ok, sb kh ih im.toNat _ w' h0 (by omega), sb k i im.toNat _ w' hi0 (by omega), Sem.run_pure, h2]
 rw [hat, run_slice_any (P := P) w' t _ _ _ (by simp [Program.elem, hu]), hb]
 obtain ⟨pb, po, ps⟩ := A
 simp only at hA
 subst hA
 simp only [Result.andThen_ok, he, hsz, sliced]
 rw [if_neg (by omega)]
 simp [Addr.add_lit]
theorem slz_ok (h : Rep B w0 E st w) {t e k : Nat} (hu : P.underlying t = some (.slice e)) (hk : sizeX P e = some k) {v r : V} {u : Value} (hv : Rel E st w v u) {lo : Option Value} {kh km : IntKind} {ih im : Int} {l : Nat} (hl : Bd lo 0 l) (h0 : 0 ≤ ih) (h0' : 0 ≤ im) (hs : slzV k st l ih.toNat im.toNat v = some (r, st')) :
  Eff P M B w0 E st w r st' (Instr.sliceAt t u lo (some (.int kh ih)) (some (.int km im))) := by
 cases v with
 | own b L lo' n =>
  simp only [slzV] at hs
  split at hs
  ·rename_i t' k' xs hb
   split at hs
   ·rename_i hc
    obtain ⟨hL, rfl, rfl, rfl, h2, h3, h4, h5⟩ := hc
    cases hs
    cases hv with
    | pure hv => cases hv
    | own _ _ _ _ _ hbl h1 hh =>
     obtain ⟨-, g2⟩ := hh t' k' xs hb
     obtain ⟨e1, A, rfl, e2⟩ := g2 hL.symm
     obtain ⟨⟨k0, k1, k2, k3, k4⟩, k5⟩ := h.ok b t' k' xs hb
     have hκ : 0 < E.κ b := by omega
     obtain rfl := e2 (by omega)
     obtain ⟨f1, cur, f2, f3, f4⟩ := k4 hκ
     have hd : ∀ (b2 t k : Nat) (xs : List V), (st.set b .dead)[b2]? = some (.row t k xs) → b2 ≠ b ∧ st[b2]? = some (.row t k xs) := fun b2 t k xs hx => by
      by_cases e : b2 = b
      ·subst e
       rw [List.getElem?_set_self hbl] at hx
       cases hx
      ·rw [List.getElem?_set_ne (fun e' => e e'.symm)] at hx
       exact ⟨e, hx⟩
     have hdm : ∀ (b2 : Nat) (es : List (Value × V)), (st.set b .dead)[b2]? = some (.map es) → st[b2]? = some (.map es) := fun b2 es hx => by
      by_cases e : b2 = b
      ·subst e
       rw [List.getElem?_set_self hbl] at hx
       cases hx
      ·rwa [List.getElem?_set_ne (fun e' => e e'.symm)] at hx
     have hE : Ext E st w ⟨E.φ, E.κ, fun g => E.Z g ∨ g = E.φ b⟩ (st.set b .dead) w := ⟨by simp, fun _ hz => Or.inl hz, fun _ _ _ hw => hw, fun b2 t k xs _ hx => ⟨xs, (hd b2 t k xs hx).2, Nat.le_refl _, fun _ => ⟨rfl, rfl⟩⟩, fun b2 es _ hx => ⟨⟨es, (hdm b2 es hx)⟩, rfl⟩⟩
     refine ⟨⟨E.φ, E.κ, fun g => E.Z g ∨ g = E.φ b⟩, w, _, slf_run hu hk hl h0 h0' h2 h3 _ rfl _ _ (by omega) w, ⟨h.base, h.below, fun g hz => hz.elim (h.zlt g) (fun e => by rw [e]; exact h.mem hb hκ), fun b2 t k xs hx => ?_, fun a b2 t k xs t2 k2 xs2 ha hb2 => h.inj a b2 t k xs t2 k2 xs2 (hd a t k xs ha).2 (hd b2 t2 k2 xs2 hb2).2, fun b2 es hx => ⟨(h.maps b2 es (hdm b2 es hx)).1, (h.maps b2 es (hdm b2 es hx)).2.mono (fun _ hz => Or.inl hz) (fun _ _ _ hw => hw) rfl⟩, fun a b2 e1 e2 ha hb2 => h.minj a b2 e1 e2 (hdm a e1 ha) (hdm b2 e2 hb2)⟩, ⟨hE, fun b2 t k xs hx hk => Or.inl ⟨(List.getElem?_eq_some_iff.1 (hd b2 t k xs hx).2).1, rfl, hk⟩, fun _ _ _ => rfl, Nat.le_refl _⟩, .pure ?_⟩
     ·obtain ⟨hne, hx'⟩ := hd b2 t k xs hx
      obtain ⟨⟨q0, q1, q2, q3, q4⟩, q5⟩ := h.ok b2 t k xs hx'
      refine ⟨⟨q0, q1, q2, q3, fun hk2 => ?_⟩, q5⟩
      obtain ⟨p1, cur2, p2, p3, p4⟩ := q4 hk2
      refine ⟨fun hz => hz.elim p1 fun e => hne (h.inj b2 b _ _ _ _ _ _ hx' hb hk2 hκ e), cur2, p2, p3, fun i x hi j y hy => ?_⟩
      obtain ⟨u2, r1, r2⟩ := p4 i x hi j y hy
      exact ⟨u2, r1, r2.mono hE⟩
     ·have hlen : (xs.take ih.toNat).length = ih.toNat := by rw [List.length_take]; omega
      have hel : ∀ i y, (xs.take ih.toNat)[i]? = some y → xs[i]? = some y := fun i y hi => by
       rw [List.getElem?_take] at hi
       split at hi
       ·exact hi
       ·cases hi
      refine .lst true _ ⟨E.φ b, 0 * k', none⟩ _ _ k' (fun i j => (cur[i * k' + j]?).getD undef) hlen (by omega) (fun _ => rfl) rfl (Or.inr rfl) (fun i y hi => (k3 _ y (hel i y hi)).1) (fun i y hi j a ha => (k3 _ y (hel i y hi)).2 j a ha) (fun i y hi j a ha => ?_) (fun i y hi j a ha => ?_)
      ·obtain ⟨u2, r1, r2⟩ := f4 _ y (hel i y hi) j a ha
       rw [cell_of_row w _ _ _ _ _ f2]
       rw [show 0 * k' + (i * k' + j) = i * k' + j by omega, r1]
       rfl
      ·obtain ⟨u2, r1, r2⟩ := f4 _ y (hel i y hi) j a ha
       have hpl : a.pl = true := List.all_eq_true.1 (h5 y (List.mem_of_getElem? (hel i y hi))) a (List.mem_of_getElem? ha)
       rw [r1]
       exact (r2.plain hpl).mono (fun _ hz => Or.inl hz) (fun _ _ _ hw => hw)
   ·cases hs
  ·cases hs
 | _ => cases hs
theorem slf_eff (hT : TblOk T B w0 E w) (h : Rep B w0 E st w) (hf : FrOk nt E st w fr a) {o : Oper} {k : Nat} {x : Od} {l : Option Od} {hh mm : Od} (hm : compS P o.op = some (.slf k x l hh mm)) {v : V} (hv : mEff T M (.slf k x l hh mm) fr st = some (v, st')) : EffN P M B w0 E st w v st' (execOp a.eval o) := by
 obtain ⟨dst, op, type, pos, after, guard⟩ := o
 simp only at hm
 obtain ⟨t, xo, lo, ho, mo, e, rfl, hu, hk, rfl, rfl, rfl, rfl⟩ := compS_slf hm
 obtain ⟨v1, g1, h2⟩ := bind_some hv
 obtain ⟨l, g2, h2⟩ := bind_some h2
 obtain ⟨h', g3, h2⟩ := bind_some h2
 obtain ⟨q, g4, h2⟩ := bind_some h2
 have r1 := ev_ok hT hf g1
 have b1 := evo_ok hT hf g2
 have b2 := evo_ok (x := some ho) hT hf g3
 have b3 := evo_ok (x := some mo) hT hf g4
 simp only [execOp, Option.map_some] at b2 b3 ⊢
 generalize a.eval ho = uh at b2
 generalize a.eval mo = um at b3
 cases b2 with
 | some kh ih _ h0 =>
 cases b3 with
 | some km im _ h0' =>
 exact (slz_ok h hu hk r1 b1 h0 h0' h2).n
theorem evW_ok (hT : TblOk T B w0 E w) (h : Rep B w0 E st w) (hf : FrOk nt E st w fr a) {o : Oper} {m : MOp} (hm : (∃ x, compS P o.op = some x ∧ x = m) ∨ compE P o.op = some m) {K : V → Fr → St → Prop} (hv : evW T M m fr st K)
  (k : ∀ E' w' v u st', Rep B w0 E' st' w' → Stp M E st w E' st' w' → Rel E' st' w' v u → K v fr st' → Kr (a.put o.dst u) w') : o.wp P a w Kr Q := by
 rcases hm with ⟨x, hm, rfl⟩ | hm
 ·rcases hv with ⟨v, h1, h2⟩ | ⟨v, st', h1, h2⟩
  ·obtain ⟨u, r1, r2⟩ := still_ok (rd := fun _ _ => true) hT h.rows hf hm h1
   unfold Oper.wp
   rw [r2 w (Agree.refl _ _ _ _)]
   exact k E w v u st h (Stp.refl _ _ _ _) r1 h2
  ·by_cases hsl : ∃ k x' l h mm, x = .slf k x' l h mm
   ·obtain ⟨k', x', l, hh, mm, rfl⟩ := hsl
    obtain ⟨E', w', u, nx, r1, r2, r3, r4, r5⟩ := slf_eff (M := M) hT h hf hm h1
    unfold Oper.wp
    rw [r1]
    rcases r2 with rfl | ⟨rfl, rfl⟩
    ·exact k E' w' v u st' r3 r4 r5 h2
    ·exact k E' w' v undef st' r3 r4 r5 h2
   ·rw [(compS_eff hm).1 fun k x' l h mm e => hsl ⟨k, x', l, h, mm, e⟩] at h1; cases h1
 ·rcases hv with ⟨v, h1, -⟩ | ⟨v, st', h1, h2⟩
  ·rw [(compE_still hm).1] at h1; cases h1
  ·obtain ⟨E', w', u, nx, r1, r2, r3, r4, r5⟩ := eff_ok (M := M) hT h hf hm h1
   unfold Oper.wp
   rw [r1]
   rcases r2 with rfl | ⟨rfl, rfl⟩
   ·exact k E' w' v u st' r3 r4 r5 h2
   ·exact k E' w' v undef st' r3 r4 r5 h2
theorem callM_le {n : Nat} : ∀ b j : Nat, b < n → callM M b = true → M b j = true := fun b j _ h => by
 simp only [callM, decide_eq_true_eq] at h
 exact h j
theorem enter_ok {o : Oper} {g : Nat} {us : Array Value} {vs : List V} {K : V → Fr → St → Prop} {Kp : List PanicEntry → St → Prop} (hT : TblOk T B w0 E w) (h : Rep B w0 E st w) (hc : CallV P T (callM M) g vs st (fun v st' => K v fr st') Kp) (hu : Pw E st w vs us.toList)
  (hx : (execOp a.eval o).run P w = .ok (.enter g us) w)
  (k : ∀ E' w' v u st', Rep B w0 E' st' w' → Stp M E st w E' st' w' → Rel E' st' w' v u → K v fr st' → Kr (a.put o.dst u) w')
  (kp : ∀ E' w' c st', Rep B w0 E' st' w' → Stp M E st w E' st' w' → Kp c st' → Q (.panic c) a w') : o.wp P a w Kr Q := by
 unfold Oper.wp
 rw [hx, Oper.upon_enter]
 have := hc.2 B w0 E w us.toList h hT hu
 rw [Array.toArray_toList] at this
 refine this.mono fun e w' he => ?_
 cases e with
 | returned u => obtain ⟨E', st', v, h1, h2, h3, h4⟩ := he; exact k E' w' v u st' h1 (h2.mono callM_le) h3 h4
 | panicked c => obtain ⟨E', st', h1, h2, h3⟩ := he; exact kp E' w' c st' h1 (h2.mono callM_le) h3
 | outgrown => exact he.elim
theorem op_ok (hT : TblOk T B w0 E w) (h : Rep B w0 E st w) (hf : FrOk nt E st w fr a) {o : Oper} {m : MOp} (hm : comp P o = some m) {K : V → Fr → St → Prop} {Kp : List PanicEntry → St → Prop} (hv : opW P T M m fr st K Kp)
  (k : ∀ E' w' v u fr' st' (a' : Act), Rep B w0 E' st' w' → Stp M E st w E' st' w' → Rel E' st' w' v u → FrOk nt E' st' w' fr' a' → a'.tmps = a.tmps → fr'.g = fr.g → K v fr' st' → Kr (a'.put o.dst u) w')
  (kp : ∀ E' w' c st', Rep B w0 E' st' w' → Stp M E st w E' st' w' → Kp c st' → Q (.panic c) a w') : o.wp P a w Kr Q := by
 have k1 : ∀ E' w' v u st', Rep B w0 E' st' w' → Stp M E st w E' st' w' → Rel E' st' w' v u → K v fr st' → Kr (a.put o.dst u) w' := fun E' w' v u st' h1 h2 h3 h4 => k E' w' v u fr st' a h1 h2 h3 (hf.mono h2.toExt) rfl rfl h4
 have h0 := hm
 obtain ⟨dst, op, type, pos, after, guard⟩ := o
 unfold comp at hm
 simp only at hm
 split at hm
 ·rename_i f args _ 
  cases hm
  obtain ⟨vs, h1, h2⟩ := hv
  have hp := evs_ok hT hf _ _ h1
  refine enter_ok (us := args.map a.eval) hT h h2 (by rw [Array.toList_map]; exact hp) ?_ k1 kp
  simp [execOp, resolve, Deferred.ofValue, Act.eval, invoke, entersX_ok h2.1]
 ·rename_i g args _ _
  cases hm
  rcases hv with ⟨f, caps, vs, h1, h2, h3⟩ | ⟨f, firsts, vs, h1, h2, h3⟩
  ·have hp := evs_ok hT hf _ _ h2
   have hg := ev_ok hT hf h1
   cases hg' : a.eval g with
   | func fn first captured =>
    rw [hg'] at hg
    cases hg with
    | pure hg => cases hg
    | fn _ _ us hn hr =>
     refine enter_ok (us := args.map a.eval ++ us.toArray) hT h h3 (by rw [Array.toList_append, Array.toList_map]; exact hp.append ⟨hn, hr⟩) ?_ k1 kp
     simp [execOp, resolve, Deferred.ofValue, hg', invoke, entersX_ok h3.1]
   | _ => rw [hg'] at hg; cases hg with | pure hg => cases hg
  ·have hp := evs_ok hT hf _ _ h2
   have hg := ev_ok hT hf h1
   cases hg' : a.eval g with
   | func fn first captured =>
    rw [hg'] at hg
    cases hg with
    | pure hg => cases hg
    | met _ _ us hn hr =>
     refine enter_ok (us := us.toArray ++ args.map a.eval) hT h h3 (by rw [Array.toList_append, Array.toList_map]; exact Pw.append ⟨hn, hr⟩ hp) ?_ k1 kp
     simp [execOp, resolve, Deferred.ofValue, hg', invoke, entersX_ok h3.1]
   | _ => rw [hg'] at hg; cases hg with | pure hg => cases hg
 ·rename_i g args tys
  cases he : args.isEmpty with
  | false => rw [he] at hm; cases hm
  | true =>
   rw [he] at hm
   cases hm
   obtain ⟨f, caps, h1, h2⟩ := hv
   have hg := ev_ok hT hf h1
   obtain rfl := Array.isEmpty_iff.1 he
   cases hg' : a.eval g with
   | func fn first captured =>
    rw [hg'] at hg
    cases hg with
    | pure hg => cases hg
    | fn _ _ us hn hr =>
     unfold Oper.wp
     have hrun : (execOp a.eval ⟨dst, .defer { callee := .value g, args := #[], argTypes := tys }, type, pos, after, guard⟩).run P w = .ok (.defer { target := .fn (.func f) us.toArray, args := #[] }) w := by
      simp [execOp, resolve, Deferred.ofValue, hg']
     rw [hrun, Oper.upon_defer]
     refine k E w (.val undef) undef { fr with df := (f, caps) :: fr.df } st { a with defers := _ :: a.defers } h (Stp.refl _ _ _ _) (.pure (.val _)) ⟨hf.size, hf.tm, by simp [hf.dl], fun i d x hd hx => ?_⟩ rfl rfl h2
     cases i with
     | zero =>
      simp at hd hx
      subst hd hx
      exact ⟨us, rfl, hn, hr⟩
     | succ i =>
      simp at hd hx
      exact hf.df i d x hd hx
   | _ => rw [hg'] at hg; cases hg with | pure hg => cases hg
 ·rename_i x
  cases hm
  obtain ⟨v, h1, h2⟩ := hv
  unfold panK at h2
  split at h2
  case h_2 => exact h2.elim
  rename_i t u
  have hg := (ev_ok hT hf h1).lit
  unfold Oper.wp
  have hrun : (execOp a.eval ⟨dst, .panic x, type, pos, after, guard⟩).run P w = .halt (.panic (.iface t u)) w := by
   simp [execOp, hg, Instr.panic, goPanic]
  rw [hrun, Oper.upon_panic]
  exact kp E w _ st h (Stp.refl _ _ _ _) h2
 ·split at hm
  ·rename_i x hx
   cases hm
   by_cases hsn : ∃ n y, m = .snil n y
   ·obtain ⟨neg, y, rfl⟩ := hsn
    rcases hv with hv | ⟨v, g1, hsl, hk⟩
    ·exact evW_ok hT h hf (o := ⟨dst, op, type, pos, after, guard⟩) (Or.inl ⟨_, hx, rfl⟩) hv k1
    ·obtain ⟨bo, t, xo, e, n, c, q, rfl, hbo, hu, rfl⟩ := compS_snil hx
     obtain ⟨A, n1, c1, hA⟩ := isSl_ok (ev_ok hT hf g1) hsl
     obtain ⟨b, hb⟩ := snil_any (P := P) (w := w) (x := xo) (y := .const (.slice none n c)) hbo hu A n1 c1 n c
     unfold Oper.wp
     have hrun : (execOp a.eval ⟨dst, .binOp bo t xo (.const (.slice none n c)) q, type, pos, after, guard⟩).run P w = .ok (.value (.bool b)) w := by
      simp only [execOp, hA]
      rw [Sem.run_bind, show Sem.run P (do eqGuard bo t xo (.const (.slice none n c)) (.slice A n1 c1) (a.eval (.const (.slice none n c))); binOp bo t (.slice A n1 c1) (a.eval (.const (.slice none n c)))) w = .ok (.bool b) w from hb]
      rfl
     rw [hrun]
     exact k1 E w (.val (.bool b)) (.bool b) st h (Stp.refl _ _ _ _) (.pure (.val _)) (hk b)
   rw [(compS_eff hx).2 fun n y e => hsn ⟨n, y, e⟩] at hv
   exact evW_ok hT h hf (o := ⟨dst, op, type, pos, after, guard⟩) (Or.inl ⟨m, hx, rfl⟩) hv k1
  ·split at hm
   ·rename_i x hx
    cases hm
    rw [(compE_still hx).2] at hv
    exact evW_ok hT h hf (o := ⟨dst, op, type, pos, after, guard⟩) (Or.inr hx) hv k1
   ·cases hm
    rcases hv with ⟨v, h1, -⟩ | ⟨v, st', h1, -⟩ <;> cases h1
end
end Go.Proofs.YtkcdgaijklhnaaaGreatDoor.Vm
namespace Go.Proofs.YtkcdgaijklhnaaaGreatDoor.Vm
open Go.RowKit
structure MO where
 i : Nat
 q : Bool
 d : Option Nat
 gd : Option (Nat × Bool)
 op : MOp
def gdOf (ops : Array Oper) : Option (Nat × Bool) → Option (Option (Nat × Bool))
 | none => some none
 | some (j, b) => match (ops[j]?).bind (·.dst) with
  | some d => some (some (d, b))
  | none => none
def dOk (nt : Nat) : Option Nat → Bool
 | none => true
 | some d => Nat.blt d nt
def compMO (P : Program) (nt : Nat) (ops : Array Oper) (i : Nat) (q : Bool) : Option MO :=
 match ops[i]? with
 | some o => match comp P o, gdOf ops o.guard with
  | some m, some g => cond (dOk nt o.dst) (some ⟨i, q, o.dst, g, m⟩) none
  | _, _ => none
 | none => none
def gdW (fr : Fr) (gd : Option (Nat × Bool)) (yes no : Prop) : Prop :=
 match gd with
 | none => yes
 | some (s, b) => match fr.g s with
  | .val (.bool t) => (t = b → yes) ∧ (t ≠ b → no)
  | .val (.tuple _) => no
  | _ => False
def addD (d : Option Nat) (D : List Nat) : List Nat := match d with
 | none => D
 | some d => d :: D
def stepsV (P : Program) (T : Tbl) (M rd : Nat → Nat → Bool) (st0 : St) (Q : Post) (K : Fr → St → Prop) : List MO → List Nat → Fr → St → Prop
 | [], _, fr, st => K fr st
 | m :: l, D, fr, st => match m.q with
  | true => gdW fr m.gd (∃ v, mStill T rd m.op (fr.mask D) st0 = some v ∧ stepsV P T M rd st0 Q K l D (fr.put m.d v) st) (stepsV P T M rd st0 Q K l D (fr.put m.d (.val undef)) st)
  | false => gdW fr m.gd (opW P T M m.op fr st (fun v fr' st' => stepsV P T M rd st0 Q K l (addD m.d D) (fr'.put m.d v) st') (fun c st' => Q (.panic c) fr st')) (stepsV P T M rd st0 Q K l (addD m.d D) (fr.put m.d (.val undef)) st)
def seqV (P : Program) (T : Tbl) (M : Nat → Nat → Bool) (Q : Post) (K : Fr → St → Prop) : List MO → Fr → St → Prop
 | [], fr, st => K fr st
 | m :: l, fr, st => gdW fr m.gd (opW P T M m.op fr st (fun v fr' st' => seqV P T M Q K l (fr'.put m.d v) st') (fun c st' => Q (.panic c) fr st')) (seqV P T M Q K l (fr.put m.d (.val undef)) st)
section
variable {P : Program} {T : Tbl} {B : Nat} {w0 : World} {E E0 : Env} {st st0 st' : St} {w ws : World} {M Mf rd : Nat → Nat → Bool} {nt : Nat} {fr : Fr} {a : Act}
theorem compMO_ok {ops : Array Oper} {i : Nat} {q : Bool} {m : MO} (h : compMO P nt ops i q = some m) : m.i = i ∧ m.q = q ∧ ∃ o, ops[i]? = some o ∧ comp P o = some m.op ∧ gdOf ops o.guard = some m.gd ∧ m.d = o.dst ∧ ∀ x, o.dst = some x → x < nt := by
 unfold compMO at h
 split at h
 ·rename_i o ho
  split at h
  ·rename_i mm g hm hg
   cases hd : dOk nt o.dst with
   | false => rw [hd] at h; cases h
   | true =>
    rw [hd] at h
    cases h
    refine ⟨rfl, rfl, o, ho, hm, hg, rfl, fun x hx => ?_⟩
    rw [hx] at hd
    exact Nat.le_of_ble_eq_true hd
  ·cases h
 ·cases h
theorem gd_ok (hf : FrOk nt E st w fr a) {ops : Array Oper} {o : Oper} {gd : Option (Nat × Bool)} (hg : gdOf ops o.guard = some gd) {yes no : Prop} (h : gdW fr gd yes no) : (Region.wanted o (yielded ops a.tmps) = true ∧ yes) ∨ (Region.wanted o (yielded ops a.tmps) = false ∧ no) := by
 obtain ⟨dst, op, type, pos, after, guard⟩ := o
 simp only at hg
 cases guard with
 | none => cases hg; exact Or.inl ⟨rfl, h⟩
 | some jb =>
  obtain ⟨j, b⟩ := jb
  simp only [gdOf] at hg
  split at hg
  ·rename_i d hd
   cases hg
   simp only [Region.wanted]
   have hy : yielded ops a.tmps j = match a.tmps[d]? with | some (.bool b) => some b | _ => none := by
    unfold yielded
    rw [hd]
    rfl
   have hr := hf.tm d
   simp only [gdW] at h
   split at h
   ·rename_i t ht
    rw [ht] at hr
    have hl := hr.lit
    have hs : a.tmps[d]? = some (.bool t) := by
     rw [Array.getD_eq_getD_getElem?] at hl
     cases hq : a.tmps[d]? with
     | none => rw [hq] at hl; cases hl
     | some u => rw [hq] at hl; simp at hl; rw [hl]
    rw [hy, hs]
    by_cases htb : t = b
    ·exact Or.inl ⟨by simp [htb], h.1 htb⟩
    ·exact Or.inr ⟨by simp [htb], h.2 htb⟩
   ·rename_i vs ht
    rw [ht] at hr
    have hl := hr.lit
    refine Or.inr ⟨?_, h⟩
    rw [hy]
    rw [Array.getD_eq_getD_getElem?] at hl
    cases hq : a.tmps[d]? with
    | none => rfl
    | some u => rw [hq] at hl; simp at hl; rw [hl]; rfl
   ·exact h.elim
  ·cases hg
theorem FrOk.mask0 (h : FrOk nt E st w fr a) (D : List Nat) : FrOk nt E st w (fr.mask D) ⟨a.tmps, []⟩ :=
 ⟨h.size, fun t => by
  simp only [Fr.mask]
  split
  ·exact .any _
  ·exact h.tm t, rfl, fun i d x hd => by simp [Fr.mask] at hd⟩
theorem FrOk.mask_put {D : List Nat} {tm : Array Value} (h : FrOk nt E st w (fr.mask D) ⟨tm, []⟩) {fr' : Fr} (hg : fr'.g = fr.g) {d : Option Nat} (hd : ∀ x, d = some x → x < nt) {v : V} {u : Value} (D' : List Nat) (hD : D' = D ∨ D' = addD d D) (hv : ∀ x, d = some x → D' = D → Rel E st w v u) : FrOk nt E st w ((fr'.put d v).mask D') ⟨((⟨tm, []⟩ : Act).put d u).tmps, []⟩ := by
 cases d with
 | none =>
  have : D' = D := by rcases hD with h | h <;> exact h
  subst this
  refine ⟨h.size, fun t => ?_, rfl, fun i d x hd => by simp [Fr.mask] at hd⟩
  have := h.tm t
  simp only [Fr.mask, Fr.put, hg] at this ⊢
  exact this
 | some d =>
  have hlt := hd d rfl
  have hsz : tm.size = nt := h.size
  refine ⟨by simp [Act.put, hsz], fun t => ?_, rfl, fun i d x hd => by simp [Fr.mask] at hd⟩
  simp only [Fr.mask, Fr.put, Act.put]
  by_cases ht : t = d
  ·subst ht
   split
   ·exact .any _
   ·rename_i hn
    have hDD : D' = D := by
     rcases hD with e | e
     ·exact e
     ·rw [e] at hn; exact absurd List.mem_cons_self hn
    rw [if_pos rfl, Array.getD_eq_getD_getElem?, Array.getElem?_setIfInBounds_self_of_lt (by rw [hsz]; exact hlt)]
    exact hv t rfl hDD
  ·have := h.tm t
   simp only [Fr.mask] at this
   rw [Array.getD_eq_getD_getElem?, Array.getElem?_setIfInBounds_ne (Ne.symm ht), ← Array.getD_eq_getD_getElem?, if_neg ht, hg]
   split
   ·exact .any _
   ·rename_i hn
    have hnD : t ∉ D := fun hh => hn (by
     rcases hD with e | e
     ·rw [e]; exact hh
     ·rw [e]; exact List.mem_cons_of_mem _ hh)
    rw [if_neg hnD] at this
    exact this
theorem FrOk.mask_put' {D : List Nat} {tm : Array Value} (h : FrOk nt E st w (fr.mask D) ⟨tm, []⟩) {fr' : Fr} (hg : fr'.g = fr.g) {d : Option Nat} (hd : ∀ x, d = some x → x < nt) {v : V} {u : Value} (D' : List Nat) (hD : D' = D ∨ D' = addD d D) (hv : ∀ x, d = some x → D' = D → Rel E st w v u) {a' : Act} (ha : a'.tmps = tm) : FrOk nt E st w ((fr'.put d v).mask D') ⟨(a'.put d u).tmps, []⟩ := by
 have := h.mask_put hg hd (v := v) (u := u) D' hD hv
 have e : ((⟨tm, []⟩ : Act).put d u).tmps = (a'.put d u).tmps := by cases d <;> simp [Act.put, ha]
 rwa [e] at this
theorem Stp.agree (h0 : Rep B w0 E0 st0 ws) (hs : Stp M E0 st0 ws E st w) (hrd : ∀ b j, b < st0.length → rd b j = true → M b j = false) : Agree rd E0 st0 ws w := by
 refine ⟨hs.cell, fun b t k xs hb hk p hp hr => hs.phys p (by rw [hp]; exact h0.mem hb hk) fun b' t' k' xs' hb' hk' e => ?_⟩
 have := h0.inj _ _ _ _ _ _ _ _ hb' hb hk' hk (e.trans hp)
 subst this
 rw [hb] at hb'
 cases hb'
 exact hrd _ _ (List.getElem?_eq_some_iff.1 hb).1 hr
theorem wpOp_of {ops : Array Oper} {i : Nat} {o : Oper} {K : Act → World → Prop} {Q : Exit → Act → World → Prop} (ho : ops[i]? = some o) (h : (Region.wanted o (yielded ops a.tmps) = true ∧ o.wp P a w K Q) ∨ (Region.wanted o (yielded ops a.tmps) = false ∧ K (a.put o.dst undef) w)) : wpOp P ops Q i K a w := by
 unfold wpOp
 simp only [ho]
 rcases h with ⟨h1, h2⟩ | ⟨h1, h2⟩
 ·rw [if_pos h1]; exact Or.inl h2
 ·rw [h1, if_neg (by decide)]; exact h2
theorem FrOk.masked {fr : Fr} {a : Act} (h : FrOk nt E st w fr a) (D : List Nat) : FrOk nt E st w (maskd D fr) a :=
 ⟨h.size, fun t => by
  show Rel E st w (if t ∈ D then .any else fr.g t) _
  split
  ·exact .any _
  ·exact h.tm t, h.dl, h.df⟩
theorem FrOk.unput {fr : Fr} {a : Act} {d : Option Nat} {u : Value} {D : List Nat} (h : FrOk nt E st w fr (a.put d u)) (hd : ∀ x, d = some x → x ∈ D) : FrOk nt E st w (maskd D fr) a := by
 cases d with
 | none => exact h.masked D
 | some x =>
  refine ⟨by have := h.size; simpa [Act.put] using this, fun t => ?_, (by have := h.dl; simpa [Act.put] using this : a.defers.length = fr.df.length), fun i y z hy hz => h.df i y z hy (by simpa [Act.put] using hz)⟩
  show Rel E st w (if t ∈ D then .any else fr.g t) _
  split
  ·exact .any _
  ·rename_i ht
   have := h.tm t
   have hne : x ≠ t := fun e => ht (e ▸ hd x rfl)
   have e : (a.put (some x) u).tmps.getD t undef = a.tmps.getD t undef := by
    rw [Array.getD_eq_getD_getElem?, Array.getD_eq_getD_getElem?]
    simp only [Act.put]
    rw [Array.getElem?_setIfInBounds_ne hne]
   rwa [e] at this
theorem steps_ok {D0 : List Nat} (hT : TblOk T B w0 E0 ws) (h0 : Rep B w0 E0 st0 ws) (hrd : ∀ b j, b < st0.length → rd b j = true → M b j = false) (hMf : ∀ b j, b < st0.length → M b j = true → Mf b j = true) {ops : Array Oper} {Q : Post} {K : Fr → St → Prop} {Tl : Act → World → Prop} {wb : World} (hwb : Stp Mf E0 st0 wb E0 st0 ws) (hQ : ∀ c fr st, Q (.panic c) fr st → Q (.panic c) (maskd D0 fr) st)
  (k : ∀ E fr st (a : Act) w, Rep B w0 E st w → Stp M E0 st0 ws E st w → FrOk nt E st w fr a → K fr st → Tl a w) :
  ∀ (ms : List MO) (D : List Nat) (fr : Fr) (st : St) (E : Env) (a : Act) (w : World), (∀ m ∈ ms, compMO P nt ops m.i m.q = some m) → (∀ m ∈ ms, ∀ x, m.d = some x → x ∈ D0) → Rep B w0 E st w → Stp M E0 st0 ws E st w → FrOk nt E st w fr a → FrOk nt E0 st0 ws (fr.mask D) ⟨a.tmps, []⟩ →
   stepsV P T M rd st0 Q K ms D fr st → wpSteps P ops (PostR nt B w0 Mf E0 st0 wb Q) (Agree rd E0 st0 ws) Tl (ms.map fun m => (m.i, m.q)) a w
 | [], D, fr, st, E, a, w, _, _, h, hs, hf, _, hv => k E fr st a w h hs hf hv
 | m :: l, D, fr, st, E, a, w, hc, hD0, h, hs, hf, hf0, hv => by
  obtain ⟨-, -, o, ho, hm, hg, hd, hnt⟩ := compMO_ok (hc m List.mem_cons_self)
  have hc' : ∀ m ∈ l, compMO P nt ops m.i m.q = some m := fun x hx => hc x (List.mem_cons_of_mem _ hx)
  obtain ⟨mi, mq, md, mg, mop⟩ := m
  simp only at hd ho hm hg
  subst hd
  cases mq with
  | true =>
   simp only [stepsV] at hv
   have hpan : ∀ (u : Value) c (a : Act) w, PostR nt B w0 Mf E0 st0 wb Q (.panic c) (a.put o.dst u) w → PostR nt B w0 Mf E0 st0 wb Q (.panic c) a w := fun u c a w hh => by
    obtain ⟨x, E', st', fr', e, h1, h2, h3, h5⟩ := hh
    cases x <;> cases e
    exact ⟨.panic c, E', st', maskd D0 fr', rfl, h1, h2, h3.unput (hD0 _ List.mem_cons_self), hQ _ _ _ h5⟩
   rcases gd_ok hf hg hv with ⟨hw, v, h1, h2⟩ | ⟨hw, h2⟩
   ·have hst : ∃ u, Rel E0 st0 ws v u ∧ ∀ w', Agree rd E0 st0 ws w' → (execOp a.eval o).run P w' = .ok (.value u) w' := by
     unfold comp at hm
     have ev0 : execOp (⟨a.tmps, []⟩ : Act).eval o = execOp a.eval o := by
      have : (⟨a.tmps, []⟩ : Act).eval = a.eval := funext fun x => by cases x <;> rfl
      rw [this]
     split at hm
     ·cases hm; cases h1
     ·cases hm; cases h1
     ·rename_i g args tys _
      cases hb : args.isEmpty <;> rw [hb] at hm <;> cases hm
      cases h1
     ·cases hm; cases h1
     ·split at hm
      ·rename_i x hx
       cases hm
       have := still_ok (rd := rd) hT h0.rows hf0 hx h1
       rw [← ev0]
       exact this
      ·split at hm
       ·rename_i x hx
        cases hm
        rw [(compE_still hx).1] at h1; cases h1
       ·cases hm
        cases h1
    obtain ⟨u, r1, r2⟩ := hst
    refine ⟨o, u, ho, Or.inl ⟨hw, r2⟩, hpan u, ?_⟩
    exact steps_ok hT h0 hrd hMf hwb hQ k l D _ st E _ w hc' (fun m hm => hD0 m (List.mem_cons_of_mem _ hm)) h hs (hf.put hnt (r1.mono hs.toExt)) (hf0.mask_put' rfl hnt D (Or.inl rfl) (fun _ _ _ => r1) rfl) h2
   ·refine ⟨o, undef, ho, Or.inr ⟨hw, rfl⟩, hpan undef, ?_⟩
    exact steps_ok hT h0 hrd hMf hwb hQ k l D _ st E _ w hc' (fun m hm => hD0 m (List.mem_cons_of_mem _ hm)) h hs (hf.put hnt (.pure (.val _))) (hf0.mask_put' rfl hnt D (Or.inl rfl) (fun _ _ _ => .pure (.val _)) rfl) h2
  | false =>
   simp only [stepsV] at hv
   show wpOp P ops _ mi _ a w
   rcases gd_ok hf hg hv with ⟨hw, h2⟩ | ⟨hw, h2⟩
   ·refine wpOp_of ho (Or.inl ⟨hw, op_ok (hT.mono hs.toExt) h hf hm h2 (fun E' w' v u fr' st' a' h1 h2 h3 h4 h5 h6 h7 => ?_) (fun E' w' c st' h1 h2 h3 => ?_)⟩)
    ·have hs' := hs.trans (h2.mono fun _ _ _ hb => hb)
     refine ⟨hs'.agree h0 hrd, ?_⟩
     refine steps_ok hT h0 hrd hMf hwb hQ k l (addD o.dst D) _ st' E' _ w' hc' (fun m hm => hD0 m (List.mem_cons_of_mem _ hm)) h1 hs' (h4.put hnt h3) ?_ h7
     exact hf0.mask_put' h6 hnt (v := v) (u := u) (addD o.dst D) (Or.inr rfl) (fun x hx e => absurd (congrArg List.length e) (by simp [hx, addD])) h5
    ·exact ⟨.panic c, E', st', fr, rfl, h1, hwb.trans ((hs.trans (h2.mono fun _ _ _ hb => hb)).mono hMf), hf.mono h2.toExt, h3⟩
   ·refine wpOp_of ho (Or.inr ⟨hw, hs.agree h0 hrd, ?_⟩)
    refine steps_ok hT h0 hrd hMf hwb hQ k l (addD o.dst D) _ st E _ w hc' (fun m hm => hD0 m (List.mem_cons_of_mem _ hm)) h hs (hf.put hnt (.pure (.val _))) ?_ h2
    exact hf0.mask_put' rfl hnt (v := .val undef) (u := undef) (addD o.dst D) (Or.inr rfl) (fun _ _ _ => .pure (.val _)) rfl
end
end Go.Proofs.YtkcdgaijklhnaaaGreatDoor.Vm
namespace Go.Proofs.YtkcdgaijklhnaaaGreatDoor.Vm
open Go.RowKit
def dryOp (P : Program) (o : Oper) : Bool := o.guard.isNone && (match o.op with
 | .build .. => match compS P o.op with
  | some (.bld _ _) => true
  | _ => false
 | _ => false)
theorem dry_run {P : Program} {o : Oper} (h : dryOp P o = true) (ev : Operand → Value) : o.guard = none ∧ ((∃ u, ∀ w, (execOp ev o).run P w = .ok (.value u) w) ∨ ∃ msg, ∀ w, (execOp ev o).run P w = .halt (.stuck msg) w) := by
 obtain ⟨dst, op, type, pos, after, guard⟩ := o
 unfold dryOp at h
 simp only [Bool.and_eq_true, Option.isNone_iff_eq_none] at h
 refine ⟨h.1, ?_⟩
 have h2 := h.2
 split at h2
 ·rename_i t parts
  split at h2
  ·rename_i zs ps hm
   unfold compS at hm
   simp only at hm
   split at hm
   ·rename_i zs' fields hz hu
    split at hm
    ·rename_i pl hpl
     obtain ⟨i, z, hi, hiz, -⟩ := zeroX_ok hz
     have hzr : ∀ w', (zeroValue t).run P w' = .ok z w' := fun w' => by simp [zeroValue, typeInfo, hi, hiz]
     cases hf : Instr.fill (fun i => pl[i]?) z.cells (parts.map fun (x : Nat × Operand) => (x.1, ev x.2)).toList with
     | some cs =>
      refine Or.inl ⟨.agg cs, fun w => ?_⟩
      show (do pure (Next.value (← Instr.build t (parts.map fun (x : Nat × Operand) => (x.1, ev x.2)))) : Sem Next).run P w = _
      simp only [Instr.build, Sem.run_bind, hzr, run_underlying hu w, Result.andThen_ok]
      rw [still_run hpl w]
      simp only [Result.andThen_ok]
      rw [hf]
      rfl
     | none =>
      refine Or.inr ⟨ "build: no such field, or a part of the wrong size", fun w => ?_⟩
      show (do pure (Next.value (← Instr.build t (parts.map fun (x : Nat × Operand) => (x.1, ev x.2)))) : Sem Next).run P w = _
      simp only [Instr.build, Sem.run_bind, hzr, run_underlying hu w, Result.andThen_ok]
      rw [still_run hpl w]
      simp only [Result.andThen_ok]
      rw [hf]
      rfl
    ·cases hm
   ·rename_i zs' len e hz hu
    split at hm
    ·rename_i n hn
     obtain ⟨i, z, hi, hiz, -⟩ := zeroX_ok hz
     obtain ⟨ie, hie, rfl⟩ := sizeX_ok hn
     have hzr : ∀ w', (zeroValue t).run P w' = .ok z w' := fun w' => by simp [zeroValue, typeInfo, hi, hiz]
     have hsz : ∀ w', (sizeOf e).run P w' = .ok ie.size w' := fun w' => by simp [sizeOf, typeInfo, hie]
     cases hf : Instr.fill (fun i => some (i * ie.size, ie.size)) z.cells (parts.map fun (x : Nat × Operand) => (x.1, ev x.2)).toList with
     | some cs =>
      refine Or.inl ⟨.agg cs, fun w => ?_⟩
      show (do pure (Next.value (← Instr.build t (parts.map fun (x : Nat × Operand) => (x.1, ev x.2)))) : Sem Next).run P w = _
      simp only [Instr.build, Sem.run_bind, hzr, run_underlying hu w, Result.andThen_ok, hsz]
      rw [hf]
      rfl
     | none =>
      refine Or.inr ⟨ "build: a part of the wrong size", fun w => ?_⟩
      show (do pure (Next.value (← Instr.build t (parts.map fun (x : Nat × Operand) => (x.1, ev x.2)))) : Sem Next).run P w = _
      simp only [Instr.build, Sem.run_bind, hzr, run_underlying hu w, Result.andThen_ok, hsz]
      rw [hf]
      rfl
    ·cases hm
   ·cases hm
  ·cases h2
 ·cases h2
def dryAt (P : Program) (ops : Array Oper) (i : Nat) : Bool := match ops[i]? with
 | some o => dryOp P o
 | none => false
def okFlat (P : Program) (ops : Array Oper) : List (Nat × Bool) → Array Bool → Bool
 | [], listed => decide (Region.ready .any ops listed = [])
 | (i, true) :: r, listed => (Region.ready .any ops listed).contains i && Region.free .any ops listed i && okFlat P ops r (listed.setIfInBounds i true)
 | (i, false) :: r, listed => (decide (Region.ready .any ops listed = [i]) || (dryAt P ops i && (Region.ready .any ops listed).contains i && Region.free .any ops listed i)) && okFlat P ops r (listed.setIfInBounds i true)
section
variable {P : Program} {ops : Array Oper} {Q : Exit → Act → World → Prop} {S : World → Prop}
def PanOk (ops : Array Oper) (Q : Exit → Act → World → Prop) (i : Nat) : Prop := ∀ (oi : Oper) (v : Value) (c : List PanicEntry) (a : Act) (w : World), ops[i]? = some oi → Q (.panic c) (a.put oi.dst v) w → Q (.panic c) a w
theorem wpAnyH_steps (hsel : Region.noSelect ops = true) (hout : ¬ LetsOut Q) : ∀ (l : List (Nat × Bool)) (listed : Array Bool) (a : Act) (w : World) (n : Nat), (∀ x ∈ l, PanOk ops Q x.1) → l.length ≤ n → okFlat P ops l listed = true → S w → wpSteps P ops Q S (fun a w => Q .normal a w) l a w → wpAnyH P .any ops Q S n listed a w
 | [], listed, a, w, n, _, _, hB, _, h => wpAnyH_done (of_decide_eq_true hB) h n
 | (i, true) :: r, listed, a, w, n, hpan, hn, hB, hS, h => by
  obtain ⟨n, rfl⟩ : ∃ k, n = k + 1 := ⟨n - 1, by simp at hn; omega⟩
  simp only [okFlat, Bool.and_eq_true] at hB
  obtain ⟨⟨h1, h2⟩, h3⟩ := hB
  obtain ⟨oi, v, hoi, hy, hQ, h'⟩ := h
  exact wpAnyH_take hoi hsel h2 h1 hQ hy hS (wpAnyH_steps hsel hout r _ _ w n (fun x hx => hpan x (List.mem_cons_of_mem _ hx)) (by simpa using hn) h3 hS h')
 | (i, false) :: r, listed, a, w, n, hpan, hn, hB, hS, h => by
  obtain ⟨n, rfl⟩ : ∃ k, n = k + 1 := ⟨n - 1, by simp at hn; omega⟩
  simp only [okFlat, Bool.and_eq_true, Bool.or_eq_true, decide_eq_true_eq] at hB
  obtain ⟨hB1 | hB1, hB2⟩ := hB
  ·refine wpAnyH_all hB1 (by simp) fun j hj => ?_
   have : j = i := by simpa using hj
   subst this
   exact wpOp_mono (fun a' w' h3 => ⟨h3.1, wpAnyH_steps hsel hout r _ a' w' n (fun x hx => hpan x (List.mem_cons_of_mem _ hx)) (by simpa using hn) hB2 h3.1 h3.2⟩) h
  ·obtain ⟨⟨d1, d2⟩, d3⟩ := hB1
   unfold dryAt at d1
   cases ho : ops[i]? with
   | none => rw [ho] at d1; cases d1
   | some o =>
    rw [ho] at d1
    obtain ⟨g0, g1⟩ := dry_run d1 a.eval
    have h' : wpOp P ops Q i (fun a' w' => S w' ∧ wpSteps P ops Q S (fun a w => Q .normal a w) r a' w') a w := h
    unfold wpOp at h'
    rw [ho] at h'
    have hw : Region.wanted o (yielded ops a.tmps) = true := by simp [Region.wanted, g0]
    simp only [hw, if_true] at h'
    rcases h' with h' | ⟨-, h'⟩
    ·unfold Oper.wp at h'
     rcases g1 with ⟨u, g1⟩ | ⟨msg, g1⟩
     ·rw [g1 w] at h'
      obtain ⟨h3, h4⟩ := h'
      exact wpAnyH_take ho hsel d3 d2 (fun c a w hh => hpan _ List.mem_cons_self o u c a w ho hh) (Or.inl ⟨hw, fun w' _ => g1 w'⟩) hS (wpAnyH_steps hsel hout r _ _ w n (fun x hx => hpan x (List.mem_cons_of_mem _ hx)) (by simpa using hn) hB2 h3 h4)
     ·rw [g1 w] at h'
      exact absurd h' (fun h => h)
    ·exact absurd h' hout
theorem wp_region_flat {id : Nat} {a : Act} {w : World} (l : List (Nat × Bool)) (hout : ¬ LetsOut Q) (hpan : ∀ x ∈ l, PanOk ops Q x.1) (hm : P.follows .mixedOrders = true) (hB : (Region.noSelect ops && Nat.ble l.length ops.size && okFlat P ops l (Array.replicate ops.size false)) = true) (hS : S w.drew)
  (h : wpSteps P ops Q S (fun a w => Q .normal a w) l a w.drew) : (Code.region id ops true).wp P Q a w := by
 simp only [Bool.and_eq_true] at hB
 exact wp_region_held hm (wpAnyH_steps hB.1.1 hout l _ a _ _ hpan (Nat.le_of_ble_eq_true hB.1.2) hB.2 hS h)
end
inductive MC where
 | skip
 | lst (ms : List MO)
 | flat (ms : List MO)
 | tail (ms tl : List MO)
 | seq (a b : MC)
 | cond (c : Od) (a b : MC)
 | block (id : Nat) (b : MC)
 | loop (b : MC)
 | scope (b : MC)
 | exit (id : Nat)
 | goto (l : Nat)
 | ret
def compAll (P : Program) (nt : Nat) (ops : Array Oper) : List (Nat × Bool) → Option (List MO)
 | [] => some []
 | (i, q) :: l => match compMO P nt ops i q, compAll P nt ops l with
  | some m, some r => some (m :: r)
  | _, _ => none
def seqIdx : Nat → Nat → List (Nat × Bool)
 | _, 0 => []
 | i, n + 1 => (i, false) :: seqIdx (i + 1) n
def dirtyOp (D : List Nat) (o : Oper) : Bool := o.op.operands.any fun x => match x with
 | .tmp t => D.contains t
 | _ => false
def stillOp (P : Program) (o : Oper) : Bool := match o.op with
 | .call { callee := .value _, .. } => false
 | .defer _ => false
 | op => (compS P op).isSome
def pickS (P : Program) (ops : Array Oper) (listed : Array Bool) (D : List Nat) : List Nat → Option Nat
 | [] => none
 | i :: rs => match ops[i]? with
  | some o => cond (stillOp P o && !dirtyOp D o && Region.free .any ops listed i) (some i) (pickS P ops listed D rs)
  | none => pickS P ops listed D rs
def pickD (P : Program) (ops : Array Oper) (listed : Array Bool) : List Nat → Option Nat
 | [] => none
 | i :: rs => cond (dryAt P ops i && Region.free .any ops listed i) (some i) (pickD P ops listed rs)
def sched (P : Program) (ops : Array Oper) : Nat → Array Bool → List Nat → List (Nat × Bool)
 | 0, _, _ => []
 | f + 1, listed, D => match Region.ready .any ops listed with
  | [] => []
  | r :: rs => match pickS P ops listed D (r :: rs) with
   | some i => (i, true) :: sched P ops f (listed.setIfInBounds i true) D
   | none => match rs with
    | [] => (r, false) :: sched P ops f (listed.setIfInBounds r true) (match ops[r]? with | some o => addD o.dst D | none => D)
    | _ => match pickD P ops listed (r :: rs) with
     | some i => (i, false) :: sched P ops f (listed.setIfInBounds i true) (match ops[i]? with | some o => addD o.dst D | none => D)
     | none => []
def tailLen : List Oper → Nat
 | [] => 0
 | o :: l => match o.op with
  | .store .. => Nat.succ (tailLen l)
  | _ => 0
def okTail (ops : List Oper) (n : Nat) (st : List (Nat × Bool)) : Bool :=
 Region.noSelect ops.toArray && decide (n < ops.toArray.size) && decide (st.length = n) && Region.sinkB .any ops.toArray n && Region.chainB .any ops.toArray n && okSteps .any ops.toArray n st (Array.replicate ops.toArray.size false)
def compR (P : Program) (nt : Nat) (ops : Array Oper) : Option MC :=
 match tailLen ops.toList.reverse with
 | 0 =>
  let s := sched P ops ops.size (Array.replicate ops.size false) []
  cond (Region.noSelect ops && Nat.ble s.length ops.size && okFlat P ops s (Array.replicate ops.size false)) (match compAll P nt ops s with
   | some ms => some (.flat ms)
   | none => none) none
 | k + 1 =>
  let n := Nat.sub ops.size (k + 1)
  let s := sched P ops n (Array.replicate ops.size false) []
  cond (okTail ops.toList n s) (match compAll P nt ops s, compAll P nt ops (seqIdx n (ops.size - n)) with
   | some ms, some tl => some (.tail ms tl)
   | _, _ => none) none
def compC (P : Program) (nt : Nat) : Code → Option MC
 | .skip => some .skip
 | .label _ => some .skip
 | .region _ ops draw => cond draw (compR P nt ops) (match compAll P nt ops (seqIdx 0 ops.size) with
  | some ms => some (.lst ms)
  | none => none)
 | .seq a b => match compC P nt a, compC P nt b with
  | some x, some y => some (.seq x y)
  | _, _ => none
 | .cond c a b => match compC P nt a, compC P nt b with
  | some x, some y => some (.cond (cOd c) x y)
  | _, _ => none
 | .block id b => match compC P nt b with
  | some x => some (.block id x)
  | none => none
 | .loop b => match compC P nt b with
  | some x => some (.loop x)
  | none => none
 | .scope b => match compC P nt b with
  | some x => some (.scope x)
  | none => none
 | .exit id => some (.exit id)
 | .goto l => some (.goto l)
 | .ret => some .ret
 | _ => none
def inW (n : Nat) (W : List Nat) (X : List (Nat × Nat)) (M : Nat → Nat → Bool) : Nat → Nat → Bool := fun b j => M b j && (Nat.ble n b || W.contains b || X.contains (b, j))
def rdW (W : List Nat) (X : List (Nat × Nat)) : Nat → Nat → Bool := fun b j => !W.contains b && !X.contains (b, j)
def Post.seq (k : Fr → St → Prop) (Q : Post) : Post
 | .normal, fr, st => k fr st
 | .exit i, fr, st => Q (.exit i) fr st
 | .goto i, fr, st => Q (.goto i) fr st
 | .ret, fr, st => Q .ret fr st
 | .panic c, fr, st => Q (.panic c) fr st
def Post.block (id : Nat) (Q : Post) : Post
 | .normal, fr, st => Q .normal fr st
 | .exit i, fr, st => if i = id then Q .normal fr st else Q (.exit i) fr st
 | .goto i, fr, st => Q (.goto i) fr st
 | .ret, fr, st => Q .ret fr st
 | .panic c, fr, st => Q (.panic c) fr st
def Post.scope (Q : Post) : Post
 | .normal, fr, st => Q .normal fr st
 | .exit i, fr, st => Q (.exit i) fr st
 | .goto _, _, _ => False
 | .ret, fr, st => Q .ret fr st
 | .panic c, fr, st => Q (.panic c) fr st
def dsts : List MO → List Nat
 | [] => []
 | m :: l => addD m.d (dsts l)
theorem dsts_mem {ms : List MO} {m : MO} {x : Nat} (hm : m ∈ ms) (hx : m.d = some x) : x ∈ dsts ms := by
 induction ms with
 | nil => cases hm
 | cons m' l ih =>
  unfold dsts addD
  rcases List.mem_cons.1 hm with rfl | hm
  ·rw [hx]; exact List.mem_cons_self
  ·have := ih hm
   split
   ·exact this
   ·exact List.mem_cons_of_mem _ this
def pq (ms : List MO) (Q : Post) : Post
 | .panic c, fr, st => Q (.panic c) (maskd (dsts ms) fr) st
 | .normal, fr, st => Q .normal fr st
 | .exit i, fr, st => Q (.exit i) fr st
 | .goto i, fr, st => Q (.goto i) fr st
 | .ret, fr, st => Q .ret fr st
theorem maskd_idem (D : List Nat) (fr : Fr) : maskd D (maskd D fr) = maskd D fr := by
 unfold maskd
 simp only [Fr.mk.injEq, and_true]
 funext t
 split <;> rfl
theorem pq_mask (ms : List MO) (Q : Post) (c : List PanicEntry) (fr : Fr) (st : St) (h : pq ms Q (.panic c) fr st) : pq ms Q (.panic c) (maskd (dsts ms) fr) st := by
 show Q (.panic c) (maskd (dsts ms) (maskd (dsts ms) fr)) st
 rw [maskd_idem]
 exact h
def wpM (P : Program) (T : Tbl) (M : Nat → Nat → Bool) : MC → Post → Fr → St → Prop
 | .skip, Q, fr, st => Q .normal fr st
 | .lst ms, Q, fr, st => seqV P T M Q (Q .normal) ms fr st
 | .flat ms, Q, fr, st => ∃ (W : List Nat) (X : List (Nat × Nat)), stepsV P T (inW st.length W X M) (rdW W X) st (pq ms Q) (Q .normal) ms [] fr st
 | .tail ms tl, Q, fr, st => ∃ (W : List Nat) (X : List (Nat × Nat)), stepsV P T (inW st.length W X M) (rdW W X) st (pq ms Q) (fun fr st => seqV P T M (pq ms Q) (Q .normal) tl fr st) ms [] fr st
 | .seq a b, Q, fr, st => wpM P T M a (Post.seq (wpM P T M b Q) Q) fr st
 | .cond c a b, Q, fr, st => ∃ t : Bool, c.ev T fr = some (.val (.bool t)) ∧ (t = true → wpM P T M a Q fr st) ∧ (t = false → wpM P T M b Q fr st)
 | .block id b, Q, fr, st => wpM P T M b (Post.block id Q) fr st
 | .loop b, Q, fr, st => ∃ (I : Fr → St → Prop) (μ : Fr → St → Nat), I fr st ∧ ∀ fr st, I fr st → wpM P T M b (Post.seq (fun fr' st' => I fr' st' ∧ μ fr' st' < μ fr st) Q) fr st
 | .scope b, Q, fr, st => wpM P T M b (Post.scope Q) fr st
 | .exit id, Q, fr, st => Q (.exit id) fr st
 | .goto l, Q, fr, st => Q (.goto l) fr st
 | .ret, Q, fr, st => Q .ret fr st
section
variable {P : Program} {T : Tbl} {B : Nat} {w0 : World} {E : Env} {st st' : St} {w : World} {M : Nat → Nat → Bool} {nt : Nat} {fr : Fr} {a : Act}
theorem PostR.trans {E1 : Env} {st1 : St} {w1 : World} {Q : Post} {e : Exit} {w' : World} (hs : Stp M E st w E1 st1 w1) (h : PostR nt B w0 M E1 st1 w1 Q e a w') : PostR nt B w0 M E st w Q e a w' := by
 obtain ⟨x, E', st', fr', e, h1, h2, h3, h5⟩ := h
 exact ⟨x, E', st', fr', e, h1, hs.trans h2, h3, h5⟩
theorem PostR.unpq {Q : Post} {ms : List MO} {e : Exit} {w' : World} (h : PostR nt B w0 M E st w (pq ms Q) e a w') : PostR nt B w0 M E st w Q e a w' := by
 obtain ⟨x, E', st', fr', e, h1, h2, h3, h5⟩ := h
 cases x with
 | panic c => exact ⟨.panic c, E', st', maskd (dsts ms) fr', e, h1, h2, h3.masked _, h5⟩
 | normal => exact ⟨.normal, E', st', fr', e, h1, h2, h3, h5⟩
 | exit i => exact ⟨.exit i, E', st', fr', e, h1, h2, h3, h5⟩
 | goto i => exact ⟨.goto i, E', st', fr', e, h1, h2, h3, h5⟩
 | ret => exact ⟨.ret, E', st', fr', e, h1, h2, h3, h5⟩
theorem seq_ok {ops : Array Oper} {Q Q' : Post} {Eb : Env} {sb : St} {wb : World} : ∀ (ms : List MO) (os : List Oper) (K : Fr → St → Prop) (fr : Fr) (st : St) (E : Env) (a : Act) (w : World), ms.length = os.length → (∀ (i : Nat) (m : MO) (o : Oper), ms[i]? = some m → os[i]? = some o → compMO P nt ops m.i m.q = some m ∧ ops[m.i]? = some o) →
  (∀ c fr st, Q (.panic c) fr st → Q' (.panic c) fr st) → (∀ fr st, K fr st → Q' .normal fr st) → TblOk T B w0 E w → Rep B w0 E st w → Stp M Eb sb wb E st w → FrOk nt E st w fr a → seqV P T M Q K ms fr st → wpList P ops (PostR nt B w0 M Eb sb wb Q') os a w
 | [], [], K, fr, st, E, a, w, _, _, _, hK, _, h, hs, hf, hv => ⟨.normal, E, st, fr, rfl, h, hs, hf, hK _ _ hv⟩
 | [], _ :: _, _, _, _, _, _, _, hl, _, _, _, _, _, _, _, _ => by cases hl
 | _ :: _, [], _, _, _, _, _, _, hl, _, _, _, _, _, _, _, _ => by cases hl
 | m :: ms, o :: os, K, fr, st, E, a, w, hl, hc, hp, hK, hT, h, hs, hf, hv => by
  obtain ⟨hcm, hop⟩ := hc 0 m o rfl rfl
  obtain ⟨-, -, o', ho, hm, hg, hd, hnt⟩ := compMO_ok hcm
  have : o' = o := by rw [hop] at ho; injection ho with ho; exact ho.symm
  subst this
  have hc' : ∀ (i : Nat) (m : MO) (o : Oper), ms[i]? = some m → os[i]? = some o → compMO P nt ops m.i m.q = some m ∧ ops[m.i]? = some o := fun i m o h1 h2 => hc (i + 1) m o (by simpa using h1) (by simpa using h2)
  have hl' : ms.length = os.length := by simpa using hl
  unfold wpList
  simp only [seqV] at hv
  rcases gd_ok hf hg hv with ⟨hw, h2⟩ | ⟨hw, h2⟩
  ·rw [if_pos hw]
   refine Or.inl (op_ok hT h hf hm h2 (fun E' w' v u fr' st' a' h1 h3 h4 h5 h6 h7 h8 => ?_) (fun E' w' c st' h1 h3 h4 => ?_))
   ·rw [hd] at h8
    exact seq_ok ms os K _ st' E' _ w' hl' hc' hp hK (hT.mono h3.toExt) h1 (hs.trans h3) (h5.put hnt h4) h8
   ·exact ⟨.panic c, E', st', fr, rfl, h1, hs.trans h3, hf.mono h3.toExt, hp _ _ _ h4⟩
  ·rw [hw, if_neg (by decide)]
   rw [hd] at h2
   exact seq_ok ms os K _ st E _ w hl' hc' hp hK hT h hs (hf.put hnt (.pure (.val _))) h2
theorem compAll_ok {ops : Array Oper} : ∀ (l : List (Nat × Bool)) (ms : List MO), compAll P nt ops l = some ms → (ms.map fun m => (m.i, m.q)) = l ∧ ∀ m ∈ ms, compMO P nt ops m.i m.q = some m
 | [], ms, h => by cases h; exact ⟨rfl, fun m hm => by cases hm⟩
 | (i, q) :: l, ms, h => by
  simp only [compAll] at h
  split at h
  ·rename_i m r hm hr
   cases h
   obtain ⟨h1, h2⟩ := compAll_ok l r hr
   obtain ⟨e1, e2, -⟩ := compMO_ok hm
   refine ⟨by simp [h1, e1, e2], fun x hx => ?_⟩
   rcases List.mem_cons.1 hx with rfl | hx
   ·rw [e1, e2]; exact hm
   ·exact h2 x hx
  ·cases h
theorem seqIdx_get : ∀ (n i j : Nat), (seqIdx i n)[j]? = if j < n then some (i + j, false) else none
 | 0, i, j => by simp [seqIdx]
 | n + 1, i, 0 => by simp [seqIdx]
 | n + 1, i, j + 1 => by
  rw [seqIdx, List.getElem?_cons_succ, seqIdx_get n (i + 1) j]
  by_cases h : j < n
  ·rw [if_pos h, if_pos (by omega)]; congr 2; omega
  ·rw [if_neg h, if_neg (by omega)]
theorem seqIdx_len : ∀ (n i : Nat), (seqIdx i n).length = n
 | 0, _ => rfl
 | n + 1, i => by rw [seqIdx, List.length_cons, seqIdx_len n]
theorem list_ok {ops : Array Oper} {n : Nat} {ms : List MO} (hc : compAll P nt ops (seqIdx n (ops.size - n)) = some ms) {Q Q' : Post} {K : Fr → St → Prop} {Eb : Env} {sb : St} {wb : World} (hp : ∀ c fr st, Q (.panic c) fr st → Q' (.panic c) fr st) (hK : ∀ fr st, K fr st → Q' .normal fr st)
  (hT : TblOk T B w0 E w) (h : Rep B w0 E st w) (hs : Stp M Eb sb wb E st w) (hf : FrOk nt E st w fr a) (hv : seqV P T M Q K ms fr st) : wpList P ops (PostR nt B w0 M Eb sb wb Q') (ops.toList.drop n) a w := by
 obtain ⟨h1, h2⟩ := compAll_ok _ _ hc
 have hlen : ms.length = ops.size - n := by have := congrArg List.length h1; simpa [seqIdx_len] using this
 refine seq_ok ms _ K fr st E a w (by rw [hlen]; simp) (fun i m o hm ho => ?_) hp hK hT h hs hf hv
 refine ⟨h2 m (List.mem_of_getElem? hm), ?_⟩
 have h3 : (ms.map fun m => (m.i, m.q))[i]? = some (m.i, m.q) := by rw [List.getElem?_map, hm]; rfl
 rw [h1, seqIdx_get] at h3
 split at h3
 ·simp only [Option.some.injEq, Prod.mk.injEq] at h3
  rw [List.getElem?_drop, Array.getElem?_toList] at ho
  rw [← h3.1]; exact ho
 ·cases h3
theorem inW_ok {n : Nat} {W : List Nat} {X : List (Nat × Nat)} : (∀ b j, b < n → rdW W X b j = true → inW n W X M b j = false) ∧ ∀ b j, inW n W X M b j = true → M b j = true := by
 refine ⟨fun b j hb hr => ?_, fun b j hb => ?_⟩
 ·simp only [rdW, Bool.and_eq_true, Bool.not_eq_true'] at hr
  have : Nat.ble n b = false := by
   cases hh : Nat.ble n b with
   | false => rfl
   | true => have := Nat.le_of_ble_eq_true hh; omega
  simp only [inW, hr.1, hr.2, this, Bool.or_false, Bool.and_false]
 ·simp only [inW, Bool.and_eq_true] at hb; exact hb.1
theorem region_ok (hm : P.follows .mixedOrders = true) {ops : Array Oper} {id : Nat} {m : MC} (hc : compR P nt ops = some m) {Q : Post} (hT : TblOk T B w0 E w) (h : Rep B w0 E st w) (hf : FrOk nt E st w fr a) (hv : wpM P T M m Q fr st) :
  (Code.region id ops true).wp P (PostR nt B w0 M E st w Q) a w := by
 have hw0 := Stp.drew M E st w
 have hT' : TblOk T B w0 E w.drew := hT.mono hw0.toExt
 have hf' : FrOk nt E st w.drew fr a := hf.mono hw0.toExt
 unfold compR at hc
 split at hc
 ·cases hB : (Region.noSelect ops && Nat.ble (sched P ops ops.size (Array.replicate ops.size false) []).length ops.size && okFlat P ops (sched P ops ops.size (Array.replicate ops.size false) []) (Array.replicate ops.size false)) with
  | false => simp only [hB] at hc; cases hc
  | true =>
   simp only [hB, cond] at hc
   split at hc
   ·rename_i ms hms
    cases hc
    obtain ⟨W, X, hv⟩ := hv
    obtain ⟨e1, e2⟩ := compAll_ok _ _ hms
    refine wp_mono (wp_region_flat (Q := PostR nt B w0 M E st w (pq ms Q)) (S := Agree (rdW W X) E st w.drew) _ (fun ⟨a, w, hh⟩ => by
     obtain ⟨x, E', st', fr', e, -⟩ := hh
     cases x <;> cases e) (fun y hy oi v c a w hi hh => by
     rw [← e1] at hy
     obtain ⟨m, hm1, rfl⟩ := List.mem_map.1 hy
     obtain ⟨-, -, o, ho, -, -, hd, -⟩ := compMO_ok (e2 m hm1)
     obtain rfl : oi = o := by rw [hi] at ho; exact Option.some.inj ho
     obtain ⟨x, E', st', fr', e, h1, h2, h3, h5⟩ := hh
     cases x <;> cases e
     exact ⟨.panic c, E', st', maskd (dsts ms) fr', rfl, h1, h2, h3.unput (fun x hx => dsts_mem hm1 (hd.trans hx)), pq_mask ms Q _ _ _ h5⟩) hm hB (Agree.refl _ _ _ _) ?_) fun e a' w' hh => hh.unpq
    rw [← e1]
    exact steps_ok (D0 := dsts ms) hT' h.drew inW_ok.1 (fun b j _ hb => inW_ok.2 b j hb) hw0 (pq_mask ms Q) (fun E' fr' st' a' w' h1 h2 h3 h4 => ⟨.normal, E', st', fr', rfl, h1, hw0.trans (h2.mono fun b j _ hb => inW_ok.2 b j hb), h3, h4⟩) ms [] fr st E a w.drew e2 (fun m hm x hx => dsts_mem hm hx) h.drew (Stp.refl _ _ _ _) hf' (hf'.mask0 []) hv
   ·cases hc
 ·rename_i k hk
  cases hB : okTail ops.toList (Nat.sub ops.size (k + 1)) (sched P ops (Nat.sub ops.size (k + 1)) (Array.replicate ops.size false) []) with
  | false => simp only [hB] at hc; cases hc
  | true =>
   simp only [hB, cond] at hc
   split at hc
   ·rename_i ms tl hms htl
    cases hc
    obtain ⟨W, X, hv⟩ := hv
    obtain ⟨e1, e2⟩ := compAll_ok _ _ hms
    have := wp_region_steps (P := P) (id := id) (a := a) (w := w) (l := ops.toList) (Q := PostR nt B w0 M E st w (pq ms Q)) (Agree (rdW W X) E st w.drew) (Nat.sub ops.size (k + 1)) _ hm hB (Agree.refl _ _ _ _) (by
     rw [← e1]
     exact steps_ok (D0 := dsts ms) (K := fun fr st => seqV P T M (pq ms Q) (Q .normal) tl fr st) hT' h.drew inW_ok.1 (fun b j _ hb => inW_ok.2 b j hb) hw0 (pq_mask ms Q) (fun E' fr' st' a' w' h1 h2 h3 h4 => by
      have h2' := h2.mono fun b j _ hb => inW_ok.2 b j hb
      have := list_ok htl (Q := pq ms Q) (Q' := pq ms Q) (K := Q .normal) (fun _ _ _ h => h) (fun _ _ h => h) (hT'.mono h2'.toExt) h1 (hw0.trans h2') h3 h4
      rw [Array.toArray_toList]
      exact this) ms [] fr st E a w.drew (by rw [Array.toArray_toList]; exact e2) (fun m hm x hx => dsts_mem hm hx) h.drew (Stp.refl _ _ _ _) hf' (hf'.mask0 []) hv)
    rw [Array.toArray_toList] at this
    exact wp_mono this fun e a' w' hh => hh.unpq
   ·cases hc
end
end Go.Proofs.YtkcdgaijklhnaaaGreatDoor.Vm
namespace Go.Proofs.YtkcdgaijklhnaaaGreatDoor.Vm
open Go.RowKit
section
variable {P : Program} {T : Tbl} {B : Nat} {w0 : World} {E : Env} {st st' : St} {w : World} {M : Nat → Nat → Bool} {nt : Nat} {fr : Fr} {a : Act}
theorem rounds_ok {c : Code} {b : MC} {Q : Post} {I : Fr → St → Prop} {μ : Fr → St → Nat} {Eb : Env} {sb : St} {wb : World}
  (ih : ∀ (Q : Post) (fr : Fr) (st : St) (E : Env) (a : Act) (w : World), TblOk T B w0 E w → Rep B w0 E st w → FrOk nt E st w fr a → wpM P T M b Q fr st → c.wp P (PostR nt B w0 M E st w Q) a w)
  (hI : ∀ fr st, I fr st → wpM P T M b (Post.seq (fun fr' st' => I fr' st' ∧ μ fr' st' < μ fr st) Q) fr st) :
  ∀ (n : Nat) (fr : Fr) (st : St) (E : Env) (a : Act) (w : World), μ fr st < n → TblOk T B w0 E w → Rep B w0 E st w → Stp M Eb sb wb E st w → FrOk nt E st w fr a → I fr st → Code.rounds P c (PostR nt B w0 M Eb sb wb Q) n a w
 | 0, _, _, _, _, _, h, _, _, _, _, _ => by omega
 | n + 1, fr, st, E, a, w, hn, hT, h, hs, hf, hi => by
  rw [rounds_succ]
  refine wp_mono (ih _ fr st E a w hT h hf (hI fr st hi)) fun e a' w' hq => ?_
  obtain ⟨x, E', st', fr', rfl, h1, h2, h3, h5⟩ := hq
  cases x with
  | normal => exact rounds_ok ih hI n fr' st' E' a' w' (by have := h5.2; omega) (hT.mono h2.toExt) h1 (hs.trans h2) h3 h5.1
  | exit i => exact ⟨_, E', st', fr', rfl, h1, hs.trans h2, h3, h5⟩
  | goto i => exact ⟨_, E', st', fr', rfl, h1, hs.trans h2, h3, h5⟩
  | ret => exact ⟨_, E', st', fr', rfl, h1, hs.trans h2, h3, h5⟩
  | panic i => exact ⟨_, E', st', fr', rfl, h1, hs.trans h2, h3, h5⟩
theorem code_ok (hm : P.follows .mixedOrders = true) : ∀ (c : Code) (m : MC), compC P nt c = some m → ∀ (Q : Post) (fr : Fr) (st : St) (E : Env) (a : Act) (w : World), TblOk T B w0 E w → Rep B w0 E st w → FrOk nt E st w fr a → wpM P T M m Q fr st → c.wp P (PostR nt B w0 M E st w Q) a w := by
 intro c
 induction c with
 | skip =>
  intro m hc Q fr st E a w hT h hf hv
  cases hc
  exact wp_skip ⟨.normal, E, st, fr, rfl, h, Stp.refl _ _ _ _, hf, hv⟩
 | label l =>
  intro m hc Q fr st E a w hT h hf hv
  cases hc
  exact wp_label ⟨.normal, E, st, fr, rfl, h, Stp.refl _ _ _ _, hf, hv⟩
 | region id ops draw =>
  intro m hc Q fr st E a w hT h hf hv
  cases draw with
  | true => exact region_ok hm hc hT h hf hv
  | false =>
   simp only [compC, cond] at hc
   split at hc
   ·rename_i ms hms
    cases hc
    refine wp_region_list ?_
    have := list_ok (n := 0) (by simpa using hms) (Q := Q) (Q' := Q) (K := Q .normal) (fun _ _ _ h => h) (fun _ _ h => h) hT h (Stp.refl M _ _ _) hf hv
    simpa using this
   ·cases hc
 | seq x y ihx ihy =>
  intro m hc Q fr st E a w hT h hf hv
  simp only [compC] at hc
  split at hc
  ·rename_i mx my hx hy
   cases hc
   refine wp_seq (wp_mono (ihx mx hx _ fr st E a w hT h hf hv) fun e a' w' hq => ?_)
   obtain ⟨x, E', st', fr', rfl, h1, h2, h3, h5⟩ := hq
   cases x with
   | normal => exact wp_mono (ihy my hy Q fr' st' E' a' w' (hT.mono h2.toExt) h1 h3 h5) fun e a w hq => PostR.trans h2 hq
   | exit i => exact ⟨_, E', st', fr', rfl, h1, h2, h3, h5⟩
   | goto i => exact ⟨_, E', st', fr', rfl, h1, h2, h3, h5⟩
   | ret => exact ⟨_, E', st', fr', rfl, h1, h2, h3, h5⟩
   | panic i => exact ⟨_, E', st', fr', rfl, h1, h2, h3, h5⟩
  ·cases hc
 | cond c x y ihx ihy =>
  intro m hc Q fr st E a w hT h hf hv
  simp only [compC] at hc
  split at hc
  ·rename_i mx my hx hy
   cases hc
   obtain ⟨t, h1, h2, h3⟩ := hv
   have hr := (ev_ok hT hf h1).lit
   cases t with
   | true => exact wp_cond_true hr (ihx mx hx Q fr st E a w hT h hf (h2 rfl))
   | false => exact wp_cond_false hr (ihy my hy Q fr st E a w hT h hf (h3 rfl))
  ·cases hc
 | block id b ih =>
  intro m hc Q fr st E a w hT h hf hv
  simp only [compC] at hc
  split at hc
  ·rename_i mb hb
   cases hc
   refine wp_block (wp_mono (ih mb hb _ fr st E a w hT h hf hv) fun e a' w' hq => ?_)
   obtain ⟨x, E', st', fr', rfl, h1, h2, h3, h5⟩ := hq
   cases x with
   | normal => exact ⟨.normal, E', st', fr', rfl, h1, h2, h3, h5⟩
   | exit i =>
    simp only [Xit.e, Exit.inBlock]
    simp only [Post.block] at h5
    by_cases hid : i = id
    ·rw [if_pos hid] at h5 ⊢; exact ⟨.normal, E', st', fr', rfl, h1, h2, h3, h5⟩
    ·rw [if_neg hid] at h5 ⊢; exact ⟨.exit i, E', st', fr', rfl, h1, h2, h3, h5⟩
   | goto i => exact ⟨.goto i, E', st', fr', rfl, h1, h2, h3, h5⟩
   | ret => exact ⟨.ret, E', st', fr', rfl, h1, h2, h3, h5⟩
   | panic i => exact ⟨.panic i, E', st', fr', rfl, h1, h2, h3, h5⟩
  ·cases hc
 | loop b ih =>
  intro m hc Q fr st E a w hT h hf hv
  simp only [compC] at hc
  split at hc
  ·rename_i mb hb
   cases hc
   obtain ⟨I, μ, hi, hr⟩ := hv
   exact wp_loop_rounds _ (rounds_ok (ih mb hb) hr (μ fr st + 1) fr st E a w (Nat.lt_succ_self _) hT h (Stp.refl _ _ _ _) hf hi)
  ·cases hc
 | scope b ih =>
  intro m hc Q fr st E a w hT h hf hv
  simp only [compC] at hc
  split at hc
  ·rename_i mb hb
   cases hc
   refine wp_scope_straight (wp_mono (ih mb hb _ fr st E a w hT h hf hv) fun e a' w' hq => ?_)
   obtain ⟨x, E', st', fr', rfl, h1, h2, h3, h5⟩ := hq
   cases x with
   | normal => exact ⟨.normal, E', st', fr', rfl, h1, h2, h3, h5⟩
   | exit i => exact ⟨.exit i, E', st', fr', rfl, h1, h2, h3, h5⟩
   | goto i => exact h5.elim
   | ret => exact ⟨.ret, E', st', fr', rfl, h1, h2, h3, h5⟩
   | panic i => exact ⟨.panic i, E', st', fr', rfl, h1, h2, h3, h5⟩
  ·cases hc
 | exit id =>
  intro m hc Q fr st E a w hT h hf hv
  cases hc
  exact wp_exit ⟨.exit id, E, st, fr, rfl, h, Stp.refl _ _ _ _, hf, hv⟩
 | goto l =>
  intro m hc Q fr st E a w hT h hf hv
  cases hc
  exact wp_goto ⟨.goto l, E, st, fr, rfl, h, Stp.refl _ _ _ _, hf, hv⟩
 | ret =>
  intro m hc Q fr st E a w hT h hf hv
  cases hc
  exact wp_ret ⟨.ret, E, st, fr, rfl, h, Stp.refl _ _ _ _, hf, hv⟩
 | rangeFunc => intro m hc; cases hc
 | refuse => intro m hc; cases hc
end
inductive RV where
 | t (n : Nat)
 | c (n : Nat) (row : Bool) (k : Nat)
def compV (P : Program) : ResultVar → Option RV
 | .tmp t => some (.t t)
 | .cell p ty => match P.underlying ty, sizeX P ty with
  | some d, some n => some (.c p d.isRow n)
  | _, _ => none
def compVs (P : Program) : List ResultVar → Option (List RV)
 | [] => some []
 | r :: l => match compV P r, compVs P l with
  | some x, some s => some (x :: s)
  | _, _ => none
def resV (fr : Fr) (st : St) : RV → Option V
 | .t n => some (fr.g n)
 | .c n row k => mLoad (fun _ _ => true) row k st (fr.g n)
def resVs (fr : Fr) (st : St) : List RV → Option (List V)
 | [] => some []
 | r :: l => match resV fr st r, resVs fr st l with
  | some x, some s => some (x :: s)
  | _, _ => none
def tupV : List V → V
 | [x] => x
 | l => .tup l
def fr0 (args : List V) : Fr := ⟨fun t => (args[t]?).getD (.val undef), []⟩
structure FnM where
 nt : Nat
 code : MC
 res : List RV
def compF (P : Program) (f : Nat) : Option FnM :=
 match P.funcs[f]? with
 | some fn => match fn.body with
  | some c => match compC P fn.ntmps c, compVs P fn.results.toList with
   | some m, some r => cond (!(fn.name == "runtime.NumGoroutine")) (some ⟨fn.ntmps, m, r⟩) none
   | _, _ => none
  | none => none
 | none => none
def resF (tmps : Array Value) : ResultVar → Sem Value
 | .tmp t => pure (tmps.getD t undef)
 | .cell p ty => do loadVar ty (← asAddr (tmps.getD p undef))
theorem results_eq (fn : Func) (tmps : Array Value) : results fn tmps = (do
  let vs ← fn.results.mapM (resF tmps)
  pure (if h : vs.size = 1 then vs[0] else .tuple vs)) := rfl
section
variable {P : Program} {T : Tbl} {B : Nat} {w0 : World} {E : Env} {st st' : St} {w : World} {M : Nat → Nat → Bool} {nt : Nat} {fr : Fr} {a : Act}
theorem resV_ok (h : Rep B w0 E st w) (hf : FrOk nt E st w fr a) {r : ResultVar} {x : RV} {v : V} (hc : compV P r = some x) (hv : resV fr st x = some v) : ∃ u, Rel E st w v u ∧ (resF a.tmps r).run P w = .ok u w := by
 cases r with
 | tmp t => cases hc; cases hv; exact ⟨_, hf.tm t, rfl⟩
 | cell p ty =>
  simp only [compV] at hc
  split at hc
  ·rename_i d n hd hn
   cases hc
   have hp := hf.tm p
   obtain ⟨u, r1, r2⟩ := mLoad_ok (P := P) h.rows hd hn rfl hp hv
   have hr := r2 w (Agree.refl _ _ _ _)
   refine ⟨u, r1, ?_⟩
   have hptr : ∃ q, a.tmps.getD p undef = .pointer (some q) := by
    simp only [resV] at hv
    clear hr r2
    generalize a.tmps.getD p undef = up at hp ⊢
    cases hg : fr.g p with
    | cref x j =>
     rw [hg] at hp
     cases hp with
     | pure hp => cases hp with
      | cref => exact ⟨_, rfl⟩
    | ptr b L i j =>
     rw [hg] at hp hv
     simp only [mLoad] at hv
     split at hv
     ·split at hv
      ·rename_i t' k xs hb
       split at hv
       ·rename_i hL
        cases hp with
        | pure hp => cases hp
        | ptr _ _ _ _ _ hbl h1 hh =>
         obtain ⟨-, g2⟩ := hh t' k xs hb
         exact ⟨_, (g2 hL.symm).2.2⟩
       ·cases hv
      ·cases hv
     ·cases hv
    | _ => rw [hg] at hv; cases hv
   obtain ⟨q, hq⟩ := hptr
   rw [hq] at hr
   simp only [resF, hq]
   simpa [Instr.loadAt, Instr.sureAddr, asAddr] using hr
  ·cases hc
end
end Go.Proofs.YtkcdgaijklhnaaaGreatDoor.Vm
namespace Go.Proofs.YtkcdgaijklhnaaaGreatDoor.Vm
open Go.RowKit
section
variable {P : Program} {T : Tbl} {B : Nat} {w0 : World} {E : Env} {st st' : St} {w : World} {M : Nat → Bool} {nt : Nat} {fr : Fr} {a : Act}
theorem resVs_ok (h : Rep B w0 E st w) (hf : FrOk nt E st w fr a) : ∀ (l : List ResultVar) (xs : List RV) (vs : List V), compVs P l = some xs → resVs fr st xs = some vs → ∃ us : List Value, Pw E st w vs us ∧ (l.mapM (resF a.tmps)).run P w = .ok us w
 | [], xs, vs, hc, hv => by cases hc; cases hv; exact ⟨[], Pw.nil, rfl⟩
 | r :: l, xs, vs, hc, hv => by
  simp only [compVs] at hc
  split at hc
  ·rename_i x s hx hs
   cases hc
   simp only [resVs] at hv
   split at hv
   ·rename_i y q hy hq
    cases hv
    obtain ⟨u, r1, r2⟩ := resV_ok (P := P) h hf hx hy
    obtain ⟨us, r3, r4⟩ := resVs_ok h hf l s q hs hq
    refine ⟨u :: us, Pw.cons r1 r3, ?_⟩
    simp [List.mapM_cons, r2, r4]
   ·cases hv
  ·cases hc
theorem results_ok (h : Rep B w0 E st w) (hf : FrOk nt E st w fr a) {fn : Func} {xs : List RV} {vs : List V} (hc : compVs P fn.results.toList = some xs) (hv : resVs fr st xs = some vs) : ∃ u, Rel E st w (tupV vs) u ∧ (results fn a.tmps).run P w = .ok u w := by
 obtain ⟨us, h1, h2⟩ := resVs_ok (P := P) h hf _ _ _ hc hv
 have hl : fn.results = fn.results.toList.toArray := by simp
 have h3 : (fn.results.mapM (resF a.tmps)).run P w = .ok us.toArray w := by
  rw [hl, List.mapM_toArray, Sem.run_map, h2]
  rfl
 rw [results_eq, Sem.run_bind, h3]
 simp only [Result.andThen_ok]
 have hsz : us.length = vs.length := h1.1
 match vs, us, h1, hsz with
 | [x], [u], h1, _ => exact ⟨u, h1.2 0 x u rfl rfl, rfl⟩
 | [], [], _, _ => exact ⟨.tuple #[], .tup [] [] rfl (fun i y u hy => by simp at hy), rfl⟩
 | x :: y :: vs, u :: z :: us, h1, _ => exact ⟨.tuple (u :: z :: us).toArray, .tup _ _ h1.1 h1.2, by simp⟩
def Fin (res : List RV) (K : V → St → Prop) (Kp : List PanicEntry → St → Prop) : Post
 | .normal, fr, st => fr.df = [] ∧ ∃ vs, resVs fr st res = some vs ∧ K (tupV vs) st
 | .ret, fr, st => fr.df = [] ∧ ∃ vs, resVs fr st res = some vs ∧ K (tupV vs) st
 | .panic c, fr, st => fr.df = [] ∧ Kp c st
 | _, _, _ => False
theorem fr0_ok {args : List V} {us : List Value} (hu : Pw E st w args us) (hn : args.length ≤ nt) : FrOk nt E st w (fr0 args) { tmps := us.toArray ++ Array.replicate (nt - us.toArray.size) undef, defers := [] } := by
 refine ⟨by simp; have := hu.1; omega, fun t => ?_, rfl, fun i d x hd => by simp [fr0] at hd⟩
 simp only [fr0]
 rw [Array.getD_eq_getD_getElem?]
 by_cases ht : t < us.length
 ·rw [Array.getElem?_append_left (by simpa using ht), List.getElem?_toArray, List.getElem?_eq_getElem ht, List.getElem?_eq_getElem (show t < args.length by rw [← hu.1]; exact ht)]
  exact hu.2 t _ _ (List.getElem?_eq_getElem (show t < args.length by rw [← hu.1]; exact ht)) (List.getElem?_eq_getElem ht)
 ·rw [List.getElem?_eq_none (show args.length ≤ t by rw [← hu.1]; omega)]
  have : ((us.toArray ++ Array.replicate (nt - us.toArray.size) undef)[t]?).getD undef = undef := by
   rw [Array.getElem?_append_right (by simpa using Nat.le_of_not_lt ht), Array.getElem?_replicate]
   split <;> rfl
  rw [this]
  exact .pure (.val _)
def upM (n : Nat) (M : Nat → Bool) : Nat → Bool := fun b => Nat.ble n b || M b
def liftM (M : Nat → Bool) : Nat → Nat → Bool := fun b _ => M b
theorem fun_ok (hm : P.follows .mixedOrders = true) {f : Nat} {F : FnM} (hc : compF P f = some F) {args : List V} (hn : args.length ≤ F.nt) {K : V → St → Prop} {Kp : List PanicEntry → St → Prop} (hb : wpM P T (liftM (upM st.length M)) F.code (Fin F.res K Kp) (fr0 args) st) : CallV P T M f args st K Kp := by
 have hup : ∀ b, b < st.length → upM st.length M b = true → M b = true := fun b hb h => by
  simp only [upM, Bool.or_eq_true] at h
  rcases h with h | h
  ·have := Nat.le_of_ble_eq_true h; omega
  ·exact h
 unfold compF at hc
 split at hc
 ·rename_i fn hfn
  split at hc
  ·rename_i c hbody
   split at hc
   ·rename_i m r hm' hr
    cases hnm : (!(fn.name == "runtime.NumGoroutine")) with
    | false => rw [hnm] at hc; cases hc
    | true =>
     rw [hnm] at hc
     cases hc
     refine ⟨by simp only [entersX, hfn, hnm, hbody]; rfl, fun B w0 E w us hR hT hu => ?_⟩
     refine calls_of_wp_defers hfn hbody (wp_mono (code_ok (M := liftM (upM st.length M)) hm c m hm' _ (fr0 args) st E _ w hT hR (fr0_ok hu hn) hb) fun e a' w' hq => ?_)
     obtain ⟨x, E', st', fr', rfl, h1, h2, h3, h5⟩ := hq
     have hdef : fr'.df = [] → a'.defers = [] := fun e => by have := h3.dl; rw [e] at this; exact List.eq_nil_of_length_eq_zero this
     have hret : (fr'.df = [] ∧ ∃ vs, resVs fr' st' r = some vs ∧ K (tupV vs) st') → Leaves P fn a'.tmps (EndOk P M B w0 E st w K Kp) a'.defers .returning w' := fun ⟨g1, vs, g2, g3⟩ => by
      rw [hdef g1]
      obtain ⟨u, q1, q2⟩ := results_ok (P := P) h1 h3 hr g2
      exact ⟨u, q2, E', st', _, h1, h2.mono (fun b _ => hup b), q1, g3⟩
     cases x with
     | normal => exact hret h5
     | ret => exact hret h5
     | panic c =>
      obtain ⟨g1, g2⟩ := h5
      show Leaves P fn a'.tmps _ a'.defers (.panicking c) w'
      rw [hdef g1]
      exact ⟨E', st', h1, h2.mono (fun b _ => hup b), g2⟩
     | exit i => exact h5.elim
     | goto i => exact h5.elim
   ·cases hc
  ·cases hc
 ·cases hc
theorem CallV.wk {f : Nat} {args args' : List V} {K : V → St → Prop} {Kp : List PanicEntry → St → Prop} (h : CallV P T M f args' st K Kp) (hl : args'.length = args.length) (hw : ∀ (i : Nat) (x y : V), args[i]? = some x → args'[i]? = some y → Wk x y) : CallV P T M f args st K Kp := by
 refine ⟨h.1, fun B w0 E w us hR hT hu => h.2 B w0 E w us hR hT ⟨by rw [hl]; exact hu.1, fun i y u hy hu' => ?_⟩⟩
 have hlt : i < args.length := by rw [← hl]; exact (List.getElem?_eq_some_iff.1 hy).1
 exact (hu.2 i _ u (List.getElem?_eq_getElem hlt) hu').wk (hw i _ y (List.getElem?_eq_getElem hlt) hy)
theorem CallV.give {f : Nat} {args : List V} {K : V → St → Prop} {Kp : List PanicEntry → St → Prop}
  (h : CallV P T M f args st (fun v st' => ∃ v', Frz st.length st' v v' ∧ LowSt st st' ∧ K v' (st'.take st.length)) (fun c st' => LowSt st st' ∧ Kp c (st'.take st.length))) : CallV P T M f args st K Kp := by
 refine ⟨h.1, fun B w0 E w us hR hT hu => (h.2 B w0 E w us hR hT hu).mono fun e w' he => ?_⟩
 cases e with
 | returned u =>
  obtain ⟨E', st', v, h1, h2, h3, v', h4, h5, h6⟩ := he
  obtain ⟨g1, g2⟩ := Rep.trunc hR h1 h2 h5
  exact ⟨_, _, v', g1, g2, Rel.frz h1 h2.len h4 h3, h6⟩
 | panicked c =>
  obtain ⟨E', st', h1, h2, h5, h6⟩ := he
  obtain ⟨g1, g2⟩ := Rep.trunc hR h1 h2 h5
  exact ⟨_, _, g1, g2, h6⟩
 | outgrown => exact he
theorem rep_start (w : World) : Rep w.heap.size w ⟨fun _ => 0, fun _ => 0, fun b => b < w.heap.size⟩ [] w :=
 ⟨Nat.le_refl _, Below.refl _ _, fun _ h => h, fun b t k xs h => by simp at h, fun a b t k xs t' k' xs' h => by simp at h, fun b es h => by simp at h, fun a b es es' h => by simp at h⟩
theorem law_of {f : Nat} {args : List V} {us : List Value} {w : World} (h : CallV P T M f args [] (fun v _ => v = .val (.bool true)) (fun _ _ => False)) (hT : TblOk T w.heap.size w ⟨fun _ => 0, fun _ => 0, fun b => b < w.heap.size⟩ w)
  (hu : Pw ⟨fun _ => 0, fun _ => 0, fun b => b < w.heap.size⟩ [] w args us) : Calls P f us.toArray w fun e w' => e = .returned (.bool true) ∧ Below w.heap.size w w' :=
 (h.2 _ _ _ w us (rep_start w) hT hu).mono fun e w' he => by
  cases e with
  | returned u => obtain ⟨E', st', v, h1, h2, h3, rfl⟩ := he; exact ⟨by rw [h3.lit], h1.below⟩
  | panicked c => obtain ⟨E', st', h1, h2, h3⟩ := he; exact h3.elim
  | outgrown => exact he.elim
end
end Go.Proofs.YtkcdgaijklhnaaaGreatDoor.Vm
namespace Go.Proofs.YtkcdgaijklhnaaaGreatDoor.Vm
open Go.RowKit
universe u
theorem nr {α : Sort u} {a b : α} (h : a = b) : a = b := h
abbrev I (n : Int) : V := .val (.int .i64 n)
abbrev Bo (b : Bool) : V := .val (.bool b)
def nat (v : V) : Nat := match v with
 | .val (.int _ n) => n.toNat
 | _ => 0
@[simp] theorem nat_I (k : IntKind) (n : Int) : nat (.val (.int k n)) = n.toNat := nr rfl
def obind {α : Type} (o : Option α) (k : α → Prop) : Prop := ∃ a, o = some a ∧ k a
def obind2 {α β : Type} (o : Option (α × β)) (k : α → β → Prop) : Prop := ∃ a b, o = some (a, b) ∧ k a b
def condV (v : V) (y n : Prop) : Prop := ∃ t : Bool, v = .val (.bool t) ∧ (t = true → y) ∧ (t = false → n)
def gv (v : V) (b : Bool) (y n : Prop) : Prop := match v with
 | .val (.bool t) => (t = b → y) ∧ (t ≠ b → n)
 | .val (.tuple _) => n
 | _ => False
section
variable {α β : Type}
@[congr] theorem obind_congr {o o' : Option α} {k : α → Prop} (h : o = o') : obind o k = obind o' k := by rw [h]
@[congr] theorem obind2_congr {o o' : Option (α × β)} {k : α → β → Prop} (h : o = o') : obind2 o k = obind2 o' k := by rw [h]
@[congr] theorem condV_congr {v v' : V} {y n : Prop} (h : v = v') : condV v y n = condV v' y n := by rw [h]
@[congr] theorem gv_congr {v v' : V} {b : Bool} {y n : Prop} (h : v = v') : gv v b y n = gv v' b y n := by rw [h]
@[simp] theorem ob_some (a : α) (k : α → Prop) : obind (some a) k = k a := by simp [obind]
@[simp] theorem ob_none (k : α → Prop) : obind none k = False := by simp [obind]
@[simp] theorem ob2_some (a : α) (b : β) (k : α → β → Prop) : obind2 (some (a, b)) k = k a b := propext ⟨fun ⟨_, _, e, h⟩ => by cases e; exact h, fun h => ⟨a, b, rfl, h⟩⟩
@[simp] theorem ob_bind (o : Option β) (f : β → Option α) (k : α → Prop) : obind (o.bind f) k = obind o fun b => obind (f b) k := by cases o <;> simp
@[simp] theorem ob_ite {c : Prop} [Decidable c] (o : Option α) (k : α → Prop) : obind (if c then o else none) k = (c ∧ obind o k) := by by_cases h : c <;> simp [h]
@[simp] theorem ob2_ite {c : Prop} [Decidable c] (o : Option (α × β)) (k : α → β → Prop) : obind2 (if c then o else none) k = (c ∧ obind2 o k) := by by_cases h : c <;> simp [h, obind2]
@[simp] theorem ob2_bind (o : Option α) {γ : Type} (f : α → Option (β × γ)) (k : β → γ → Prop) : obind2 (o.bind f) k = obind o fun b => obind2 (f b) k := by cases o <;> simp [obind2, obind]
@[simp] theorem condV_t (y n : Prop) : condV (.val (.bool true)) y n = y := by simp [condV]
@[simp] theorem condV_f (y n : Prop) : condV (.val (.bool false)) y n = n := by simp [condV]
@[simp] theorem gv_tt (y n : Prop) : gv (.val (.bool true)) true y n = y := by simp [gv]
@[simp] theorem gv_tf (y n : Prop) : gv (.val (.bool true)) false y n = n := by simp [gv]
@[simp] theorem gv_ft (y n : Prop) : gv (.val (.bool false)) true y n = n := by simp [gv]
@[simp] theorem gv_ff (y n : Prop) : gv (.val (.bool false)) false y n = y := by simp [gv]
@[simp] theorem gv_u (b : Bool) (y n : Prop) : gv (.val undef) b y n = n := nr rfl
end
section
variable {P : Program} {T : Tbl} {M rd : Nat → Nat → Bool} {m m' : Nat → Bool} {fr : Fr} {st st0 : St} {Q : Post}
@[congr] theorem CallV_congr {f : Nat} {args args' : List V} {s s' : St} {K : V → St → Prop} {Kp : List PanicEntry → St → Prop} (h : args = args') (h2 : s = s') (h3 : m = m') : CallV P T m f args s K Kp = CallV P T m' f args' s' K Kp := by rw [h, h2, h3]
@[simp ↓] theorem callM_lift (m : Nat → Bool) : callM (liftM m) = m := funext fun b => by simp [callM, liftM]
@[simp ↓] theorem put_none (v : V) : fr.put none v = fr := nr rfl
@[simp ↓] theorem put_g (d : Nat) (v : V) (t : Nat) : (fr.put (some d) v).g t = if t = d then v else fr.g t := nr rfl
@[simp ↓] theorem put_df (d : Option Nat) (v : V) : (fr.put d v).df = fr.df := by cases d <;> rfl
@[simp ↓] theorem mask_g (D : List Nat) (t : Nat) : (fr.mask D).g t = if t ∈ D then .any else fr.g t := nr rfl
@[simp ↓] theorem fr0_g (args : List V) (t : Nat) : (fr0 args).g t = (args[t]?).getD (.val undef) := nr rfl
@[simp ↓] theorem fr0_df (args : List V) : (fr0 args).df = [] := nr rfl
@[simp ↓] theorem maskd_df (D : List Nat) : (maskd D fr).df = fr.df := nr rfl
@[simp ↓] theorem maskd_g (D : List Nat) (t : Nat) : (maskd D fr).g t = if t ∈ D then .any else fr.g t := nr rfl
@[simp ↓] theorem gdW_none (yes no : Prop) : gdW fr none yes no = yes := nr rfl
@[simp ↓] theorem gdW_some (s : Nat) (b : Bool) (yes no : Prop) : gdW fr (some (s, b)) yes no = gv (fr.g s) b yes no := nr rfl
@[simp] theorem addD_none (D : List Nat) : addD none D = D := nr rfl
@[simp] theorem addD_some (d : Nat) (D : List Nat) : addD (some d) D = d :: D := nr rfl
@[simp ↓] theorem steps_nil (K : Fr → St → Prop) (D : List Nat) : stepsV P T M rd st0 Q K [] D fr st = K fr st := nr rfl
@[simp ↓] theorem steps_q (K : Fr → St → Prop) (i : Nat) (d : Option Nat) (gd : Option (Nat × Bool)) (op : MOp) (l : List MO) (D : List Nat) : stepsV P T M rd st0 Q K (⟨i, true, d, gd, op⟩ :: l) D fr st =
  gdW fr gd (obind (mStill T rd op (fr.mask D) st0) fun v => stepsV P T M rd st0 Q K l D (fr.put d v) st) (stepsV P T M rd st0 Q K l D (fr.put d (.val undef)) st) := nr rfl
@[simp ↓] theorem steps_f (K : Fr → St → Prop) (i : Nat) (d : Option Nat) (gd : Option (Nat × Bool)) (op : MOp) (l : List MO) (D : List Nat) : stepsV P T M rd st0 Q K (⟨i, false, d, gd, op⟩ :: l) D fr st =
  gdW fr gd (opW P T M op fr st (fun v fr' st' => stepsV P T M rd st0 Q K l (addD d D) (fr'.put d v) st') (fun c st' => Q (.panic c) fr st')) (stepsV P T M rd st0 Q K l (addD d D) (fr.put d (.val undef)) st) := nr rfl
@[simp ↓] theorem seq_nil (K : Fr → St → Prop) : seqV P T M Q K [] fr st = K fr st := nr rfl
@[simp ↓] theorem seq_cons (K : Fr → St → Prop) (i : Nat) (q : Bool) (d : Option Nat) (gd : Option (Nat × Bool)) (op : MOp) (l : List MO) : seqV P T M Q K (⟨i, q, d, gd, op⟩ :: l) fr st =
  gdW fr gd (opW P T M op fr st (fun v fr' st' => seqV P T M Q K l (fr'.put d v) st') (fun c st' => Q (.panic c) fr st')) (seqV P T M Q K l (fr.put d (.val undef)) st) := nr rfl
def isStill : MOp → Bool
 | .mv _ | .nilck _ | .pick .. | .bin .. | .beq .. | .un .. | .conv .. | .same _ | .load .. | .fadr .. | .iadr .. | .aadr .. | .fld .. | .aidx .. | .sidx .. | .ext .. | .mkfn .. | .mkmet .. | .mkif .. | .tas .. | .inil .. | .bld .. | .sl .. | .ssl .. | .len _ | .cap _ | .slen _ | .mm .. => true
 | _ => false
theorem op_still {m : MOp} (h : isStill m = true) (K : V → Fr → St → Prop) (Kp : List PanicEntry → St → Prop) : opW P T M m fr st K Kp = obind (mStill T (fun _ _ => true) m fr st) fun v => K v fr st := by
 cases m <;> first | (cases h; done) | (exact propext ⟨fun hh => hh.elim id (fun ⟨_, _, e, _⟩ => by cases e), Or.inl⟩)
def isEffO : MOp → Bool
 | .store .. | .alloc .. | .box .. | .bsl .. | .flit .. | .emp | .mkmap | .mlk .. | .mup .. | .mksl .. | .app .. | .apz .. => true
 | _ => false
theorem op_eff {m : MOp} (h : isEffO m = true) (h2 : ∀ f a, m ≠ .call f a) (h3 : ∀ f a, m ≠ .callv f a) (h4 : ∀ f, m ≠ .dfr f) (K : V → Fr → St → Prop) (Kp : List PanicEntry → St → Prop) : opW P T M m fr st K Kp = obind2 (mEff T M m fr st) fun v st' => K v fr st' := by
 cases m <;> first | (cases h; done) | (exact absurd rfl (h2 _ _)) | (exact absurd rfl (h3 _ _)) | (exact absurd rfl (h4 _)) | (exact propext ⟨fun hh => hh.elim (fun ⟨_, e, _⟩ => by cases e) id, Or.inr⟩)
section
variable (K : V → Fr → St → Prop) (Kp : List PanicEntry → St → Prop)
@[simp ↓] theorem op_call (f : Nat) (args : List Od) : opW P T M (.call f args) fr st K Kp = obind (evs T fr args) fun vs => CallV P T (callM M) f vs st (fun v st' => K v fr st') Kp := nr rfl
@[simp ↓] theorem op_callv (f : Od) (args : List Od) : opW P T M (.callv f args) fr st K Kp = ((∃ g caps vs, f.ev T fr = some (.fn g caps) ∧ evs T fr args = some vs ∧ CallV P T (callM M) g (vs ++ caps) st (fun v st' => K v fr st') Kp) ∨ (∃ g first vs, f.ev T fr = some (.met g first) ∧ evs T fr args = some vs ∧ CallV P T (callM M) g (first ++ vs) st (fun v st' => K v fr st') Kp)) := nr rfl
@[simp ↓] theorem op_dfr (f : Od) : opW P T M (.dfr f) fr st K Kp = ∃ g caps, f.ev T fr = some (.fn g caps) ∧ K (.val undef) { fr with df := (g, caps) :: fr.df } st := nr rfl
@[simp ↓] theorem op_pan (x : Od) : opW P T M (.pan x) fr st K Kp = obind (x.ev T fr) fun v => panK v fun c => Kp c st := nr rfl
@[simp] theorem panK_val (t : Nat) (u : Value) (k : List PanicEntry → Prop) : panK (.val (.iface t u)) k = k [{ v := .iface t u, recovered := false }] := nr rfl
@[congr] theorem panK_congr {v v' : V} {k : List PanicEntry → Prop} (h : v = v') : panK v k = panK v' k := by rw [h]
@[simp ↓] theorem op_mkmet (f : Nat) (l : List Od) : opW P T M (.mkmet f l) fr st K Kp = obind (mStill T (fun _ _ => true) (.mkmet f l) fr st) fun v => K v fr st := op_still rfl K Kp
@[simp ↓] theorem op_mkif (t : Nat) (x : Od) : opW P T M (.mkif t x) fr st K Kp = obind (mStill T (fun _ _ => true) (.mkif t x) fr st) fun v => K v fr st := op_still rfl K Kp
@[simp ↓] theorem op_tas (t : Nat) (x : Od) : opW P T M (.tas t x) fr st K Kp = obind (mStill T (fun _ _ => true) (.tas t x) fr st) fun v => K v fr st := op_still rfl K Kp
@[simp ↓] theorem op_inil (n : Bool) (x : Od) : opW P T M (.inil n x) fr st K Kp = obind (mStill T (fun _ _ => true) (.inil n x) fr st) fun v => K v fr st := op_still rfl K Kp
@[simp ↓] theorem op_bad : opW P T M .bad fr st K Kp = False := propext ⟨fun h => (by rcases h with ⟨v, h1, -⟩ | ⟨v, st', h1, -⟩ <;> cases h1), False.elim⟩
@[simp ↓] theorem op_mv (x : Od) : opW P T M (.mv x) fr st K Kp = obind (mStill T (fun _ _ => true) (.mv x) fr st) fun v => K v fr st := op_still rfl K Kp
@[simp ↓] theorem op_nilck (x : Od) : opW P T M (.nilck x) fr st K Kp = obind (mStill T (fun _ _ => true) (.nilck x) fr st) fun v => K v fr st := op_still rfl K Kp
@[simp ↓] theorem op_pick (c a b : Od) : opW P T M (.pick c a b) fr st K Kp = obind (mStill T (fun _ _ => true) (.pick c a b) fr st) fun v => K v fr st := op_still rfl K Kp
@[simp ↓] theorem op_bin (o : BinOp) (x y : Od) : opW P T M (.bin o x y) fr st K Kp = obind (mStill T (fun _ _ => true) (.bin o x y) fr st) fun v => K v fr st := op_still rfl K Kp
@[simp ↓] theorem op_beq (o : Bool) (x y : Od) : opW P T M (.beq o x y) fr st K Kp = obind (mStill T (fun _ _ => true) (.beq o x y) fr st) fun v => K v fr st := op_still rfl K Kp
@[simp ↓] theorem op_snil (o : Bool) (x : Od) : opW P T M (.snil o x) fr st K Kp = obind (x.ev T fr) fun v => if nnil st v = true then K (.val (.bool o)) fr st else (isSl v = true ∧ ∀ b, K (.val (.bool b)) fr st) := by
  refine propext ⟨fun h => ?_, fun h => ?_⟩
  · rcases h with h | ⟨v, h1, h2, h3⟩
    · rcases h with ⟨v, h1, h2⟩ | ⟨v, st', h1, -⟩
      · obtain ⟨y, g1, g2⟩ := bind_some h1
        refine ⟨y, g1, ?_⟩
        split at g2
        · rename_i hn
          cases g2
          rw [if_pos hn]
          exact h2
        · cases g2
      · cases h1
    · refine ⟨v, h1, ?_⟩
      show if nnil st v = true then _ else _
      split
      · exact h3 o
      · exact ⟨h2, h3⟩
  · obtain ⟨v, h1, h2⟩ := h
    split at h2
    · rename_i hn
      exact Or.inl (Or.inl ⟨_, by simp [mStill, h1, hn], h2⟩)
    · exact Or.inr ⟨v, h1, h2⟩
@[simp ↓] theorem op_un (o : UnOp) (x : Od) : opW P T M (.un o x) fr st K Kp = obind (mStill T (fun _ _ => true) (.un o x) fr st) fun v => K v fr st := op_still rfl K Kp
@[simp ↓] theorem op_conv (o : IntKind) (x : Od) : opW P T M (.conv o x) fr st K Kp = obind (mStill T (fun _ _ => true) (.conv o x) fr st) fun v => K v fr st := op_still rfl K Kp
@[simp ↓] theorem op_same (x : Od) : opW P T M (.same x) fr st K Kp = obind (mStill T (fun _ _ => true) (.same x) fr st) fun v => K v fr st := op_still rfl K Kp
@[simp ↓] theorem op_load (r : Bool) (n : Nat) (x : Od) : opW P T M (.load r n x) fr st K Kp = obind (mStill T (fun _ _ => true) (.load r n x) fr st) fun v => K v fr st := op_still rfl K Kp
@[simp ↓] theorem op_fadr (n : Nat) (x : Od) : opW P T M (.fadr n x) fr st K Kp = obind (mStill T (fun _ _ => true) (.fadr n x) fr st) fun v => K v fr st := op_still rfl K Kp
@[simp ↓] theorem op_iadr (n : Nat) (x y : Od) : opW P T M (.iadr n x y) fr st K Kp = obind (mStill T (fun _ _ => true) (.iadr n x y) fr st) fun v => K v fr st := op_still rfl K Kp
@[simp ↓] theorem op_aadr (n m : Nat) (x y : Od) : opW P T M (.aadr n m x y) fr st K Kp = obind (mStill T (fun _ _ => true) (.aadr n m x y) fr st) fun v => K v fr st := op_still rfl K Kp
@[simp ↓] theorem op_fld (r : Bool) (n m : Nat) (x : Od) : opW P T M (.fld r n m x) fr st K Kp = obind (mStill T (fun _ _ => true) (.fld r n m x) fr st) fun v => K v fr st := op_still rfl K Kp
@[simp ↓] theorem op_aidx (r : Bool) (n m : Nat) (x y : Od) : opW P T M (.aidx r n m x y) fr st K Kp = obind (mStill T (fun _ _ => true) (.aidx r n m x y) fr st) fun v => K v fr st := op_still rfl K Kp
@[simp ↓] theorem op_sidx (x y : Od) : opW P T M (.sidx x y) fr st K Kp = obind (mStill T (fun _ _ => true) (.sidx x y) fr st) fun v => K v fr st := op_still rfl K Kp
@[simp ↓] theorem op_ext (x : Od) (i : Nat) : opW P T M (.ext x i) fr st K Kp = obind (mStill T (fun _ _ => true) (.ext x i) fr st) fun v => K v fr st := op_still rfl K Kp
@[simp ↓] theorem op_mkfn (f : Nat) (l : List Od) : opW P T M (.mkfn f l) fr st K Kp = obind (mStill T (fun _ _ => true) (.mkfn f l) fr st) fun v => K v fr st := op_still rfl K Kp
@[simp ↓] theorem op_bld (z : List V) (l : List (Nat × Nat × Od)) : opW P T M (.bld z l) fr st K Kp = obind (mStill T (fun _ _ => true) (.bld z l) fr st) fun v => K v fr st := op_still rfl K Kp
@[simp ↓] theorem op_sl (k : Nat) (x : Od) (l h : Option Od) : opW P T M (.sl k x l h) fr st K Kp = obind (mStill T (fun _ _ => true) (.sl k x l h) fr st) fun v => K v fr st := op_still rfl K Kp
@[simp ↓] theorem op_slf (k : Nat) (x : Od) (l : Option Od) (h m : Od) : opW P T M (.slf k x l h m) fr st K Kp = (obind (mStill T (fun _ _ => true) (.slf k x l h m) fr st) (fun v => K v fr st) ∨ obind2 (mEff T M (.slf k x l h m) fr st) fun v st' => K v fr st') := nr rfl
@[simp ↓] theorem op_ssl (x : Od) (l h : Option Od) : opW P T M (.ssl x l h) fr st K Kp = obind (mStill T (fun _ _ => true) (.ssl x l h) fr st) fun v => K v fr st := op_still rfl K Kp
@[simp ↓] theorem op_cap (x : Od) : opW P T M (.cap x) fr st K Kp = obind (mStill T (fun _ _ => true) (.cap x) fr st) fun v => K v fr st := op_still rfl K Kp
@[simp ↓] theorem op_len (x : Od) : opW P T M (.len x) fr st K Kp = obind (mStill T (fun _ _ => true) (.len x) fr st) fun v => K v fr st := op_still rfl K Kp
@[simp ↓] theorem op_slen (x : Od) : opW P T M (.slen x) fr st K Kp = obind (mStill T (fun _ _ => true) (.slen x) fr st) fun v => K v fr st := op_still rfl K Kp
@[simp ↓] theorem op_mm (b : Bool) (l : List Od) : opW P T M (.mm b l) fr st K Kp = obind (mStill T (fun _ _ => true) (.mm b l) fr st) fun v => K v fr st := op_still rfl K Kp
@[simp ↓] theorem op_store (n : Nat) (x v : Od) : opW P T M (.store n x v) fr st K Kp = obind2 (mEff T M (.store n x v) fr st) fun v st' => K v fr st' := op_eff rfl (by simp) (by simp) (by simp) K Kp
@[simp ↓] theorem op_alloc (t : Nat) (z : V) : opW P T M (.alloc t z) fr st K Kp = obind2 (mEff T M (.alloc t z) fr st) fun v st' => K v fr st' := op_eff rfl (by simp) (by simp) (by simp) K Kp
@[simp ↓] theorem op_box (t : Nat) (x : Od) : opW P T M (.box t x) fr st K Kp = obind2 (mEff T M (.box t x) fr st) fun v st' => K v fr st' := op_eff rfl (by simp) (by simp) (by simp) K Kp
@[simp ↓] theorem op_flit (k : Nat) (v : V) : opW P T M (.flit k v) fr st K Kp = obind2 (mEff T M (.flit k v) fr st) fun v st' => K v fr st' := op_eff rfl (by simp) (by simp) (by simp) K Kp
@[simp ↓] theorem op_bsl (t k n : Nat) (z : V) (l : List (Nat × Od)) : opW P T M (.bsl t k n z l) fr st K Kp = obind2 (mEff T M (.bsl t k n z l) fr st) fun v st' => K v fr st' := op_eff rfl (by simp) (by simp) (by simp) K Kp
@[simp ↓] theorem op_emp  : opW P T M .emp fr st K Kp = obind2 (mEff T M .emp fr st) fun v st' => K v fr st' := op_eff rfl (by simp) (by simp) (by simp) K Kp
@[simp ↓] theorem op_mkmap : opW P T M .mkmap fr st K Kp = obind2 (mEff T M .mkmap fr st) fun v st' => K v fr st' := op_eff rfl (by simp) (by simp) (by simp) K Kp
@[simp ↓] theorem op_mlk (kd : TypeDesc) (z : V) (ok : Bool) (x i : Od) : opW P T M (.mlk kd z ok x i) fr st K Kp = obind2 (mEff T M (.mlk kd z ok x i) fr st) fun v st' => K v fr st' := op_eff rfl (by simp) (by simp) (by simp) K Kp
@[simp ↓] theorem op_mup (kd : TypeDesc) (x k v : Od) : opW P T M (.mup kd x k v) fr st K Kp = obind2 (mEff T M (.mup kd x k v) fr st) fun v st' => K v fr st' := op_eff rfl (by simp) (by simp) (by simp) K Kp
@[simp ↓] theorem op_mksl (t k b : Nat) (z : V) (x y : Od) : opW P T M (.mksl t k b z x y) fr st K Kp = obind2 (mEff T M (.mksl t k b z x y) fr st) fun v st' => K v fr st' := op_eff rfl (by simp) (by simp) (by simp) K Kp
@[simp ↓] theorem op_apz (t k b : Nat) (z : V) (x y : Od) : opW P T M (.apz t k b z x y) fr st K Kp = obind2 (mEff T M (.apz t k b z x y) fr st) fun v st' => K v fr st' := op_eff rfl (by simp) (by simp) (by simp) K Kp
@[simp ↓] theorem op_app (t k b : Nat) (x y : Od) : opW P T M (.app t k b x y) fr st K Kp = obind2 (mEff T M (.app t k b x y) fr st) fun v st' => K v fr st' := op_eff rfl (by simp) (by simp) (by simp) K Kp
end
section
variable (k : V → Prop)
@[simp ↓] theorem ob_t (n : Nat) : obind ((Od.t n).ev T fr) k = obind (some (fr.g n)) k := nr rfl
@[simp ↓] theorem ob_c (v : V) : obind ((Od.c v).ev T fr) k = k v := by simp [Od.ev]
@[simp ↓] theorem ob_mv (x : Od) : obind (mStill T rd (.mv x) fr st) k = obind (x.ev T fr) k := nr rfl
@[simp ↓] theorem ob_nilck (x : Od) : obind (mStill T rd (.nilck x) fr st) k = obind (x.ev T fr) fun v => (live st v = true ∧ k v) := by simp [mStill]
@[simp ↓] theorem ob_pick (c a b : Od) : obind (mStill T rd (.pick c a b) fr st) k = obind (c.ev T fr) fun c => obind (a.ev T fr) fun a => obind (b.ev T fr) fun b => obind (boolOf c) fun t => k (if t = true then a else b) := by simp [mStill]
@[simp ↓] theorem ob_bin (o : BinOp) (x y : Od) : obind (mStill T rd (.bin o x y) fr st) k = obind (x.ev T fr) fun x => obind (y.ev T fr) fun y => obind (binV o x y) k := by simp [mStill]
@[simp ↓] theorem ob_snil (o : Bool) (x : Od) : obind (mStill T rd (.snil o x) fr st) k = obind (x.ev T fr) fun x => (nnil st x = true ∧ k (Bo o)) := by simp [mStill]
@[simp ↓] theorem ob_beq (o : Bool) (x y : Od) : obind (mStill T rd (.beq o x y) fr st) k = obind (x.ev T fr) fun x => obind (y.ev T fr) fun y => obind (boolOf x) fun x => obind (boolOf y) fun y => k (Bo (o ^^ (x == y))) := by simp [mStill]
@[simp ↓] theorem ob_un (o : UnOp) (x : Od) : obind (mStill T rd (.un o x) fr st) k = obind (x.ev T fr) fun x => obind (unV o x) k := by simp [mStill]
@[simp ↓] theorem ob_conv (o : IntKind) (x : Od) : obind (mStill T rd (.conv o x) fr st) k = obind (x.ev T fr) fun x => obind (intOf x) fun n => obind (some (V.val (.int o (o.wrap n.2)))) k := by simp [mStill]
@[simp ↓] theorem ob_same (x : Od) : obind (mStill T rd (.same x) fr st) k = obind (x.ev T fr) fun x => obind (strOf x) fun s => k (.val (.string s)) := by simp [mStill]
@[simp ↓] theorem ob_load (r : Bool) (n : Nat) (x : Od) : obind (mStill T rd (.load r n x) fr st) k = obind (x.ev T fr) fun x => obind (mLoad rd r n st x) k := by simp [mStill]
@[simp ↓] theorem ob_fadr (n : Nat) (x : Od) : obind (mStill T rd (.fadr n x) fr st) k = obind (x.ev T fr) fun x => (live st x = true ∧ obind (shift n x) k) := by simp [mStill]
@[simp ↓] theorem ob_iadr (n : Nat) (x y : Od) : obind (mStill T rd (.iadr n x y) fr st) k = obind (x.ev T fr) fun x => obind (y.ev T fr) fun i => obind (intOf i) fun q => obind (elemAt n st q.2 x) k := by simp [mStill]
@[simp ↓] theorem ob_aadr (n m : Nat) (x y : Od) : obind (mStill T rd (.aadr n m x y) fr st) k = obind (x.ev T fr) fun x => obind (y.ev T fr) fun i => obind (intOf i) fun q => ((0 ≤ q.2 ∧ q.2 < n ∧ live st x = true) ∧ obind (shift (q.2.toNat * m) x) k) := by simp [mStill]
def fldV (r : Bool) (n m : Nat) : V → Option V
 | .agg l => part r m (.agg l) n
 | _ => none
@[simp] theorem fldV_agg (r : Bool) (n m : Nat) (l : List V) : fldV r n m (.agg l) = part r m (.agg l) n := nr rfl
@[simp ↓] theorem ob_fld (r : Bool) (n m : Nat) (x : Od) : obind (mStill T rd (.fld r n m x) fr st) k = obind (x.ev T fr) fun x => obind (fldV r n m x) k := by simp [mStill]; rfl
def extV (i : Nat) : V → Option V
 | .tup l => l[i]?
 | _ => none
@[simp] theorem extV_tup (i : Nat) (l : List V) : extV i (.tup l) = l[i]? := nr rfl
@[simp ↓] theorem ob_ext (x : Od) (i : Nat) : obind (mStill T rd (.ext x i) fr st) k = obind (x.ev T fr) fun x => obind (extV i x) k := by simp [mStill]; rfl
@[simp ↓] theorem ob_mkmet (f : Nat) (l : List Od) : obind (mStill T rd (.mkmet f l) fr st) k = obind (evs T fr l) fun l => k (.met f l) := by simp [mStill]
def ifV (t : Nat) : V → Option V
 | .val u => some (.val (.iface t u))
 | .agg [] => some (.val (.iface t (.agg #[])))
 | _ => none
@[simp] theorem ifV_unit (t : Nat) : ifV t (.agg []) = some (.val (.iface t (.agg #[]))) := nr rfl
@[simp] theorem ifV_val (t : Nat) (u : Value) : ifV t (.val u) = some (.val (.iface t u)) := nr rfl
@[simp ↓] theorem ob_mkif (t : Nat) (x : Od) : obind (mStill T rd (.mkif t x) fr st) k = obind (x.ev T fr) fun x => obind (ifV t x) k := by simp [mStill]; rfl
def tasV (t : Nat) : V → Option V
 | .val (.iface t' u) => if t' = t then some (.tup [.val u, .val (.bool true)]) else none
 | _ => none
@[simp] theorem tasV_val (t : Nat) (u : Value) : tasV t (.val (.iface t u)) = some (.tup [.val u, Bo true]) := by simp [tasV]
@[simp ↓] theorem ob_tas (t : Nat) (x : Od) : obind (mStill T rd (.tas t x) fr st) k = obind (x.ev T fr) fun x => obind (tasV t x) k := by simp [mStill]; rfl
def inilV (n : Bool) : V → Option V
 | .val .nilIface => some (.val (.bool (!n)))
 | .val (.iface _ _) => some (.val (.bool n))
 | _ => none
@[simp] theorem inilV_nil (n : Bool) : inilV n (.val .nilIface) = some (Bo (!n)) := nr rfl
@[simp] theorem inilV_if (n : Bool) (t : Nat) (u : Value) : inilV n (.val (.iface t u)) = some (Bo n) := nr rfl
@[simp ↓] theorem ob_inil (n : Bool) (x : Od) : obind (mStill T rd (.inil n x) fr st) k = obind (x.ev T fr) fun x => obind (inilV n x) k := by simp [mStill]; rfl
@[simp ↓] theorem ob_mkfn (f : Nat) (l : List Od) : obind (mStill T rd (.mkfn f l) fr st) k = obind (evs T fr l) fun l => k (.fn f l) := by simp [mStill]
@[simp ↓] theorem ob_bld (z : List V) (l : List (Nat × Nat × Od)) : obind (mStill T rd (.bld z l) fr st) k = obind (evp T fr l) fun l => obind (fillV z l) fun r => k (.agg r) := by simp [mStill]
@[simp ↓] theorem ob_sl (n : Nat) (x : Od) (l h : Option Od) : obind (mStill T rd (.sl n x l h) fr st) k = obind (x.ev T fr) fun x => obind (evo T fr 0 l) fun l => obind (lenN x) fun m => obind (evo T fr m h) fun h => obind (winV n st l h x) k := by simp [mStill]
@[simp ↓] theorem ob_cap (x : Od) : obind (mStill T rd (.cap x) fr st) k = obind (x.ev T fr) fun x => obind (capV x) k := by simp [mStill]
@[simp ↓] theorem ob_len (x : Od) : obind (mStill T rd (.len x) fr st) k = obind (x.ev T fr) fun x => obind (lenV st x) k := by simp [mStill]
@[simp ↓] theorem ob_slen (x : Od) : obind (mStill T rd (.slen x) fr st) k = obind (x.ev T fr) fun x => obind (strOf x) fun s => k (I (s.size : Int)) := by simp [mStill]
@[simp ↓] theorem ob_mm (b : Bool) (x y : Od) : obind (mStill T rd (.mm b [x, y]) fr st) k = obind (x.ev T fr) fun x => obind (y.ev T fr) fun y => obind (intOf x) fun p => obind (intOf y) fun q => (p.1 = q.1 ∧ obind (some (V.val (.int p.1 (cond b (max p.2 q.2) (min p.2 q.2))))) k) := by
  simp only [mStill, evs]
  cases x.ev T fr <;> cases y.ev T fr <;> simp
end
section
variable (k : V → St → Prop)
@[simp ↓] theorem ob_store (n : Nat) (x v : Od) : obind2 (mEff T M (.store n x v) fr st) k = obind (x.ev T fr) fun p => obind (v.ev T fr) fun u => obind (mStore M n st p u) fun st' => k (.val undef) st' := by simp [mEff]
@[simp ↓] theorem ob_alloc (t : Nat) (z : V) : obind2 (mEff T M (.alloc t z) fr st) k = obind2 (some (V.ptr st.length 1 0 0, st ++ [.row t z.cells.length [z]])) k := by simp [mEff]
@[simp ↓] theorem ob_box (t : Nat) (x : Od) : obind2 (mEff T M (.box t x) fr st) k = obind (x.ev T fr) fun v => ((allLeaf v = true ∧ 0 < v.cells.length) ∧ obind2 (some (V.ptr st.length 1 0 0, st ++ [.row t v.cells.length [v]])) k) := by simp [mEff]
def bslOk (n c : Nat) : List (Nat × V) → Prop
 | [] => True
 | q :: l => (q.1 < n ∧ q.2.cells.length = c ∧ allLeaf q.2 = true) ∧ bslOk n c l
theorem bslOk_iff (n c : Nat) : ∀ l : List (Nat × V), bslOk n c l ↔ ∀ q ∈ l, q.1 < n ∧ q.2.cells.length = c ∧ allLeaf q.2 = true
 | [] => by simp [bslOk]
 | q :: l => by simp only [bslOk, bslOk_iff n c l, List.forall_mem_cons]
attribute [simp] bslOk
def plL : List V → Bool
 | [] => true
 | x :: l => x.pl && plL l
theorem plL_eq : ∀ l : List V, l.all V.pl = plL l
 | [] => rfl
 | x :: l => by rw [List.all_cons, plL_eq l]; rfl
attribute [simp] plL
@[simp] theorem pl_val (v : Value) : (V.val v).pl = true := nr rfl
@[simp ↓] theorem ob_flit (n : Nat) (v : V) : obind2 (mEff T M (.flit n v) fr st) k = ((v.cells.length = n ∧ allLeaf v = true ∧ plL v.cells = true) ∧ obind2 (some (V.lst false [v], st)) k) := by simp only [mEff, ob2_ite, plL_eq]
@[simp ↓] theorem ob_bsl (t c n : Nat) (z : V) (l : List (Nat × Od)) : obind2 (mEff T M (.bsl t c n z l) fr st) k = obind (evq T fr l) fun l => (bslOk n c l ∧ obind2 (some (V.own st.length n 0 n, st ++ [.row t c (setAll (List.replicate n z) l)])) k) := by
  simp only [mEff, ob2_bind, ob2_ite, bslOk_iff]
def apzV (st : St) (t k b : Nat) (z : V) (n : Int) : V → Option (V × St)
 | .lst true [] => if 0 < n ∧ n * b ≤ 140737488355328 ∧ n ≤ 9223372036854775807 then some (.own st.length n.toNat 0 n.toNat, st ++ [.row t k (List.replicate n.toNat z)]) else none
 | _ => none
@[simp] theorem apzV_nil (t c b : Nat) (z : V) (n : Int) : apzV st t c b z n (.lst true []) = if 0 < n ∧ n * b ≤ 140737488355328 ∧ n ≤ 9223372036854775807 then some (.own st.length n.toNat 0 n.toNat, st ++ [.row t c (List.replicate n.toNat z)]) else none := nr rfl
@[simp ↓] theorem ob_apz (t c b : Nat) (z : V) (x y : Od) : obind2 (mEff T M (.apz t c b z x y) fr st) k = obind (x.ev T fr) fun s => obind (y.ev T fr) fun x => obind (intOf x) fun n => obind2 (apzV st t c b z n.2 s) k := by simp [mEff]; rfl
@[simp ↓] theorem ob_mkmap : obind2 (mEff T M .mkmap fr st) k = k (.mp st.length) (st ++ [.map []]) := by simp [mEff]
@[simp ↓] theorem ob_mlk (kd : TypeDesc) (z : V) (ok : Bool) (x y : Od) : obind2 (mEff T M (.mlk kd z ok x y) fr st) k = obind (x.ev T fr) fun x => obind (y.ev T fr) fun y => obind (lkV kd z ok st x y) fun r => k r st := by simp [mEff]
@[simp ↓] theorem ob_mup (kd : TypeDesc) (x y v : Od) : obind2 (mEff T M (.mup kd x y v) fr st) k = obind (x.ev T fr) fun x => obind (y.ev T fr) fun y => obind (v.ev T fr) fun v => obind (upV kd st x y v) fun s => k (.val undef) s := by simp [mEff]
@[simp ↓] theorem ob_emp : obind2 (mEff T M .emp fr st) k = k (.lst true []) st := by simp [mEff]
@[simp ↓] theorem ob_mksl (t c b : Nat) (z : V) (x y : Od) : obind2 (mEff T M (.mksl t c b z x y) fr st) k = obind (x.ev T fr) fun x => obind (y.ev T fr) fun y => obind (intOf x) fun n => obind (intOf y) fun q => ((0 ≤ n.2 ∧ n.2 ≤ q.2 ∧ (b : Int) * q.2 ≤ 281474976710656 ∧ q.2 ≤ 9223372036854775807) ∧ obind2 (some (V.own st.length n.2.toNat 0 n.2.toNat, st ++ [.row t c (List.replicate n.2.toNat z)])) k) := by simp [mEff]
@[simp ↓] theorem ob_app (t c b : Nat) (s x : Od) : obind2 (mEff T M (.app t c b s x) fr st) k = obind (s.ev T fr) fun s => obind (x.ev T fr) fun x => obind2 (mApp M t c b st s x) k := by simp [mEff]
end
@[simp ↓] theorem wp_mskip : wpM P T M .skip Q fr st = Q .normal fr st := nr rfl
@[simp ↓] theorem wp_mlst (ms : List MO) : wpM P T M (.lst ms) Q fr st = seqV P T M Q (Q .normal) ms fr st := nr rfl
@[simp ↓] theorem wp_mseq (a b : MC) : wpM P T M (.seq a b) Q fr st = wpM P T M a (Post.seq (wpM P T M b Q) Q) fr st := nr rfl
@[simp ↓] theorem wp_mblock (i : Nat) (b : MC) : wpM P T M (.block i b) Q fr st = wpM P T M b (Post.block i Q) fr st := nr rfl
@[simp ↓] theorem wp_mscope (b : MC) : wpM P T M (.scope b) Q fr st = wpM P T M b (Post.scope Q) fr st := nr rfl
@[simp ↓] theorem wp_mexit (i : Nat) : wpM P T M (.exit i) Q fr st = Q (.exit i) fr st := nr rfl
@[simp ↓] theorem wp_mret : wpM P T M .ret Q fr st = Q .ret fr st := nr rfl
@[simp ↓] theorem wp_mcond (c : Od) (a b : MC) : wpM P T M (.cond c a b) Q fr st = obind (c.ev T fr) fun v => condV v (wpM P T M a Q fr st) (wpM P T M b Q fr st) := by
  refine propext ⟨fun ⟨t, h1, h2⟩ => ⟨_, h1, t, rfl, h2⟩, fun ⟨v, h1, t, h2, h3⟩ => ⟨t, by rw [h1, h2], h3⟩⟩
def MC.l : MC → MC
 | .seq a _ => a
 | c => c
def MC.r : MC → MC
 | .seq _ b => b
 | c => c
def MC.bb : MC → MC
 | .block _ b => b
 | .loop b => b
 | c => c
theorem wp_mflat (W : List Nat) (X : List (Nat × Nat)) {ms : List MO} (h : stepsV P T (inW st.length W X M) (rdW W X) st (pq ms Q) (Q .normal) ms [] fr st) : wpM P T M (.flat ms) Q fr st := ⟨W, X, h⟩
theorem wp_mtail (W : List Nat) (X : List (Nat × Nat)) {ms tl : List MO} (h : stepsV P T (inW st.length W X M) (rdW W X) st (pq ms Q) (fun fr st => seqV P T M (pq ms Q) (Q .normal) tl fr st) ms [] fr st) : wpM P T M (.tail ms tl) Q fr st := ⟨W, X, h⟩
theorem wp_mloop {b : MC} (I : Fr → St → Prop) (μ : Fr → St → Nat) (h0 : I fr st) (h : ∀ fr st, I fr st → wpM P T M b (Post.seq (fun fr' st' => I fr' st' ∧ μ fr' st' < μ fr st) Q) fr st) : wpM P T M (.loop b) Q fr st := ⟨I, μ, h0, h⟩
@[simp ↓] theorem pseq_n (k : Fr → St → Prop) : Post.seq k Q .normal fr st = k fr st := nr rfl
@[simp ↓] theorem pseq_x (k : Fr → St → Prop) (i : Nat) : Post.seq k Q (.exit i) fr st = Q (.exit i) fr st := nr rfl
@[simp ↓] theorem pseq_r (k : Fr → St → Prop) : Post.seq k Q .ret fr st = Q .ret fr st := nr rfl
@[simp ↓] theorem pseq_p (k : Fr → St → Prop) (c : List PanicEntry) : Post.seq k Q (.panic c) fr st = Q (.panic c) fr st := nr rfl
@[simp ↓] theorem pblk_n (i : Nat) : Post.block i Q .normal fr st = Q .normal fr st := nr rfl
@[simp ↓] theorem pblk_x (i j : Nat) : Post.block i Q (.exit j) fr st = if j = i then Q .normal fr st else Q (.exit j) fr st := nr rfl
@[simp ↓] theorem pblk_r (i : Nat) : Post.block i Q .ret fr st = Q .ret fr st := nr rfl
@[simp ↓] theorem pblk_p (i : Nat) (c : List PanicEntry) : Post.block i Q (.panic c) fr st = Q (.panic c) fr st := nr rfl
@[simp ↓] theorem pscp_n : Post.scope Q .normal fr st = Q .normal fr st := nr rfl
@[simp ↓] theorem pscp_x (j : Nat) : Post.scope Q (.exit j) fr st = Q (.exit j) fr st := nr rfl
@[simp ↓] theorem pscp_r : Post.scope Q .ret fr st = Q .ret fr st := nr rfl
@[simp ↓] theorem pscp_p (c : List PanicEntry) : Post.scope Q (.panic c) fr st = Q (.panic c) fr st := nr rfl
@[simp ↓] theorem fin_n (res : List RV) (K : V → St → Prop) (Kp : List PanicEntry → St → Prop) : Fin res K Kp .normal fr st = (fr.df = [] ∧ obind (resVs fr st res) fun vs => K (tupV vs) st) := nr rfl
@[simp ↓] theorem fin_r (res : List RV) (K : V → St → Prop) (Kp : List PanicEntry → St → Prop) : Fin res K Kp .ret fr st = (fr.df = [] ∧ obind (resVs fr st res) fun vs => K (tupV vs) st) := nr rfl
@[simp ↓] theorem fin_p (res : List RV) (K : V → St → Prop) (Kp : List PanicEntry → St → Prop) (c : List PanicEntry) : Fin res K Kp (.panic c) fr st = (fr.df = [] ∧ Kp c st) := nr rfl
@[simp] theorem ev_t (n : Nat) : (Od.t n).ev T fr = some (fr.g n) := nr rfl
@[simp] theorem ev_c (v : V) : (Od.c v).ev T fr = some v := nr rfl
attribute [simp] evs evp evq evo resVs fillV intV strV setAll
@[simp] theorem resV_t (n : Nat) : resV fr st (.t n) = some (fr.g n) := nr rfl
@[simp] theorem resV_c (n : Nat) (row : Bool) (k : Nat) : resV fr st (.c n row k) = mLoad (fun _ _ => true) row k st (fr.g n) := nr rfl
@[simp] theorem tup_0 : tupV [] = .tup [] := nr rfl
@[simp] theorem tup_1 (x : V) : tupV [x] = x := nr rfl
@[simp] theorem tup_2 (x y : V) (l : List V) : tupV (x :: y :: l) = .tup (x :: y :: l) := nr rfl
@[simp] theorem bin_int (op : BinOp) (k k' : IntKind) (a b : Int) : binV op (.val (.int k a)) (.val (.int k' b)) = intV op k a k' b := nr rfl
@[simp] theorem bin_str (op : BinOp) (a b : ByteArray) : binV op (.val (.string a)) (.val (.string b)) = strV op a b := nr rfl
@[simp] theorem un_neg (k : IntKind) (a : Int) : unV .neg (.val (.int k a)) = some (.val (.int k (k.wrap (0 - a)))) := nr rfl
@[simp] theorem un_not (b : Bool) : unV .not (.val (.bool b)) = some (.val (.bool !b)) := nr rfl
@[simp] theorem intOf_I (k : IntKind) (n : Int) : intOf (.val (.int k n)) = some (k, n) := nr rfl
@[simp] theorem boolOf_B (b : Bool) : boolOf (.val (.bool b)) = some b := nr rfl
@[simp] theorem strOf_S (s : ByteArray) : strOf (.val (.string s)) = some s := nr rfl
@[simp] theorem natV_I (k : IntKind) (n : Int) : natV (.val (.int k n)) = if 0 ≤ n then some n.toNat else none := nr rfl
@[simp] theorem elem_lst (k : Nat) (n : Int) (f : Bool) (xs : List V) : elemAt k st n (.lst f xs) = if 0 ≤ n then (xs[n.toNat]?).bind (fun x => if x.cells.length = k then some (.cref x 0) else none) else none := by
  simp only [elemAt]; cases xs[n.toNat]? <;> rfl
@[simp] theorem elem_own (k : Nat) (n : Int) (b L lo m : Nat) : elemAt k st n (.own b L lo m) = match st[b]? with
  | some (.row _ k' xs) => if xs.length = L ∧ k' = k ∧ 0 ≤ n ∧ n < m then some (.ptr b L (lo + n.toNat) 0) else none
  | _ => none := nr rfl
@[simp] theorem cap_lst (xs : List V) : capV (.lst true xs) = some (I (xs.length : Int)) := nr rfl
@[simp] theorem len_lst (f : Bool) (xs : List V) : lenV st (.lst f xs) = some (I (xs.length : Int)) := nr rfl
@[simp] theorem len_own (b L lo n : Nat) : lenV st (.own b L lo n) = match st[b]? with
  | some (.row _ _ xs) => if xs.length = L then some (I (n : Int)) else none
  | _ => none := nr rfl
@[simp] theorem lenN_lst (f : Bool) (xs : List V) : lenN (.lst f xs) = some xs.length := nr rfl
@[simp] theorem lenN_own (b L lo n : Nat) : lenN (.own b L lo n) = some n := nr rfl
@[simp] theorem win_lst (k l h : Nat) (f : Bool) (xs : List V) : winV k st l h (.lst f xs) = if l ≤ h ∧ h ≤ xs.length ∧ (∀ x ∈ xs, x.cells.length = k) then some (.lst (f && decide (h = xs.length)) ((xs.drop l).take (h - l))) else none := nr rfl
@[simp] theorem win_own (k l h b L lo n : Nat) : winV k st l h (.own b L lo n) = match st[b]? with
  | some (.row _ k' xs) => if xs.length = L ∧ k' = k ∧ l ≤ h ∧ h ≤ n then some (.own b L (lo + l) (h - l)) else none
  | _ => none := nr rfl
@[simp] theorem nnil_nil (f : Bool) : nnil st (.lst f []) = false := nr rfl
@[simp] theorem isSl_lst (f : Bool) (l : List V) : isSl (.lst f l) = true := nr rfl
@[simp] theorem nnil_cons (f : Bool) (x : V) (l : List V) : nnil st (.lst f (x :: l)) = true := nr rfl
@[simp] theorem nnil_own (b L lo n : Nat) : nnil st (.own b L lo n) = match st[b]? with
  | some (.row _ _ xs) => decide (xs.length = L) && decide (0 < n)
  | _ => false := nr rfl
@[simp] theorem live_cref (x : V) (j : Nat) : live st (.cref x j) = true := nr rfl
@[simp] theorem live_fn (f : Nat) (l : List V) : live st (.fn f l) = true := nr rfl
@[simp] theorem live_ptr' (b L i j : Nat) : live st (.ptr b L i j) = match st[b]? with
  | some (.row _ _ xs) => decide (xs.length = L)
  | _ => false := nr rfl
@[simp] theorem shift_cref (o : Nat) (x : V) (j : Nat) : shift o (.cref x j) = some (.cref x (j + o)) := nr rfl
@[simp] theorem shift_ptr' (o b L i j : Nat) : shift o (.ptr b L i j) = some (.ptr b L i (j + o)) := nr rfl
@[simp] theorem load_cref (row : Bool) (n : Nat) (x : V) (j : Nat) : mLoad rd row n st (.cref x j) = part row n x j := nr rfl
@[simp] theorem load_ptr (row : Bool) (n b L i j : Nat) : mLoad rd row n st (.ptr b L i j) = if rdOk rd b j (cond row n 1) = true then (match st[b]? with
  | some (.row _ _ xs) => if xs.length = L then (match xs[i]? with
   | some x => part row n x j
   | none => none) else none
  | _ => none) else none := nr rfl
@[simp] theorem part_t (n : Nat) (x : V) (j : Nat) : part true n x j = if j + n ≤ x.cells.length then some (.agg ((x.cells.drop j).take n)) else none := nr rfl
@[simp] theorem part_f (n : Nat) (x : V) (j : Nat) : part false n x j = x.cells[j]? := nr rfl
@[simp] theorem cells_agg (l : List V) : (V.agg l).cells = l := nr rfl
@[simp] theorem cells_val (v : Value) : (V.val v).cells = [.val v] := nr rfl
@[simp] theorem cells_lst (f : Bool) (l : List V) : (V.lst f l).cells = [.lst f l] := nr rfl
@[simp] theorem cells_own (b L lo n : Nat) : (V.own b L lo n).cells = [.own b L lo n] := nr rfl
@[simp] theorem cells_ptr (b L i j : Nat) : (V.ptr b L i j).cells = [.ptr b L i j] := nr rfl
@[simp] theorem cells_cref (x : V) (j : Nat) : (V.cref x j).cells = [.cref x j] := nr rfl
@[simp] theorem cells_fn (f : Nat) (l : List V) : (V.fn f l).cells = [.fn f l] := nr rfl
@[simp] theorem cells_met (f : Nat) (l : List V) : (V.met f l).cells = [.met f l] := nr rfl
@[simp] theorem leaf_met (f : Nat) (l : List V) : (V.met f l).leaf = true := nr rfl
@[simp] theorem leaf_val (k : IntKind) (n : Int) : (V.val (.int k n)).leaf = true := nr rfl
@[simp] theorem leaf_bool (b : Bool) : (V.val (.bool b)).leaf = true := nr rfl
@[simp] theorem leaf_str (s : ByteArray) : (V.val (.string s)).leaf = true := nr rfl
@[simp] theorem leaf_lst (f : Bool) (l : List V) : (V.lst f l).leaf = true := nr rfl
@[simp] theorem leaf_own (b L lo n : Nat) : (V.own b L lo n).leaf = true := nr rfl
@[simp] theorem leaf_ptr (b L i j : Nat) : (V.ptr b L i j).leaf = true := nr rfl
@[simp] theorem leaf_cref (x : V) (j : Nat) : (V.cref x j).leaf = true := nr rfl
@[simp] theorem leaf_fn (f : Nat) (l : List V) : (V.fn f l).leaf = true := nr rfl
def leafL : List V → Bool
 | [] => true
 | x :: l => x.leaf && leafL l
theorem leafL_eq : ∀ l : List V, l.all V.leaf = leafL l
 | [] => rfl
 | x :: l => by rw [List.all_cons, leafL_eq l]; rfl
attribute [simp] leafL
@[simp] theorem allLeaf_eq (x : V) : allLeaf x = leafL x.cells := leafL_eq _
@[simp] theorem cok_val (k : IntKind) (n : Int) : (V.val (.int k n)).cok = true := nr rfl
@[simp] theorem cok_bool (b : Bool) : (V.val (.bool b)).cok = true := nr rfl
@[simp] theorem cok_str (b : ByteArray) : (V.val (.string b)).cok = true := nr rfl
@[simp] theorem cok_lst (f : Bool) (l : List V) : (V.lst f l).cok = true := nr rfl
@[simp] theorem cok_own (b L lo n : Nat) : (V.own b L lo n).cok = true := nr rfl
@[simp] theorem cok_agg (l : List V) : (V.agg l).cok = true := nr rfl
@[simp] theorem upd_agg (l : List V) (j : Nat) (u : V) : upd (.agg l) j u = .agg (l.take j ++ u.cells ++ l.drop (j + u.cells.length)) := nr rfl
@[simp] theorem upd_val (v : Value) (j : Nat) (u : V) : upd (.val v) j u = u := nr rfl
@[simp] theorem rdl_lst (f : Bool) (xs : List V) : rdl st (.lst f xs) = some xs := nr rfl
@[simp] theorem rdl_own (b L lo n : Nat) : rdl st (.own b L lo n) = match st[b]? with
  | some (.row _ _ xs) => if xs.length = L then some ((xs.drop lo).take n) else none
  | _ => none := nr rfl
@[simp] theorem store_ptr (n b L i j : Nat) (u : V) : mStore M n st (.ptr b L i j) u = match st[b]? with
  | some (.row t k xs) => if xs.length = L ∧ rdOk M b j n = true ∧ u.cells.length = n ∧ 0 < n ∧ allLeaf u = true then (match xs[i]? with
   | some x => if j + n ≤ x.cells.length then some (st.set b (.row t k (xs.set i (upd x j u)))) else none
   | none => none) else none
  | _ => none := nr rfl
end
theorem w64 {n : Int} (h1 : -9223372036854775808 ≤ n) (h2 : n ≤ 9223372036854775807) : IntKind.i64.wrap n = n := by rw [IntKind.wrap_i64]; omega
@[simp] theorem st_at (st l : St) : (st ++ l)[st.length]? = l[0]? := by rw [List.getElem?_append_right (Nat.le_refl _), Nat.sub_self]
@[simp] theorem st_at' (st l : St) (i : Nat) : (st ++ l)[st.length + i]? = l[i]? := by rw [List.getElem?_append_right (Nat.le_add_right _ _)]; congr 1; omega
@[simp] theorem st_set (st l : St) (x : Blk) : (st ++ l).set st.length x = st ++ l.set 0 x := by rw [List.set_append_right _ _ (Nat.le_refl _), Nat.sub_self]
@[simp] theorem st_set' (st l : St) (i : Nat) (x : Blk) : (st ++ l).set (st.length + i) x = st ++ l.set i x := by rw [List.set_append_right _ _ (Nat.le_add_right _ _)]; congr 2; omega
@[simp] theorem st_take (st l : St) : (st ++ l).take st.length = st := List.take_left' rfl
@[simp] theorem upM_n (n : Nat) (M : Nat → Bool) : upM n M n = true := by simp [upM]
@[simp] theorem upM_add (n i : Nat) (M : Nat → Bool) : upM n M (n + i) = true := by simp [upM]
theorem upM_of {n s : Nat} {M : Nat → Bool} (h : M s = true) : upM n M s = true := by simp [upM, h]
@[simp] theorem liftM_eq (m : Nat → Bool) (b j : Nat) : liftM m b j = m b := nr rfl
@[simp] theorem rdOk_0 (M : Nat → Nat → Bool) (b j : Nat) : rdOk M b j 0 = true := nr rfl
@[simp] theorem rdOk_s (M : Nat → Nat → Bool) (b j n : Nat) : rdOk M b j (n + 1) = (M b j && rdOk M b (j + 1) n) := nr rfl
@[simp] theorem rdOk_all (b : Nat) : ∀ n j, rdOk (fun _ _ => true) b j n = true
  | 0, _ => rfl
  | n + 1, j => by rw [rdOk_s, rdOk_all b n]; rfl
theorem rdOk_of {M : Nat → Nat → Bool} {b : Nat} (h : ∀ j, M b j = true) : ∀ n j, rdOk M b j n = true
 | 0, _ => rfl
 | n + 1, j => by rw [rdOk_s, h, rdOk_of h n]; rfl
@[simp] theorem inW_nil (n : Nat) (M : Nat → Nat → Bool) (b j : Nat) : inW n [] [] M b j = (M b j && Nat.ble n b) := by simp [inW]
@[simp] theorem rdW_nil (b j : Nat) : rdW [] [] b j = true := nr rfl
end Go.Proofs.YtkcdgaijklhnaaaGreatDoor.Vm
namespace Go.Proofs.YtkcdgaijklhnaaaGreatDoor.Vm
open Go.RowKit
def OutS (n t k : Nat) (s : St) (v : V) (l : List V) : Prop := (l = [] ∧ v = .lst true []) ∨ ∃ b, n ≤ b ∧ s[b]? = some (.row t k l) ∧ v = .own b l.length 0 l.length
def ownL : V → List Nat
 | .own b _ _ _ => [b]
 | _ => []
structure Same (n sb : Nat) (st s : St) : Prop where
 len : n ≤ s.length
 get : ∀ b, b < n → b ≠ sb → s[b]? = st[b]?
section
variable {P : Program} {T : Tbl} {M : Nat → Nat → Bool} {st st' s s' : St} {n t k sb : Nat} {v : V} {l : List V} {K : V → St → Prop} {Kp : List PanicEntry → St → Prop}
theorem OutS.lt (h : OutS n t k s v l) : ∀ b ∈ ownL v, n ≤ b ∧ b < s.length := fun b hb => by
 rcases h with ⟨-, rfl⟩ | ⟨b', h1, h2, rfl⟩
 ·simp [ownL] at hb
 ·simp [ownL] at hb; subst hb; exact ⟨h1, (List.getElem?_eq_some_iff.1 h2).1⟩
theorem OutS.keep2 (h : OutS n t k s v l) (hk : ∀ b ∈ ownL v, s'[b]? = s[b]?) : OutS n t k s' v l := by
 rcases h with h | ⟨b, h1, h2, rfl⟩
 ·exact Or.inl h
 ·exact Or.inr ⟨b, h1, (hk b (by simp [ownL])).trans h2, rfl⟩
theorem OutS.nil (n t k : Nat) (s : St) : OutS n t k s (.lst true []) [] := Or.inl ⟨rfl, rfl⟩
theorem OutS.keep (h : OutS n t k s v l) (hk : ∀ (b t2 k2 : Nat) (xs : List V), n ≤ b → s[b]? = some (.row t2 k2 xs) → s'[b]? = s[b]?) : OutS n t k s' v l := by
 rcases h with h | ⟨b, h1, h2, h3⟩
 ·exact Or.inl h
 ·exact Or.inr ⟨b, h1, (hk b _ _ _ h1 h2).trans h2, h3⟩
theorem OutS.more (h : OutS n t k s v l) (e : St) : OutS n t k (s ++ e) v l := h.keep fun _b _ _ _ _ hb => List.getElem?_append_left (List.getElem?_eq_some_iff.1 hb).1
theorem OutS.set (h : OutS n t k s v l) {b : Nat} (hb : b < n) (x : Blk) : OutS n t k (s.set b x) v l := h.keep fun b' _ _ _ h1 _ => List.getElem?_set_ne (by omega)
theorem OutS.apart (h : OutS n t k s v l) {c t2 k2 : Nat} {ys : List V} (hc : s[c]? = some (.row t2 k2 ys)) (hk : k2 ≠ k) (x : Blk) : OutS n t k (s.set c x) v l := by
 rcases h with h | ⟨b, h1, h2, h3⟩
 ·exact Or.inl h
 ·refine Or.inr ⟨b, h1, ?_, h3⟩
  rw [List.getElem?_set_ne (by rintro rfl; rw [hc] at h2; cases h2; exact hk rfl)]
  exact h2
theorem Same.refl (h : n ≤ st.length) : Same n sb st st := ⟨h, fun _ _ _ => rfl⟩
theorem Same.more (h : Same n sb st s) (e : St) : Same n sb st (s ++ e) := ⟨by have := h.len; simp; omega, fun b h1 h2 => by rw [List.getElem?_append_left (Nat.lt_of_lt_of_le h1 h.len)]; exact h.get b h1 h2⟩
theorem Same.set (h : Same n sb st s) {b : Nat} (hb : b = sb ∨ n ≤ b) (x : Blk) : Same n sb st (s.set b x) := ⟨by have := h.len; simpa using this, fun b' h1 h2 => by rw [List.getElem?_set_ne (by omega)]; exact h.get b' h1 h2⟩
theorem get_more {b : Nat} {x : Blk} (h : s[b]? = some x) (e : St) : (s ++ e)[b]? = some x := by rw [List.getElem?_append_left (List.getElem?_eq_some_iff.1 h).1]; exact h
theorem get_set {b : Nat} {x : Blk} (h : s[b]? = some x) (y : Blk) : (s.set b y)[b]? = some y := List.getElem?_set_self (List.getElem?_eq_some_iff.1 h).1
theorem get_ne {b c : Nat} {x : Blk} (h : s[b]? = some x) (hc : c ≠ b) (y : Blk) : (s.set c y)[b]? = some x := by rw [List.getElem?_set_ne hc]; exact h
theorem app_out {bytes : Nat} {x : V} {news : List V} {k2 : V → St → Prop} (h : OutS n t k s v l) (hn : n ≤ s.length) (hx : rdl s x = some news) (hk : ∀ y ∈ news, y.cells.length = k) (hne : news ≠ [] ∨ l = []) (hM : ∀ b L, n ≤ b → v = .own b L 0 L → ∀ j, M b j = true) (hb : (l.length + news.length) * bytes ≤ 140737488355328) (hb2 : l.length + news.length ≤ 9223372036854775807)
  (hK : ∀ v' s', OutS n t k s' v' (l ++ news) → s.length ≤ s'.length → (∀ b, b < n → s'[b]? = s[b]?) → (∀ b, b < s.length → b ∉ ownL v → s'[b]? = s[b]?) → (∀ b, b ∈ ownL v' → b ∈ ownL v ∨ s.length ≤ b) → k2 v' s') : obind2 (mApp M t k bytes s v x) k2 := by
 rcases h with ⟨rfl, rfl⟩ | ⟨b, h1, h2, rfl⟩
 ·simp only [List.length_nil, Nat.zero_add] at hb hb2
  have : mApp M t k bytes s (.lst true []) x = some (.own s.length news.length 0 news.length, s ++ [.row t k news]) := by
   unfold mApp
   rw [hx]
   show (if _ then _ else none) = _
   rw [if_pos hk]
   show (if _ then some _ else none) = _
   rw [if_pos ⟨by simp, Or.inl rfl, by simpa using hb, by simpa using hb2⟩]
   simp
  rw [this, ob2_some]
  exact hK _ _ (Or.inr ⟨s.length, hn, by simp, by simp⟩) (by simp) (fun b hb => List.getElem?_append_left (by omega)) (fun b hb _ => List.getElem?_append_left hb) (fun b hb => by simp [ownL] at hb; exact Or.inr (by omega))
 ·have : mApp M t k bytes s (.own b l.length 0 l.length) x = some (.own b (l.length + news.length) 0 (l.length + news.length), s.set b (.row t k (l ++ news))) := by
   unfold mApp
   rw [hx]
   show (if _ then _ else none) = _
   rw [if_pos hk]
   simp only [h2]
   rw [if_pos (by simp [hM b _ h1 rfl, hb, hb2])]
  rw [this, ob2_some]
  exact hK _ _ (Or.inr ⟨b, h1, get_set h2 _, by simp⟩) (by simp) (fun b' hb' => List.getElem?_set_ne (by omega)) (fun b' _ hb' => List.getElem?_set_ne (fun e => hb' (by simp [ownL, e]))) (fun b' hb' => Or.inl hb')
theorem OutS.frz (h : OutS n t k s v l) (hp : ∀ x ∈ l, ∀ y ∈ x.cells, y.leaf = true ∧ y.pl = true) : ∃ g, Frz n s v (.lst g l) := by
 rcases h with ⟨rfl, rfl⟩ | ⟨b, h1, h2, rfl⟩
 ·exact ⟨true, .same _ rfl⟩
 ·refine ⟨false, ?_⟩
  have := Frz.row (n := n) b l.length 0 l.length t k l h1 h2 rfl hp
  simpa using this
theorem Same.take (h : Same st.length sb st s) {x : Blk} (hx : s[sb]? = some x) : s.take st.length = st.set sb x := by
 apply List.ext_getElem?
 intro i
 have hl := h.len
 by_cases hi : i < st.length
 ·rw [List.getElem?_take_of_lt hi]
  by_cases hs : i = sb
  ·subst hs; rw [List.getElem?_set_self hi, hx]
  ·rw [List.getElem?_set_ne (Ne.symm hs), h.get i hi hs]
 ·rw [List.getElem?_eq_none (by simp; omega), List.getElem?_eq_none (by simp; omega)]
theorem Same.low (h : Same st.length sb st s) {t k : Nat} {xs : List V} (hx : s[sb]? = some (.row t k xs)) (hl : ∀ x ∈ xs, ∀ y ∈ x.cells, y.low st.length = true) : LowSt st s := fun b hb => by
 by_cases hs : b = sb
 ·subst hs
  refine Or.inr fun t2 k2 xs2 h2 => ?_
  rw [hx] at h2
  cases h2
  exact hl
 ·exact Or.inl (h.get b hb hs)
end
end Go.Proofs.YtkcdgaijklhnaaaGreatDoor.Vm
