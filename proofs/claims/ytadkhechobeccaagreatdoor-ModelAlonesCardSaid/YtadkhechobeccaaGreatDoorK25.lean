/-
  Weights and draws, in plain terms.
  Draws of a token, run by the value machine.
  Both ranks, run by the value machine: the sorts by the library's contracts.
  Both ranks, run by the value machine: the walks.
  The program's rank, run by the value machine.
  models.Weights, run by the value machine (models.Check as a premise).
  models.next, run by the value machine.
  The next token, as one value.
  maybe, run by the value machine; contracts of the old make on models as its calls; an argument; the pin of a run.
  Entries are checked and drawn, run by the value machine.
  models.Alone and the reference's AloneOf: plain terms; the next token and the scores over entries that still grow.
  models.Alone and the reference's AloneOf, run by the value machine.
-/
import Derived.Test.YtadkhechobeccaaGreatDoorK14
import Derived.Test.YtadkhechobeccaaGreatDoorK11
import Derived.Test.YtadkhechobeccaaGreatDoorShelf
import Derived.Test.YtadkhechobeccaaGreatDoorK07
import Derived.Test.YtadkhechobeccaaGreatDoorK08
import Derived.Test.YtadkhechobeccaaGreatDoorK06
import Derived.Test.YtadkhechobeccaaGreatDoorK23
import Derived.Test.YtadkhechobeccaaGreatDoorK01
import Derived.Test.YtadkhechobeccaaGreatDoorK24
namespace Go.Proofs.YtadkhechobeccaaGreatDoor.Vm
open Go.RowKit
theorem mxK_ge (l : List Int) : ∀ (k j : Nat), j ≤ k → gI l j ≤ mxK l k
  | 0, j, h => by
    obtain rfl : j = 0 := by omega
    exact Int.le_refl _
  | k + 1, j, h => by
    show gI l j ≤ max (mxK l k) (gI l (k + 1))
    by_cases e : j = k + 1
    · subst e; omega
    · have := mxK_ge l k j (by omega); omega
theorem mxK_le (l : List Int) {x : Int} : ∀ (k : Nat), (∀ j, j ≤ k → gI l j ≤ x) → mxK l k ≤ x
  | 0, h => h 0 (Nat.le_refl _)
  | k + 1, h => by
    show max (mxK l k) (gI l (k + 1)) ≤ x
    have h1 := mxK_le l k fun j hj => h j (by omega)
    have h2 := h (k + 1) (Nat.le_refl _)
    omega
def wvM (m : LModel) (sc : List Int) (v : Int) : Int := gI m.odds (min ((mxK sc (sc.length - 1) - gI sc v.toNat).fdiv (2 ^ (gI m.cuts 3).toNat)) ((m.odds.length : Int) - 1)).toNat
def wfold (m : LModel) (sc acc l : List Int) : List Int := l.foldl (fun a v => a.set v.toNat (wvM m sc v)) acc
def wgtM (m : LModel) (sc : List Int) (vo top : Nat) (l : List Int) : List Int := wfold m sc (mapR vo fun _ => 0) (l.take top)
theorem wfold_len (m : LModel) (sc : List Int) : ∀ (l acc : List Int), (wfold m sc acc l).length = acc.length
  | [], _ => rfl
  | v :: l, acc => by
    show (wfold m sc (acc.set v.toNat (wvM m sc v)) l).length = _
    rw [wfold_len m sc l]; simp
theorem wfold_snoc (m : LModel) (sc acc l : List Int) (v : Int) : wfold m sc acc (l ++ [v]) = (wfold m sc acc l).set v.toNat (wvM m sc v) := by simp [wfold, List.foldl_append]
theorem wgtM_len (m : LModel) (sc : List Int) (vo top : Nat) (l : List Int) : (wgtM m sc vo top l).length = vo := by rw [wgtM, wfold_len, mapR_len]
theorem wfold_all (m : LModel) (sc : List Int) {p : Int → Prop} (hw : ∀ v, p (wvM m sc v)) : ∀ (l acc : List Int), (∀ x ∈ acc, p x) → ∀ x ∈ wfold m sc acc l, p x
  | [], acc, h => h
  | v :: l, acc, h => by
    show ∀ x ∈ wfold m sc (acc.set v.toNat (wvM m sc v)) l, p x
    refine wfold_all m sc hw l _ fun x hx => ?_
    rcases List.mem_or_eq_of_mem_set hx with h1 | rfl
    · exact h x h1
    · exact hw v
theorem wfold_get (m : LModel) (sc : List Int) {i : Nat} : ∀ (l acc : List Int), (∀ v ∈ l, v.toNat ≠ i) → (wfold m sc acc l)[i]? = acc[i]?
  | [], _, _ => rfl
  | v :: l, acc, h => by
    show (wfold m sc (acc.set v.toNat (wvM m sc v)) l)[i]? = _
    rw [wfold_get m sc l _ fun x hx => h x (List.mem_cons_of_mem _ hx), List.getElem?_set_ne (h v List.mem_cons_self)]
def smp : List Int → Int → Int → Int
  | [], _, _ => -1
  | x :: t, n, k => if n < x then k else smp t (n - x) (k + 1)
def smpM (ws : List Int) (draw : Int) : Int := smp ws ((draw * ws.sum).fdiv (2 ^ 32)) 0
theorem odds_rng {m : LModel} (hg : GenM m) (k : Nat) : 0 ≤ gI m.odds k ∧ gI m.odds k ≤ 1000 := by
  by_cases h : k < m.odds.length
  · exact gI_mem hg.odds.2.1 h
  · rw [gI, List.getElem?_eq_none (by omega)]; exact ⟨by decide, by decide⟩
theorem wgt_rng {m : LModel} (hg : GenM m) (sc : List Int) (vo top : Nat) (l : List Int) : ∀ x ∈ wgtM m sc vo top l, 0 ≤ x ∧ x ≤ 1000 := by
  refine wfold_all m sc (p := fun x => 0 ≤ x ∧ x ≤ 1000) (fun v => odds_rng hg _) _ _ fun x hx => ?_
  simp [mapR] at hx
  omega
theorem sum_nn : ∀ {l : List Int}, (∀ y ∈ l, 0 ≤ y) → 0 ≤ l.sum
  | [], _ => by simp
  | a :: l, h => by
    have := sum_nn (l := l) fun y hy => h y (List.mem_cons_of_mem _ hy)
    have := h a List.mem_cons_self
    simp; omega
theorem sum_ge : ∀ {l : List Int} {i : Nat} {x : Int}, (∀ y ∈ l, 0 ≤ y) → l[i]? = some x → x ≤ l.sum
  | [], _, _, _, h => by simp at h
  | a :: l, 0, x, h, hx => by
    simp at hx; subst hx
    have h0 := sum_nn (l := l) fun y hy => h y (List.mem_cons_of_mem _ hy)
    simp; omega
  | a :: l, i + 1, x, h, hx => by
    have := sum_ge (l := l) (i := i) (x := x) (fun y hy => h y (List.mem_cons_of_mem _ hy)) (by simpa using hx)
    have := h a List.mem_cons_self
    simp; omega
theorem IsRank.head {sc : List Int} {n : Nat} {v : Int} {l : List Int} (h : IsRank sc n (v :: l)) : ∀ j, j < n → gI sc j ≤ gI sc v.toNat := fun j hj => by
  have hm : (j : Int) ∈ v :: l := h.perm.symm.subset (idxs_mem.2 ⟨by omega, by omega⟩)
  rcases List.mem_cons.1 hm with e | hm
  · rw [← e]; simp
  · have := (List.pairwise_cons.1 h.ord).1 _ hm
    unfold bef at this
    simp only [Int.toNat_natCast] at this
    omega
theorem IsRank.nodup {sc : List Int} {n : Nat} {l : List Int} (h : IsRank sc n l) : l.Nodup := List.Pairwise.imp (R := bef sc) (fun {a b} hb (e : a = b) => bef_irrefl sc b (e ▸ hb)) h.ord
theorem wgt_pos {m : LModel} (hg : GenM m) {sc : List Int} {vo top : Nat} {l : List Int} (hsc : sc.length = vo) (hv : 1 ≤ vo) (ht : 1 ≤ top) (h : IsRank sc vo l) : 1 ≤ (wgtM m sc vo top l).sum := by
  match l, h.len with
  | [], hl => simp at hl; omega
  | v :: l, hl =>
    obtain ⟨o0, ho0, ho1⟩ := hg.odds.2.2
    have hmx : mxK sc (sc.length - 1) = gI sc v.toNat := by
      have h1 := mxK_le sc (sc.length - 1) (x := gI sc v.toNat) fun j hj => h.head j (by omega)
      have hr := h.rng v List.mem_cons_self
      have h2 := mxK_ge sc (sc.length - 1) v.toNat (by omega)
      omega
    have hw : wvM m sc v = o0 := by
      unfold wvM
      rw [hmx, Int.sub_self, Int.zero_fdiv]
      have : (min 0 ((m.odds.length : Int) - 1)).toNat = 0 := by omega
      rw [this]
      exact gI_of ho0
    have hr := h.rng v List.mem_cons_self
    have hnd := List.nodup_cons.1 h.nodup
    obtain ⟨t, rfl⟩ : ∃ t, top = t + 1 := ⟨top - 1, by omega⟩
    have hget : (wgtM m sc vo (t + 1) (v :: l))[v.toNat]? = some o0 := by
      show (wfold m sc ((mapR vo fun _ => 0).set v.toNat (wvM m sc v)) (l.take t))[v.toNat]? = _
      rw [wfold_get m sc _ _ fun x hx => ?_, List.getElem?_set_self (by simp; omega), hw]
      intro e
      have hx' := List.mem_of_mem_take hx
      have hrx := h.rng x (List.mem_cons_of_mem _ hx')
      have : x = v := by omega
      exact hnd.1 (this ▸ hx')
    have := sum_ge (fun y hy => (wgt_rng hg sc vo (t + 1) (v :: l) y hy).1) hget
    omega
end Go.Proofs.YtadkhechobeccaaGreatDoor.Vm
namespace Go.Proofs.YtadkhechobeccaaGreatDoor.Vm
open Go.RowKit
theorem smp_drop {ws : List Int} {k : Nat} {x : Int} (h : ws[k]? = some x) (n j : Int) : smp (ws.drop k) n j = if n < x then j else smp (ws.drop (k + 1)) (n - x) (j + 1) := by
  have hk : k < ws.length := (List.getElem?_eq_some_iff.1 h).1
  rw [List.drop_eq_getElem_cons hk]
  have : ws[k] = x := by rw [List.getElem?_eq_getElem hk] at h; exact Option.some.inj h
  rw [this]
  rfl
theorem sum_drop {ws : List Int} {k : Nat} {x : Int} (h : ws[k]? = some x) : (ws.drop k).sum = x + (ws.drop (k + 1)).sum := by
  have hk : k < ws.length := (List.getElem?_eq_some_iff.1 h).1
  rw [List.drop_eq_getElem_cons hk]
  have : ws[k] = x := by rw [List.getElem?_eq_getElem hk] at h; exact Option.some.inj h
  rw [this, List.sum_cons]
theorem sum_take {ws : List Int} {k : Nat} {x : Int} (h : ws[k]? = some x) : (ws.take (k + 1)).sum = (ws.take k).sum + x := by
  rw [List.take_add_one, h]; simp
theorem sum_le {l : List Int} : (∀ x ∈ l, x ≤ 1000) → l.sum ≤ 1000 * l.length := by
  induction l with
  | nil => intro _; simp
  | cons a l ih =>
    intro h
    have h1 := ih fun x hx => h x (List.mem_cons_of_mem _ hx)
    have h2 := h a List.mem_cons_self
    simp; omega
section
variable {T : Tbl} {M : Nat → Bool} {st : St} {K : V → St → Prop} {Kp : List PanicEntry → St → Prop}
set_option maxRecDepth 10000 in
theorem sample_v (f : Bool) (ws : List Int) (draw : Int) (hw : ∀ x ∈ ws, 0 ≤ x ∧ x ≤ 1000) (hl : ws.length ≤ 16) (hs : 1 ≤ ws.sum) (hd : 0 ≤ draw ∧ draw < 4294967296) (hK : K (I (smpM ws draw)) st) : CallV Tryz.prog T M 78 [.lst f (ints ws), I draw] st K Kp := by
  have hsl := sum_le fun x hx => (hw x hx).2
  have hm0 : 0 ≤ draw * ws.sum := Int.mul_nonneg hd.1 (by omega)
  have hm1 : draw * ws.sum ≤ 4294967296 * 16000 := Int.mul_le_mul (by omega) (by omega) (by omega) (by omega)
  have hat0 : 0 ≤ (draw * ws.sum).fdiv (2 ^ 32) := Int.fdiv_nonneg hm0 (by decide)
  have hat1 : (draw * ws.sum).fdiv (2 ^ 32) < ws.sum := by
    rw [Int.fdiv_eq_ediv_of_nonneg _ (by decide)]
    refine Int.ediv_lt_of_lt_mul (by decide) ?_
    have : draw * ws.sum < 4294967296 * ws.sum := Int.mul_lt_mul_of_pos_right (by omega) (by omega)
    have e : (2 : Int) ^ 32 = 4294967296 := by decide
    rw [e, Int.mul_comm ws.sum]
    exact this
  refine fun_ok hmix c_sample (le_of rfl) ?_
  simp [F_sample]
  refine wp_mloop (fun fr s => ∃ k : Nat, k ≤ ws.length ∧ s = st ∧ fr.df = [] ∧ fr.g 0 = .lst f (ints ws) ∧ fr.g 1 = I draw ∧ fr.g 5 = I (ws.take k).sum ∧ fr.g 10 = .lst f (ints ws) ∧ fr.g 11 = I ws.length ∧ fr.g 12 = I k) (fun fr _ => ws.length - nat (fr.g 12)) ⟨0, by simp⟩ ?_
  rintro fr s ⟨k, hk, rfl, hdf, z0, z1, z5, z10, z11, z12⟩
  by_cases hlt : k < ws.length
  · have hx := List.getElem?_eq_getElem hlt
    have hst := sum_take hx
    have hb := sum_le (l := ws.take k) fun x hx => (hw x (List.mem_of_mem_take hx)).2
    have hb0 := sum_nn (l := ws.take k) fun x hx => (hw x (List.mem_of_mem_take hx)).1
    have hxr := hw _ (List.getElem_mem hlt)
    have hlt2 : (ws.take k).length ≤ 16 := by simp; omega
    generalize ws[k] = x at *
    simp [z11, z12, hlt]
    simp [z10, z5, ints_get hx, w64 (n := (ws.take k).sum + x) (by omega) (by omega), w64 (n := (k : Int) + 1) (by omega) (by omega)]
    exact ⟨⟨k + 1, hlt, hdf, z0, z1, by rw [hst], by push_cast; rfl⟩, by omega⟩
  · obtain rfl : k = ws.length := by omega
    rw [List.take_length] at z5
    simp [z0, z1, z5, z11, z12, IntKind.bits, w64 (n := draw * ws.sum) (by omega) (by omega)]
    refine wp_mloop (fun fr s' => ∃ (k : Nat) (n : Int), s' = s ∧ 0 ≤ n ∧ n < (ws.drop k).sum ∧ smpM ws draw = smp (ws.drop k) n k ∧ fr.df = [] ∧ fr.g 0 = .lst f (ints ws) ∧ fr.g 8 = I n ∧ fr.g 9 = I k) (fun fr _ => ws.length - nat (fr.g 9)) ⟨0, _, rfl, hat0, hat1, rfl, by simp [hdf], by simp [z0], by simp, by simp⟩ ?_
    clear z0 z1 z5 z10 z11 z12 hdf
    rintro fr s' ⟨k, n, rfl, n0, n1, hsm, hdf, z0, z8, z9⟩
    have hlt : k < ws.length := by
      apply Decidable.byContradiction
      intro h
      rw [List.drop_eq_nil_of_le (by omega)] at n1
      simp at n1
      omega
    have hx := List.getElem?_eq_getElem hlt
    have hsd := sum_drop hx
    have hsp := smp_drop hx n k
    have hxr := hw _ (List.getElem_mem hlt)
    generalize ws[k] = x at *
    by_cases hc : x ≤ n
    · rw [if_neg (by omega)] at hsp
      have hbn : n ≤ 16000 := by
        have := sum_le (l := ws.drop k) fun x hx => (hw x (List.mem_of_mem_drop hx)).2
        simp at this
        omega
      simp [z8, z9, z0, ints_get hx, hc, w64 (n := n - x) (by omega) (by omega), w64 (n := (k : Int) + 1) (by omega) (by omega)]
      exact ⟨⟨k + 1, n - x, by omega, by omega, by rw [hsm, hsp]; push_cast; rfl, hdf, rfl, by push_cast; rfl⟩, by omega⟩
    · rw [if_pos (by omega)] at hsp
      simp [z8, z9, z0, ints_get hx, hc, hdf]
      rw [hsm, hsp] at hK
      exact hK
set_option maxRecDepth 10000 in
theorem sampled_v (f : Bool) (ws : List Int) (draw : Int) (hw : ∀ x ∈ ws, 0 ≤ x ∧ x ≤ 1000) (hl : ws.length ≤ 16) (hd : 0 ≤ draw ∧ draw < 4294967296) (hK : K (I (smpM ws draw)) st) : CallV Tryz.prog T M 19 [.lst f (ints ws), I draw] st K Kp := by
  have hsl := sum_le fun x hx => (hw x hx).2
  have hsn := sum_nn fun x hx => (hw x hx).1
  have hm0 : 0 ≤ draw * ws.sum := Int.mul_nonneg hd.1 (by omega)
  have hm1 : draw * ws.sum ≤ 4294967296 * 16000 := Int.mul_le_mul (by omega) (by omega) (by omega) (by omega)
  have hat0 : 0 ≤ (draw * ws.sum).fdiv (2 ^ 32) := Int.fdiv_nonneg hm0 (by decide)
  have hat1 : (draw * ws.sum).fdiv (2 ^ 32) ≤ 4294967296 * 16000 := by
    rw [Int.fdiv_eq_ediv_of_nonneg _ (by decide)]
    exact Int.le_trans (Int.ediv_le_self _ hm0) hm1
  refine fun_ok hmix c_sampled (le_of rfl) ?_
  simp [F_sampled]
  refine wp_mloop (fun fr s => ∃ k : Nat, k ≤ ws.length ∧ s = st ∧ fr.df = [] ∧ fr.g 0 = .lst f (ints ws) ∧ fr.g 1 = I draw ∧ fr.g 5 = I (ws.take k).sum ∧ fr.g 11 = .lst f (ints ws) ∧ fr.g 12 = I ws.length ∧ fr.g 13 = I k) (fun fr _ => ws.length - nat (fr.g 13)) ⟨0, by simp⟩ ?_
  rintro fr s ⟨k, hk, rfl, hdf, z0, z1, z5, z11, z12, z13⟩
  by_cases hlt : k < ws.length
  · have hx := List.getElem?_eq_getElem hlt
    have hst := sum_take hx
    have hb := sum_le (l := ws.take k) fun x hx => (hw x (List.mem_of_mem_take hx)).2
    have hb0 := sum_nn (l := ws.take k) fun x hx => (hw x (List.mem_of_mem_take hx)).1
    have hxr := hw _ (List.getElem_mem hlt)
    have hlt2 : (ws.take k).length ≤ 16 := by simp; omega
    generalize ws[k] = x at *
    simp [z12, z13, hlt]
    simp [z11, z5, ints_get hx, w64 (n := (ws.take k).sum + x) (by omega) (by omega), w64 (n := (k : Int) + 1) (by omega) (by omega)]
    exact ⟨⟨k + 1, hlt, hdf, z0, z1, by rw [hst], by push_cast; rfl⟩, by omega⟩
  · obtain rfl : k = ws.length := by omega
    rw [List.take_length] at z5
    simp [z0, z1, z5, z12, z13, IntKind.bits, w64 (n := draw * ws.sum) (by omega) (by omega)]
    refine wp_mloop (fun fr s' => ∃ (k : Nat) (n : Int), k ≤ ws.length ∧ s' = s ∧ -16000 * (k : Int) ≤ n ∧ n ≤ 4294967296 * 16000 ∧ smpM ws draw = smp (ws.drop k) n k ∧ fr.df = [] ∧ fr.g 25 = .lst f (ints ws) ∧ fr.g 26 = I ws.length ∧ fr.g 8 = I n ∧ fr.g 27 = I k) (fun fr _ => ws.length - nat (fr.g 27)) ⟨0, _, by omega, rfl, by omega, hat1, rfl, by simp [hdf], by simp, by simp, by simp, by simp⟩ ?_
    clear z0 z1 z5 z11 z12 z13 hdf
    rintro fr s' ⟨k, n, hk, rfl, n0, n1, hsm, hdf, z25, z26, z8, z27⟩
    by_cases hlt : k < ws.length
    · have hx := List.getElem?_eq_getElem hlt
      have hsp := smp_drop hx n k
      have hxr := hw _ (List.getElem_mem hlt)
      generalize ws[k] = x at *
      simp [z26, z27, hlt]
      by_cases hc : n < x
      · rw [if_pos hc] at hsp
        simp [z25, z8, ints_get hx, hc, hdf]
        rw [hsm, hsp] at hK
        exact hK
      · rw [if_neg hc] at hsp
        simp [z25, z8, ints_get hx, hc, w64 (n := n - x) (by omega) (by omega), w64 (n := (k : Int) + 1) (by omega) (by omega)]
        exact ⟨⟨k + 1, hlt, n - x, by push_cast; omega, by omega, by rw [hsm, hsp]; push_cast; rfl, hdf, rfl, by push_cast; rfl⟩, by omega⟩
    · obtain rfl : k = ws.length := by omega
      rw [List.drop_length] at hsm
      simp [z26, z27, hdf]
      rw [hsm] at hK
      exact hK
theorem Rd.el2 {st : St} {v : V} {l : List Int} (h : Rd st v l) {k : Nat} {x : Int} (hx : l[k]? = some x) : ∃ p, ∀ e : St, elemAt 1 (st ++ e) (k : Int) v = some p ∧ (∀ rd : Nat → Nat → Bool, (∀ b j, rd b j = true) → mLoad rd false 1 (st ++ e) p = some (I x)) := by
  have hi := ints_get hx
  rcases h with ⟨f, rfl⟩ | ⟨b, t, rfl, h2⟩
  · exact ⟨.cref (I x) 0, fun e => ⟨by simp [hi], fun rd _ => by simp⟩⟩
  · have hk : k < l.length := (List.getElem?_eq_some_iff.1 hx).1
    have h3 := fun e => get_more h2 e
    exact ⟨.ptr b l.length k 0, fun e => ⟨by simp [h3, hk], fun rd hrd => by simp [h3, hi, rdOk_of (hrd b), hrd]⟩⟩
def RankOk (F : Nat) : Prop := ∀ (T : Tbl) (M : Nat → Bool) (st : St) (K : V → St → Prop) (Kp : List PanicEntry → St → Prop) (v : V) (sc : List Int) (k : Nat), Rd st v sc → 1 ≤ sc.length → sc.length ≤ 16 → 1 ≤ k → k ≤ sc.length → (∀ b l, IsRank sc sc.length l → K (.lst b (ints (l.take k))) st) → CallV Tryz.prog T M F [v, I k] st K Kp
set_option maxRecDepth 10000 in
theorem weights_v (hR : RankOk 65) {m : LModel} {vo : Nat} (fl : Nat → Bool) (hg : GenM m) (hv : m.vocab = (vo : Int)) {vs : V} (sc : List Int) (hr : Rd st vs sc) (hsc : sc.length = vo) (hw : ∀ x ∈ sc, -2147483648 ≤ x ∧ x ≤ 2147483647) (hK : ∀ g l, IsRank sc vo l → K (.lst g (ints (wgtM m sc vo m.top.toNat l))) st) : CallV Tryz.prog T M 32 [encM fl m, vs] st K Kp := by
  have hv2 := hg.vocab
  have ht2 := hg.top
  refine CallV.give (fun_ok hmix c_weights (le_of rfl) ?_)
  obtain ⟨top, ht⟩ : ∃ k : Nat, m.top = (k : Int) := ⟨m.top.toNat, by omega⟩
  simp [F_weights, encM, hv, ht]
  refine ⟨by omega, ?_⟩
  rw [rep_ints]
  refine max_v (hr.more _) (by omega) (by omega) ?_
  simp
  refine hR _ _ _ _ _ _ sc top (hr.more _) (by omega) (by omega) (by omega) (by omega) fun b l hl => ?_
  have hL : (l.take top).length = top := by have := hl.len; simp; omega
  have hLr : ∀ v ∈ l.take top, 0 ≤ v ∧ v < vo := fun v hv => by have := hl.rng v (List.mem_of_mem_take hv); omega
  obtain ⟨c0, c1, c2, c3, hc0⟩ : ∃ c0 c1 c2 c3, m.cuts = [c0, c1, c2, c3] := by
    match m.cuts, hg.cuts.1 with
    | [c0, c1, c2, c3], _ => exact ⟨c0, c1, c2, c3, rfl⟩
  have hg3 : gI m.cuts 3 = c3 := by rw [hc0]; rfl
  have hcu : (ints m.cuts)[3]? = some (I c3) := by rw [hc0]; rfl
  have hc3 := hg.cuts.2 c3 (by rw [hc0]; simp)
  have hol := hg.odds.1
  have hmx1 : ∀ j, j < vo → gI sc j ≤ mxK sc (sc.length - 1) := fun j hj => mxK_ge sc _ j (by omega)
  have hmx2 : mxK sc (sc.length - 1) ≤ 2147483647 := mxK_le sc _ fun j hj => (gI_mem hw (by omega)).2
  have hK' := hK
  rw [ht] at hK'
  simp only [Int.toNat_natCast, wgtM] at hK'
  have hKl := fun g => hK' g l (by rw [← hsc]; exact hl)
  clear hK hK'
  generalize l.take top = L at *
  simp [hL]
  generalize hmx : mxK sc (sc.length - 1) = mx at *
  refine wp_mloop (fun fr s => ∃ k : Nat, k ≤ top ∧ s = st ++ [.row 27 11 [V.agg [I m.kind, I (vo : Int), I m.width, I (top : Int), .lst (fl 0) (ints m.cuts), .lst (fl 1) (ints m.embed), .lst (fl 2) (ints m.place), .lst (fl 3) (ints m.mix), .lst (fl 4) (ints m.out), .lst (fl 5) (ints m.soft), .lst (fl 6) (ints m.odds)]], .row 3 1 (ints (wfold m sc (mapR vo fun _ => 0) (L.take k)))] ∧ fr.df = [] ∧ fr.g 1 = vs ∧ fr.g 2 = .ptr st.length 1 0 0 ∧ fr.g 5 = .own (st.length + 1) vo 0 vo ∧ fr.g 6 = I mx ∧ fr.g 17 = .lst b (ints L) ∧ fr.g 18 = I top ∧ fr.g 19 = I k) (fun fr _ => top - nat (fr.g 19))
    ⟨0, by omega, by simp [wfold], by simp, by simp, by simp, by simp, by simp, by simp, by simp, by simp⟩ ?_
  rintro fr s ⟨k, hk, rfl, hdf, z1, z2, z5, z6, z17, z18, z19⟩
  have hwl := wfold_len m sc (L.take k) (mapR vo fun _ => 0)
  rw [mapR_len] at hwl
  have hw1 : IntKind.i64.wrap ((k : Int) + 1) = ((k + 1 : Nat) : Int) := by rw [w64 (n := (k : Int) + 1) (by omega) (by omega)]; push_cast; rfl
  by_cases hlt : k < top
  · have hx := List.getElem?_eq_getElem (show k < L.length by omega)
    have hxr := hLr _ (List.getElem_mem (show k < L.length by omega))
    have hts : wfold m sc (mapR vo fun _ => 0) (L.take (k + 1)) = (wfold m sc (mapR vo fun _ => 0) (L.take k)).set (L[k]'(by omega)).toNat (wvM m sc (L[k]'(by omega))) := by rw [List.take_add_one, hx, ← wfold_snoc]; rfl
    generalize L[k]'(by omega) = v at *
    obtain ⟨x, rfl⟩ : ∃ x : Nat, v = (x : Int) := ⟨v.toNat, by omega⟩
    obtain ⟨p, hp⟩ := hr.el2 (k := x) (x := gI sc x) (by rw [gI, List.getElem?_eq_getElem (by omega)]; rfl)
    have p1 := fun e => (hp e).1
    have p2 := fun e => (hp e).2
    have hsr := gI_mem hw (show x < sc.length by omega)
    have hs1 := hmx1 x (by omega)
    have hp := pow_rng (k := c3.toNat) (by omega)
    have hd0 : 0 ≤ (mx - gI sc x).fdiv (2 ^ c3.toNat) := Int.fdiv_nonneg (by omega) (by omega)
    generalize hci : min ((mx - gI sc x).fdiv (2 ^ c3.toNat)) ((m.odds.length : Int) - 1) = ci at *
    have hoi := ints_get (l := m.odds) (k := ci.toNat) (x := gI m.odds ci.toNat) (by rw [gI, List.getElem?_eq_getElem (by omega)]; rfl)
    have hwv : wvM m sc x = gI m.odds ci.toNat := by
      unfold wvM
      rw [hmx, hg3, ← hci]
      rfl
    generalize wfold m sc (mapR vo fun _ => 0) (L.take k) = acc at *
    have hal := fun hk => ints_get' (List.getElem?_eq_getElem (show x < acc.length by omega)) hk
    simp [z18, z19, hlt]
    simp [z17, ints_get hx]
    refine wp_mtail [] [] ?_
    simp [z1, z2, z5, z6, p1, p2, hcu, hwl, w64 (n := mx - gI sc x) (by omega) (by omega), w64 (n := (m.odds.length : Int) - 1) (by omega) (by omega), IntKind.bits, show (0 : Int) ≤ c3 by omega, show min c3.toNat 64 = c3.toNat by omega, hci, hoi, show 0 ≤ ci by omega, show x < vo by omega]
    simp [hal, ints_set, z19, hw1, -Int.natCast_add]
    have hts' : wfold m sc (mapR vo fun _ => 0) (L.take (k + 1)) = acc.set x (gI m.odds ci.toNat) := by rw [hts, hwv]; rfl
    exact ⟨⟨k + 1, hlt, by rw [hts'], hdf, z17, z18, rfl⟩, by omega⟩
  · obtain rfl : k = top := by omega
    simp [z18, z19, hdf, z5]
    have htk : L.take k = L := List.take_of_length_le (by omega)
    rw [htk] at hwl ⊢
    have hfr := Frz.row (n := st.length) (st.length + 1) vo 0 vo 3 1 (ints (wfold m sc (mapR vo fun _ => 0) L)) (by omega) (st := st ++ [.row 27 11 [V.agg [I m.kind, I (vo : Int), I m.width, I (k : Int), .lst (fl 0) (ints m.cuts), .lst (fl 1) (ints m.embed), .lst (fl 2) (ints m.place), .lst (fl 3) (ints m.mix), .lst (fl 4) (ints m.out), .lst (fl 5) (ints m.soft), .lst (fl 6) (ints m.odds)]], .row 3 1 (ints (wfold m sc (mapR vo fun _ => 0) L))]) (by simp) (by simp [hwl]) (ints_cells _)
    have htt : List.take vo (List.drop 0 (ints (wfold m sc (mapR vo fun _ => 0) L))) = ints (wfold m sc (mapR vo fun _ => 0) L) := by rw [List.drop_zero]; exact List.take_of_length_le (by simp [hwl])
    rw [htt] at hfr
    exact ⟨_, hfr, Keep0.low (Keep0.refl _), hKl false⟩
set_option maxRecDepth 10000 in
theorem refWeights_v (hR : RankOk 38) {m : LModel} {vo : Nat} (fl : Nat → Bool) (hg : GenM m) (hv : m.vocab = (vo : Int)) {vs : V} (sc : List Int) (hr : Rd st vs sc) (hsc : sc.length = vo) (hw : ∀ x ∈ sc, -2147483648 ≤ x ∧ x ≤ 2147483647) (hK : ∀ g l, IsRank sc vo l → K (.lst g (ints (wgtM m sc vo m.top.toNat l))) st) : CallV Tryz.prog T M 14 [encM fl m, vs] st K Kp := by
  have hv2 := hg.vocab
  have ht2 := hg.top
  refine CallV.give (fun_ok hmix c_refWeights (le_of rfl) ?_)
  obtain ⟨top, ht⟩ : ∃ k : Nat, m.top = (k : Int) := ⟨m.top.toNat, by omega⟩
  simp [F_refWeights, encM, hv, ht]
  refine ⟨by omega, ?_⟩
  rw [rep_ints]
  refine max_v (hr.more _) (by omega) (by omega) ?_
  simp
  refine hR _ _ _ _ _ _ sc top (hr.more _) (by omega) (by omega) (by omega) (by omega) fun b l hl => ?_
  have hL : (l.take top).length = top := by have := hl.len; simp; omega
  have hLr : ∀ v ∈ l.take top, 0 ≤ v ∧ v < vo := fun v hv => by have := hl.rng v (List.mem_of_mem_take hv); omega
  obtain ⟨c0, c1, c2, c3, hc0⟩ : ∃ c0 c1 c2 c3, m.cuts = [c0, c1, c2, c3] := by
    match m.cuts, hg.cuts.1 with
    | [c0, c1, c2, c3], _ => exact ⟨c0, c1, c2, c3, rfl⟩
  have hg3 : gI m.cuts 3 = c3 := by rw [hc0]; rfl
  have hcu : (ints m.cuts)[3]? = some (I c3) := by rw [hc0]; rfl
  have hc3 := hg.cuts.2 c3 (by rw [hc0]; simp)
  have hol := hg.odds.1
  have hmx1 : ∀ j, j < vo → gI sc j ≤ mxK sc (sc.length - 1) := fun j hj => mxK_ge sc _ j (by omega)
  have hmx2 : mxK sc (sc.length - 1) ≤ 2147483647 := mxK_le sc _ fun j hj => (gI_mem hw (by omega)).2
  have hK' := hK
  rw [ht] at hK'
  simp only [Int.toNat_natCast, wgtM] at hK'
  have hKl := fun g => hK' g l (by rw [← hsc]; exact hl)
  clear hK hK'
  generalize l.take top = L at *
  simp [hL]
  generalize hmx : mxK sc (sc.length - 1) = mx at *
  refine wp_mloop (fun fr s => ∃ k : Nat, k ≤ top ∧ s = st ++ [.row 27 11 [V.agg [I m.kind, I (vo : Int), I m.width, I (top : Int), .lst (fl 0) (ints m.cuts), .lst (fl 1) (ints m.embed), .lst (fl 2) (ints m.place), .lst (fl 3) (ints m.mix), .lst (fl 4) (ints m.out), .lst (fl 5) (ints m.soft), .lst (fl 6) (ints m.odds)]], .row 3 1 (ints (wfold m sc (mapR vo fun _ => 0) (L.take k)))] ∧ fr.df = [] ∧ fr.g 1 = vs ∧ fr.g 2 = .ptr st.length 1 0 0 ∧ fr.g 5 = .own (st.length + 1) vo 0 vo ∧ fr.g 6 = I mx ∧ fr.g 17 = .lst b (ints L) ∧ fr.g 18 = I top ∧ fr.g 19 = I k) (fun fr _ => top - nat (fr.g 19))
    ⟨0, by omega, by simp [wfold], by simp, by simp, by simp, by simp, by simp, by simp, by simp, by simp⟩ ?_
  rintro fr s ⟨k, hk, rfl, hdf, z1, z2, z5, z6, z17, z18, z19⟩
  have hwl := wfold_len m sc (L.take k) (mapR vo fun _ => 0)
  rw [mapR_len] at hwl
  have hw1 : IntKind.i64.wrap ((k : Int) + 1) = ((k + 1 : Nat) : Int) := by rw [w64 (n := (k : Int) + 1) (by omega) (by omega)]; push_cast; rfl
  by_cases hlt : k < top
  · have hx := List.getElem?_eq_getElem (show k < L.length by omega)
    have hxr := hLr _ (List.getElem_mem (show k < L.length by omega))
    have hts : wfold m sc (mapR vo fun _ => 0) (L.take (k + 1)) = (wfold m sc (mapR vo fun _ => 0) (L.take k)).set (L[k]'(by omega)).toNat (wvM m sc (L[k]'(by omega))) := by rw [List.take_add_one, hx, ← wfold_snoc]; rfl
    generalize L[k]'(by omega) = v at *
    obtain ⟨x, rfl⟩ : ∃ x : Nat, v = (x : Int) := ⟨v.toNat, by omega⟩
    obtain ⟨p, hp⟩ := hr.el2 (k := x) (x := gI sc x) (by rw [gI, List.getElem?_eq_getElem (by omega)]; rfl)
    have p1 := fun e => (hp e).1
    have p2 := fun e => (hp e).2
    have hsr := gI_mem hw (show x < sc.length by omega)
    have hs1 := hmx1 x (by omega)
    have hp := pow_rng (k := c3.toNat) (by omega)
    have hd0 : 0 ≤ (mx - gI sc x).fdiv (2 ^ c3.toNat) := Int.fdiv_nonneg (by omega) (by omega)
    generalize hci : min ((mx - gI sc x).fdiv (2 ^ c3.toNat)) ((m.odds.length : Int) - 1) = ci at *
    have hoi := ints_get (l := m.odds) (k := ci.toNat) (x := gI m.odds ci.toNat) (by rw [gI, List.getElem?_eq_getElem (by omega)]; rfl)
    have hwv : wvM m sc x = gI m.odds ci.toNat := by
      unfold wvM
      rw [hmx, hg3, ← hci]
      rfl
    generalize wfold m sc (mapR vo fun _ => 0) (L.take k) = acc at *
    have hal := fun hk => ints_get' (List.getElem?_eq_getElem (show x < acc.length by omega)) hk
    simp [z18, z19, hlt]
    simp [z17, ints_get hx]
    refine wp_mtail [] [] ?_
    simp [z1, z2, z5, z6, p1, p2, hcu, hwl, w64 (n := mx - gI sc x) (by omega) (by omega), w64 (n := (m.odds.length : Int) - 1) (by omega) (by omega), IntKind.bits, show (0 : Int) ≤ c3 by omega, show min c3.toNat 64 = c3.toNat by omega, hci, hoi, show 0 ≤ ci by omega, show x < vo by omega]
    simp [hal, ints_set, z19, hw1, -Int.natCast_add]
    have hts' : wfold m sc (mapR vo fun _ => 0) (L.take (k + 1)) = acc.set x (gI m.odds ci.toNat) := by rw [hts, hwv]; rfl
    exact ⟨⟨k + 1, hlt, by rw [hts'], hdf, z17, z18, rfl⟩, by omega⟩
  · obtain rfl : k = top := by omega
    simp [z18, z19, hdf, z5]
    have htk : L.take k = L := List.take_of_length_le (by omega)
    rw [htk] at hwl ⊢
    have hfr := Frz.row (n := st.length) (st.length + 1) vo 0 vo 3 1 (ints (wfold m sc (mapR vo fun _ => 0) L)) (by omega) (st := st ++ [.row 27 11 [V.agg [I m.kind, I (vo : Int), I m.width, I (k : Int), .lst (fl 0) (ints m.cuts), .lst (fl 1) (ints m.embed), .lst (fl 2) (ints m.place), .lst (fl 3) (ints m.mix), .lst (fl 4) (ints m.out), .lst (fl 5) (ints m.soft), .lst (fl 6) (ints m.odds)]], .row 3 1 (ints (wfold m sc (mapR vo fun _ => 0) L))]) (by simp) (by simp [hwl]) (ints_cells _)
    have htt : List.take vo (List.drop 0 (ints (wfold m sc (mapR vo fun _ => 0) L))) = ints (wfold m sc (mapR vo fun _ => 0) L) := by rw [List.drop_zero]; exact List.take_of_length_le (by simp [hwl])
    rw [htt] at hfr
    exact ⟨_, hfr, Keep0.low (Keep0.refl _), hKl false⟩
end
end Go.Proofs.YtadkhechobeccaaGreatDoor.Vm
namespace Go.Proofs.YtadkhechobeccaaGreatDoor.Vm
open Go.RowKit Go.Sort
section
variable {T : Tbl} {M : Nat → Bool} {st : St} {K : V → St → Prop} {Kp : List PanicEntry → St → Prop} {m : Nat}
theorem encs_nums (d : Array (_root_.Fin (m + 1))) : encs encN d = ints (d.toList.map fun i => (i.val : Int)) := by
  unfold encs ints
  rw [List.map_map]
  rfl
theorem enter_ref : ∀ args w, (callFunc 72 args).run Tryz.prog w = .ok (.enter 72 args) w := fun _ _ => by kernel_rfl
theorem enter_pro : ∀ args w, (callFunc 93 args).run Tryz.prog w = .ok (.enter 93 args) w := fun _ _ => by kernel_rfl
theorem at_sc {sc : List Int} (hsc : sc.length = m + 1) (x : _root_.Fin (m + 1)) : sc[x.val]? = some (gI sc x.val) := by
  have h : x.val < sc.length := by omega
  simp [gI, h]
theorem lays_ref {sc : List Int} (hsc : sc.length = m + 1) {w : World} {g c sb so cap : Nat} (hcg : c ≠ g) (hcw : c < w.heap.size) (hc : w.cell? ⟨c, 0, none⟩ = some (.slice (some ⟨sb, so, none⟩) sc.length cap)) (hsg : sb ≠ g) (hsw : sb < w.heap.size) (hs : ∀ i x, sc[i]? = some x → w.cell? ⟨sb, so + i, none⟩ = some (.int .i64 x)) (hn : m + 1 < 4611686018427387904) :
    CmpLays1 Tryz.prog 72 #[.pointer (some ⟨c, 0, none⟩)] (encN (m := m)) (refC (m := m) sc) g 0 (row0 m).size w := fun q os dk _ x y => by
  have h := ranked1_any x.val y.val (gI sc x.val) (gI sc y.val) sc.length cap c sb so (sortWorld encN w g 0 q dk os) (by rw [sort_other hcg hcw]; exact hc) (by omega) (by omega) (by omega) (by rw [sort_other hsg hsw]; exact hs _ _ (at_sc hsc x)) (by rw [sort_other hsg hsw]; exact hs _ _ (at_sc hsc y))
  exact h
theorem lays_pro {sc : List Int} (hsc : sc.length = m + 1) {w : World} {g c sb so cap : Nat} (hcg : c ≠ g) (hcw : c < w.heap.size) (hc : w.cell? ⟨c, 0, none⟩ = some (.slice (some ⟨sb, so, none⟩) sc.length cap)) (hsg : sb ≠ g) (hsw : sb < w.heap.size) (hs : ∀ i x, sc[i]? = some x → w.cell? ⟨sb, so + i, none⟩ = some (.int .i64 x)) :
    CmpLays1 Tryz.prog 93 #[.pointer (some ⟨c, 0, none⟩)] (encN (m := m)) (proC (m := m) sc) g 0 (row0 m).size w := fun q os dk _ x y => by
  have h := rank1_any x.val y.val (gI sc x.val) (gI sc y.val) sc.length cap c sb so (sortWorld encN w g 0 q dk os) (by rw [sort_other hcg hcw]; exact hc) (by omega) (by omega) (by rw [sort_other hsg hsw]; exact hs _ _ (at_sc hsc x)) (by rw [sort_other hsg hsw]; exact hs _ _ (at_sc hsc y))
  exact h.mono fun _ _ ⟨he, p, hw⟩ => ⟨he, p, #[], by rw [hw, grow_empty]⟩
theorem fn_ptr {E : Env} {w : World} {g b' : Nat} {u : Value} (h : Rel E st w (.fn g [.ptr b' 1 0 0]) u) : ∃ p, u = .func (.func g) #[] #[p] ∧ Rel E st w (.ptr b' 1 0 0) p := by
  cases h with
  | pure h => cases h
  | fn _ _ us hn hr =>
    match us, hn with
    | [p], _ => exact ⟨p, rfl, hr 0 _ p rfl rfl⟩
theorem sortRef_v {b b' t t' : Nat} {v : V} {sc : List Int} (hv : Src st b v sc) (hsc : sc.length = m + 1) (hm : m + 1 < 4611686018427387904) (hb : st[b]? = some (.row t 1 (ints (idxs (m + 1))))) (hb' : st[b']? = some (.row t' 1 [v])) (hne : b' ≠ b) (hM : M b = true) (hK : ∀ l, IsRank sc (m + 1) l → K (.tup []) (st.set b (.row t 1 (ints l)))) :
    CallV Tryz.prog T M 71 [.own b (m + 1) 0 (m + 1), .fn 72 [.ptr b' 1 0 0]] st K Kp := by
  have hn := row0_size (m := m)
  rw [← row0_nums, ← encs_nums] at hb
  have H := CallV.sorted (P := Tryz.prog) (T := T) (M := M) (K := K) (Kp := Kp) (f := 71) (g := 72) (caps := [.ptr b' 1 0 0]) (d := row0 m) (R := fun d' => IsRank sc (m + 1) (d'.toList.map fun i => (i.val : Int))) [] (by kernel_rfl) (fun _ => rfl) hb (by omega) hM (fun B w0 E w u cap hR hu hap hnz hH hbs => by
    obtain ⟨p, rfl, hp⟩ := fn_ptr hu
    obtain ⟨sb, so, cap', rfl, hκ, hcs, hc, hsg, hsw, hs⟩ := box_sees hR hv hap hnz hb' hp (by omega)
    refine (Tryz.slices_SortFunc encN (fun _ => rfl) (refC sc) (swo_ref sc) 72 _ (E.φ b) 0 cap (row0 m) w enter_ref (lays_ref hsc (hap b' t' 1 _ hb' hne hκ) hcs hc hsg hsw hs hm) hH hbs (by omega)).mono ?_
    rintro e w' ⟨he, d', n, os, hP, hS, hw⟩
    rw [hn] at hP hS
    exact ⟨he, d', n, os, rank_of hP hS, hP.1, hw⟩) (fun d' hR _ => by rw [encs_nums]; exact hK _ hR)
  rw [hn] at H
  exact H
theorem insSort_v {b b' t t' : Nat} {v : V} {sc : List Int} (hv : Src st b v sc) (hsc : sc.length = m + 1) (hm : m + 1 < 4611686018427387904) (hb : st[b]? = some (.row t 1 (ints (idxs (m + 1))))) (hb' : st[b']? = some (.row t' 1 [v])) (hne : b' ≠ b) (hM : M b = true) (hK : ∀ l, IsRank sc (m + 1) l → K (.tup []) (st.set b (.row t 1 (ints l)))) :
    CallV Tryz.prog T M 132 [.own b (m + 1) 0 (m + 1), I 0, I ((m + 1 : Nat) : Int), .fn 93 [.ptr b' 1 0 0]] st K Kp := by
  have hn := row0_size (m := m)
  rw [← row0_nums, ← encs_nums] at hb
  have H := CallV.sorted (P := Tryz.prog) (T := T) (M := M) (K := K) (Kp := Kp) (f := 132) (g := 93) (caps := [.ptr b' 1 0 0]) (d := row0 m) (R := fun d' => IsRank sc (m + 1) (d'.toList.map fun i => (i.val : Int))) [.int .i64 0, .int .i64 ((m + 1 : Nat) : Int)] (by kernel_rfl) (fun _ => rfl) hb (by omega) hM (fun B w0 E w u cap hR hu hap hnz hH hbs => by
    obtain ⟨p, rfl, hp⟩ := fn_ptr hu
    obtain ⟨sb, so, cap', rfl, hκ, hcs, hc, hsg, hsw, hs⟩ := box_sees hR hv hap hnz hb' hp (by omega)
    refine (Tryz.insertionSortCmpFunc_s encN (proC sc) 93 _ (E.φ b) 0 cap 0 (m + 1) (row0 m) (row0 m) w w enter_pro (lays_pro hsc (hap b' t' 1 _ hb' hne hκ) hcs hc hsg hsw hs) ⟨fun _ => rfl, hH, hbs⟩ rfl (SW.start hH) (Nat.zero_le _) (by omega) (by omega)).mono ?_
    rintro e w' ⟨he, n, os, hw⟩
    have hp := insertionSort_holds (lt := ltOf (refC (m := m) sc)) (swo_ref sc) (row0 m) 0 (m + 1) (Nat.zero_le _) (by omega)
    exact ⟨he, _, n, os, rank_pro sc, by rw [sort_congr]; exact hp.1.1, hw⟩) (fun d' hR _ => by rw [encs_nums]; exact hK _ hR)
  rw [hn] at H
  exact H
end
end Go.Proofs.YtadkhechobeccaaGreatDoor.Vm
namespace Go.Proofs.YtadkhechobeccaaGreatDoor.Vm
open Go.RowKit
section
variable {T : Tbl} {M : Nat → Bool} {st : St} {K : V → St → Prop} {Kp : List PanicEntry → St → Prop} {m : Nat}
set_option maxRecDepth 10000 in
theorem stable_v {b b' t t' : Nat} {v : V} {sc : List Int} (hv : Src st b v sc) (hsc : sc.length = m + 1) (hm : m + 1 ≤ 16) (hb : st[b]? = some (.row t 1 (ints (idxs (m + 1))))) (hb' : st[b']? = some (.row t' 1 [v])) (hne : b' ≠ b) (hM : M b = true) (hK : ∀ l, IsRank sc (m + 1) l → K (.tup []) (st.set b (.row t 1 (ints l)))) :
    CallV Tryz.prog T M 112 [.own b (m + 1) 0 (m + 1), I ((m + 1 : Nat) : Int), .fn 93 [.ptr b' 1 0 0]] st K Kp := by
  obtain ⟨n, hn⟩ : ∃ n, m + 1 = n := ⟨_, rfl⟩
  refine fun_ok hmix c_stableCmp (le_of rfl) ?_
  simp [F_stableCmp, hn, -Int.natCast_add]
  refine wp_mloop (fun fr s => s = st ∧ fr.df = [] ∧ fr.g 0 = .own b n 0 n ∧ fr.g 1 = I n ∧ fr.g 2 = .fn 93 [.ptr b' 1 0 0] ∧ fr.g 6 = I 20 ∧ fr.g 7 = I 0 ∧ fr.g 8 = I 20) (fun _ _ => 0) (by simp) ?_
  rintro fr s ⟨rfl, hdf, z0, z1, z2, z6, z7, z8⟩
  simp [z8, z1, show ¬ (20 : Int) ≤ n by omega]
  simp [z0, z2, z7]
  subst hn
  refine insSort_v hv hsc (by omega) hb hb' hne (by simp [upM, hM]) fun l hl => ?_
  simp
  refine wp_mloop (fun fr s' => s' = s.set b (.row t 1 (ints l)) ∧ fr.df = [] ∧ fr.g 1 = I ((m + 1 : Nat) : Int) ∧ fr.g 6 = I 20) (fun _ _ => 0) (by simp [z6, z1, hdf]) ?_
  clear z0 z1 z2 z6 z7 z8 hdf
  rintro fr s' ⟨rfl, hdf, z1, z6⟩
  simp [z6, z1, hdf, -Int.natCast_add, show ¬ (20 : Int) < ((m + 1 : Nat) : Int) by omega]
  exact hK l hl
set_option maxRecDepth 10000 in
theorem sortStable_v {b b' t t' : Nat} {v : V} {sc : List Int} (hv : Src st b v sc) (hsc : sc.length = m + 1) (hm : m + 1 ≤ 16) (hb : st[b]? = some (.row t 1 (ints (idxs (m + 1))))) (hb' : st[b']? = some (.row t' 1 [v])) (hne : b' ≠ b) (hM : M b = true) (hK : ∀ l, IsRank sc (m + 1) l → K (.tup []) (st.set b (.row t 1 (ints l)))) :
    CallV Tryz.prog T M 92 [.own b (m + 1) 0 (m + 1), .fn 93 [.ptr b' 1 0 0]] st K Kp := by
  refine fun_ok hmix c_sortStable (le_of rfl) ?_
  have hil : (ints (idxs (m + 1))).length = m + 1 := by simp
  simp [F_sortStable, hb, hil, -Int.natCast_add]
  exact stable_v hv hsc hm hb hb' hne (by simp [upM, hM]) fun l hl => hK l hl
theorem set_step (n k : Nat) : (mapR n fun i => if i < k then (i : Int) else 0).set k (k : Int) = mapR n fun i => if i < k + 1 then (i : Int) else 0 := by
  refine List.ext_getElem (by simp) fun i h1 h2 => ?_
  rw [List.getElem_set]
  simp only [mapR, List.getElem_map, List.getElem_range]
  by_cases e : k = i
  · subst e; simp
  · rw [if_neg e]
    by_cases h : i < k
    · rw [if_pos h, if_pos (by omega)]
    · rw [if_neg h, if_neg (by omega)]
theorem all_set (n : Nat) : (mapR n fun i => if i < n then (i : Int) else 0) = idxs n := by
  refine List.ext_getElem (by simp) fun i h1 h2 => ?_
  have : i < n := by simpa using h1
  simp [idxs, mapR, this]
theorem ranked_ok : RankOk 38 := by
  intro T M st K Kp v sc k hv h1 h16 hk1 hk hK
  have hcv : v.cells = [v] := by rcases hv with ⟨f, rfl⟩ | ⟨b2, t2, rfl, -⟩ <;> rfl
  have hlv : v.leaf = true := by rcases hv with ⟨f, rfl⟩ | ⟨b2, t2, rfl, -⟩ <;> rfl
  have hlen := (hv.more [.row 22 1 [v]]).len
  obtain ⟨n, hn⟩ : ∃ n, sc.length = n := ⟨_, rfl⟩
  rw [hn] at h1 h16 hk hlen
  refine CallV.give (fun_ok hmix c_ranked (le_of rfl) ?_)
  simp [F_ranked, hcv, hlv, allLeaf, hlen]
  obtain ⟨s0, hs0⟩ : ∃ s0, s0 = st ++ [Blk.row 22 1 [v]] := ⟨_, rfl⟩
  have hsl : s0.length = st.length + 1 := by rw [hs0]; simp
  have hMb : s0[st.length]? = some (.row 22 1 [v]) := by rw [hs0]; simp
  rw [← hs0]
  refine wp_mloop (fun fr s => ∃ j : Nat, j ≤ n ∧ Keep0 s0 s ∧ OutS s0.length 3 1 s (fr.g 5) (ints (idxs j)) ∧ fr.df = [] ∧ fr.g 1 = I k ∧ fr.g 2 = .ptr st.length 1 0 0 ∧ fr.g 8 = I n ∧ fr.g 9 = I j) (fun fr _ => n - nat (fr.g 9))
    ⟨0, by omega, Keep0.refl _, by simpa [idxs, mapR, ints] using OutS.nil _ _ _ _, by simp, by simp, by simp, by simp, by simp⟩ ?_
  rintro fr s ⟨j, hj, hkp, ho, hdf, z1, z2, z8, z9⟩
  by_cases hlt : j < n
  · have hw1 : IntKind.i64.wrap ((j : Int) + 1) = ((j + 1 : Nat) : Int) := by rw [w64 (n := (j : Int) + 1) (by omega) (by omega)]; push_cast; rfl
    simp [z8, z9, hlt]
    refine app_one ho hkp (fun b hb q => by have := (ho.lt b hb).1; simp [liftM, upM]; omega) (by simp; omega) fun v' s' ho' hk' => ?_
    simp only [hw1]
    exact ⟨⟨j + 1, hlt, hk', by rw [idxs_succ]; exact ho', hdf, z1, z2, rfl⟩, by simp; omega⟩
  · obtain rfl : j = n := by omega
    rcases ho with ⟨hnil, -⟩ | ⟨b, hb1, hb2, hb3⟩
    · have := congrArg List.length hnil
      simp at this
      omega
    obtain ⟨m, rfl⟩ : ∃ m, j = m + 1 := ⟨j - 1, by omega⟩
    simp at hb3
    have hb4 := hkp.at_ hMb
    simp [z8, z9, hb3, z2, -Int.natCast_add]
    have hsrc : Src s b v sc := by
      rcases hv with ⟨f, rfl⟩ | ⟨b2, t2, rfl, h2⟩
      · exact Or.inl ⟨f, rfl⟩
      · have hlt2 : b2 < st.length := (List.getElem?_eq_some_iff.1 h2).1
        exact Or.inr ⟨b2, t2, rfl, by omega, (hkp.get b2 (by omega)).trans (by rw [hs0, List.getElem?_append_left hlt2]; exact h2)⟩
    refine sortRef_v hsrc hn (by omega) hb2 hb4 (by omega) (by simp [upM]; omega) fun l hl => ?_
    have hll := hl.len
    have hbl : b < s.length := (List.getElem?_eq_some_iff.1 hb2).1
    have hset : (s.set b (.row 3 1 (ints l)))[b]? = some (.row 3 1 (ints l)) := List.getElem?_set_self hbl
    have hkq : Keep0 s0 (s.set b (.row 3 1 (ints l))) := hkp.trans (by simp) fun q hq => List.getElem?_set_ne (by omega)
    simp [z1, hk, hll, hset]
    have hfr := Frz.row (n := st.length) b (m + 1) 0 k 3 1 (ints l) (by omega) (st := s.set b (.row 3 1 (ints l))) hset (by simp [hll]) (ints_cells _)
    rw [List.drop_zero, ints_take] at hfr
    rw [hs0] at hkq
    exact ⟨hdf, _, hfr, hkq.low, by rw [hkq.take]; exact hK false l (by rw [hn]; exact hl)⟩
end
end Go.Proofs.YtadkhechobeccaaGreatDoor.Vm
namespace Go.Proofs.YtadkhechobeccaaGreatDoor.Vm
open Go.RowKit
@[simp ↓] theorem ob_slz {T : Tbl} {M : Nat → Nat → Bool} {fr : Fr} {st : St} {K : V → St → Prop} (k : Nat) (x : Od) (l : Option Od) (h m : Od) : obind2 (mEff T M (.slf k x l h m) fr st) K = obind (x.ev T fr) fun x => obind (evo T fr 0 l) fun l => obind (evo T fr 0 (some h)) fun h => obind (evo T fr 0 (some m)) fun m => obind2 (slzV k st l h m x) K := by simp [mEff]
theorem rank_ok : RankOk 65 := by
  intro T M st K Kp v sc k hv h1 h16 hk1 hk hK
  have hcv : v.cells = [v] := by rcases hv with ⟨f, rfl⟩ | ⟨b2, t2, rfl, -⟩ <;> rfl
  have hlv : v.leaf = true := by rcases hv with ⟨f, rfl⟩ | ⟨b2, t2, rfl, -⟩ <;> rfl
  have hlen := (hv.more [.row 22 1 [v]]).len
  obtain ⟨n, hn⟩ : ∃ n, sc.length = n := ⟨_, rfl⟩
  rw [hn] at h1 h16 hk hlen
  refine CallV.give (fun_ok hmix c_rank (le_of rfl) ?_)
  simp [F_rank, hcv, hlv, allLeaf, hlen]
  refine ⟨by omega, ?_⟩
  rw [rep_ints]
  refine wp_mloop (fun fr s => ∃ j : Nat, j ≤ n ∧ s = st ++ [.row 22 1 [v], .row 3 1 (ints (mapR n fun i => if i < j then (i : Int) else 0))] ∧ fr.df = [] ∧ fr.g 1 = I k ∧ fr.g 2 = .ptr st.length 1 0 0 ∧ fr.g 5 = .own (st.length + 1) n 0 n ∧ fr.g 11 = I n ∧ fr.g 12 = I j) (fun fr _ => n - nat (fr.g 12))
    ⟨0, by omega, by simp, by simp, by simp, by simp, by simp, by simp, by simp⟩ ?_
  rintro fr s ⟨j, hj, rfl, hdf, z1, z2, z5, z11, z12⟩
  by_cases hlt : j < n
  · have hst := set_step n j
    have hwl : (mapR n fun i => if i < j then (i : Int) else 0).length = n := mapR_len _ _
    have hw1 : IntKind.i64.wrap ((j : Int) + 1) = ((j + 1 : Nat) : Int) := by rw [w64 (n := (j : Int) + 1) (by omega) (by omega)]; push_cast; rfl
    generalize (mapR n fun i => if i < j then (i : Int) else 0) = acc at *
    have hal := fun hk => ints_get' (List.getElem?_eq_getElem (show j < acc.length by omega)) hk
    simp [z11, z12, hlt]
    simp [z5, hlt, hwl, hal, ints_set, hw1, -Int.natCast_add]
    exact ⟨⟨j + 1, hlt, by rw [hst], hdf, z1, z2, rfl⟩, by omega⟩
  · obtain rfl : j = n := by omega
    rw [all_set]
    simp [z11, z12, z5, z2]
    obtain ⟨m, rfl⟩ : ∃ m, j = m + 1 := ⟨j - 1, by omega⟩
    have hsrc : Src (st ++ [.row 22 1 [v], .row 3 1 (ints (idxs (m + 1)))]) (st.length + 1) v sc := by
      rcases hv with ⟨f, rfl⟩ | ⟨b2, t2, rfl, h2⟩
      · exact Or.inl ⟨f, rfl⟩
      · have hlt2 : b2 < st.length := (List.getElem?_eq_some_iff.1 h2).1
        exact Or.inr ⟨b2, t2, rfl, by omega, by rw [List.getElem?_append_left hlt2]; exact h2⟩
    refine sortStable_v hsrc hn h16 (b := st.length + 1) (b' := st.length) (t := 3) (t' := 22) (by simp) (by simp) (by omega) (by simp [upM]) fun l hl => ?_
    have hll := hl.len
    simp only [z1]
    refine Or.inr ?_
    simp [slzV, hk, hll, hdf]
    rw [ints_take]
    exact ⟨⟨by omega, fun x hx y hy => (ints_cells l x hx y hy).2⟩, _, .same _ rfl, Keep0.low (Keep0.refl _), hK true l (by rw [hn]; exact hl)⟩
end Go.Proofs.YtadkhechobeccaaGreatDoor.Vm
namespace Go.Proofs.YtadkhechobeccaaGreatDoor.Vm
open Go.RowKit
section
variable {T : Tbl} {M : Nat → Bool} {st : St} {K : V → St → Prop} {Kp : List PanicEntry → St → Prop}
theorem frz_two {n : Nat} {s : St} {x y : V} (hx : x.pl = true) (hy : y.pl = true) : Frz n s (.tup [x, y]) (.tup [x, y]) := by
  refine .tup _ _ rfl fun i a b ha hb => ?_
  rw [ha] at hb
  cases hb
  match i with
  | 0 => cases ha; exact .same _ (V.leaf_pure hx _)
  | 1 => cases ha; exact .same _ (V.leaf_pure hy _)
end
end Go.Proofs.YtadkhechobeccaaGreatDoor.Vm
namespace Go.Proofs.YtadkhechobeccaaGreatDoor.Vm
open Go.RowKit
theorem sco_word (m : LModel) (w q vo : Nat) (es : List (List Int)) : ∀ x ∈ scoM m w q vo es, -2147483648 ≤ x ∧ x ≤ 2147483647 := fun x hx => by
  unfold scoM mapR at hx
  obtain ⟨i, -, rfl⟩ := List.mem_map.1 hx
  unfold mvM
  exact dotK_rng _ _ _
theorem sco_len (m : LModel) (w q vo : Nat) (es : List (List Int)) : (scoM m w q vo es).length = vo := mapR_len _ _
section
variable {T : Tbl} {M : Nat → Bool} {st : St} {K : V → St → Prop} {Kp : List PanicEntry → St → Prop}
theorem next_m {m : LModel} {w r vo q : Nat} (fl : Nat → Bool) (hg : GenM m) (e : ScS m w r vo q) (hv : m.vocab = (vo : Int)) {vs : List V} {es : List (List Int)} {f : Bool} (hE : EsV vs es (lenW m w)) {draw : Int} (hd : 0 ≤ draw ∧ draw < 4294967296) (hK : ∀ l, IsRank (scoM m w q vo es) vo l → K (I (smpM (wgtM m (scoM m w q vo es) vo m.top.toNat l) draw)) st) : CallV Tryz.prog T M 45 [encM fl m, .lst f vs, I draw] st K Kp := by
  have hv2 := hg.vocab
  have ht2 := hg.top
  refine CallV.give (fun_ok hmix c_mnext (le_of rfl) ?_)
  have hS := fun (M : Nat → Bool) (K : V → St → Prop) (Kp : List PanicEntry → St → Prop) (s : St) => scores_v (T := T) (M := M) (st := s) (K := K) (Kp := Kp) fl e (f := f) hE
  have hW := fun (M : Nat → Bool) (K : V → St → Prop) (Kp : List PanicEntry → St → Prop) (s : St) (g : Bool) => weights_v (T := T) (M := M) (st := s) (K := K) (Kp := Kp) rank_ok fl hg hv (scoM m w q vo es) (Rd.lst s g _) (sco_len _ _ _ _ _) (sco_word _ _ _ _ _)
  unfold encM at hS hW
  simp [F_mnext, encM]
  refine wp_mflat [] [] ?_
  simp
  refine hS _ _ _ _ fun g => ?_
  refine hW _ _ _ _ _ fun g2 l hl => ?_
  refine sample_v _ _ _ (wgt_rng hg _ _ _ _) (by rw [wgtM_len]; omega) (wgt_pos hg (sco_len _ _ _ _ _) (by omega) (by omega) hl) hd ?_
  exact ⟨_, .same _ rfl, Keep0.low (Keep0.refl _), by simpa using hK l hl⟩
end
end Go.Proofs.YtadkhechobeccaaGreatDoor.Vm
namespace Go.Proofs.YtadkhechobeccaaGreatDoor.Vm
open Go.RowKit
open Classical in
noncomputable def rankL (sc : List Int) (n : Nat) : List Int := if h : ∃ l, IsRank sc n l then h.choose else []
theorem IsRank.eq {sc : List Int} {n : Nat} {l : List Int} (h : IsRank sc n l) : l = rankL sc n := by
  have hx : ∃ l, IsRank sc n l := ⟨l, h⟩
  unfold rankL
  rw [dif_pos hx]
  exact h.unique hx.choose_spec
noncomputable def wgL (m : LModel) (sc : List Int) (vo : Nat) : List Int := wgtM m sc vo m.top.toNat (rankL sc vo)
noncomputable def nxtM (m : LModel) (w q vo : Nat) (es : List (List Int)) (draw : Int) : Int := smpM (wgL m (scoM m w q vo es) vo) draw
end Go.Proofs.YtadkhechobeccaaGreatDoor.Vm
namespace Go.Proofs.YtadkhechobeccaaGreatDoor.Vm
open Go.RowKit
theorem GenM.lb {m : LModel} (h : GenM m) : LB 2000 200 m := by
  obtain ⟨h1, h2, h3, h4, h5, h6, ⟨⟨r, r1, r2, r3⟩, h7⟩, ⟨⟨q, q1, q2, -, -, q3⟩, h8⟩, h9, h10, h11⟩ := h
  have hw : 0 ≤ m.vocab * m.width ∧ m.vocab * m.width ≤ 80 := ⟨Int.mul_nonneg (by omega) (by omega), Int.mul_le_mul h2.2 h3.2 (by omega) (by omega)⟩
  have hr : r * m.width ≤ 80 := Int.mul_le_mul r2 h3.2 (by omega) (by omega)
  have hq : q * m.width ≤ 20 ∧ 0 ≤ q * m.width := ⟨Int.mul_le_mul q2 h3.2 (by omega) (by omega), Int.mul_nonneg (by omega) (by omega)⟩
  have hq2 : q * m.width * m.width ≤ 100 := Int.mul_le_mul hq.1 h3.2 (by omega) (by omega)
  have key : ∀ {l : List Int} {a b : Int}, l.length ≤ 200 → -2000 ≤ a → b ≤ 2000 → (∀ x ∈ l, a ≤ x ∧ x ≤ b) → l.length ≤ 200 ∧ ∀ x ∈ l, -2000 ≤ x ∧ x ≤ 2000 := fun hl ha hb h => ⟨hl, fun x hx => by have := h x hx; omega⟩
  refine ⟨fun x hx => ?_, fun l hl => ?_⟩
  · simp at hx
    rcases hx with rfl | rfl | rfl | rfl <;> omega
  · simp at hl
    rcases hl with rfl | rfl | rfl | rfl | rfl | rfl | rfl
    · exact key (by omega) (by omega) (by omega) h5.2
    · exact key (by omega) (by omega) (by omega) h6.2
    · exact key (by omega) (by omega) (by omega) h7
    · exact key (by omega) (by omega) (by omega) h8
    · exact key (by omega) (by omega) (by omega) h9.2
    · exact key (by omega) (by omega) (by omega) h10.2
    · exact key (by omega) (by omega) (by omega) h11.2.1
theorem LB.wide {B B' : Int} {n n' : Nat} {m : LModel} (h : LB B n m) (hB : B ≤ B') (hn : n ≤ n') : LB B' n' m :=
  ⟨fun x hx => by have := h.sc x hx; omega, fun l hl => ⟨by have := (h.ls l hl).1; omega, fun x hx => by have := (h.ls l hl).2 x hx; omega⟩⟩
theorem encM_frz (n : Nat) (s : St) (fl : Nat → Bool) (m : LModel) : Frz n s (encM fl m) (encM fl m) := by
  refine .agg _ _ rfl fun i x y hx hy => ?_
  rw [hx] at hy
  cases hy
  match i with
  | 0 | 1 | 2 | 3 => cases hx; exact .same _ rfl
  | 4 | 5 | 6 | 7 | 8 | 9 | 10 => cases hx; exact .same _ rfl
  | i + 11 => cases hx
section
variable {n sb : Nat} {st s : St} {f : Bool} {xs : List Int} {a : Int} {T : Tbl} {M : Nat → Bool} {K : V → St → Prop} {Kp : List PanicEntry → St → Prop}
theorem gmodel_g (g : GS n sb st s f xs a) (hM : M sb = true) (ha : 0 ≤ a ∧ a ≤ 10000000) (hK : ∀ fl m s' a', GenM m → a ≤ a' → a' ≤ a + 10000 → GS n sb st s' f xs a' → But sb s s' → K (encM fl m) s') : CallV Tryz.prog T M 6 [.ptr sb 1 0 0] s K Kp :=
  gmodel_v sb g.str hM g.src ha fun fl m a' h1 h2 h3 => hK fl m _ a' h1 h2 h3 (g.next _) (But.set _ _ _)
end
end Go.Proofs.YtadkhechobeccaaGreatDoor.Vm
namespace Go.Proofs.YtadkhechobeccaaGreatDoor.Vm
open Go.RowKit
section
variable {P : Program} {T : Tbl} {M : Nat → Bool} {st : St} {K : V → St → Prop} {Kp : List PanicEntry → St → Prop} {E : Env} {w : World}
theorem CallV.of_read {f : Nat} {args : List V} {uV : V} {u : Value} {G : World → List Value → Prop} (hx : entersX P f = true) (hG : ∀ B w0 E w us, Below B w0 w → T.pin B w0 → Pw E st w args us → G w us) (h : ∀ w us, G w us → Calls P f us.toArray w fun e w' => e = .returned u ∧ Below w.heap.size w w') (hr : ∀ E w, Rel E st w uV u) (hK : K uV st) : CallV P T M f args st K Kp := by
  refine ⟨hx, fun B w0 E w us' hR hT hu => ?_⟩
  refine (h w us' (hG B w0 E w us' hR.below hT.2 hu)).mono fun e w' ⟨h1, h2⟩ => ?_
  subst h1
  obtain ⟨g1, g2⟩ := Rep.idle (M := fun b _ => M b) hR (w' := w') ⟨h2.os, h2.tape, h2.output, h2.size, fun k hk _ => h2.block k hk⟩
  exact ⟨E, st, uV, g1, g2, hr _ _, hK⟩
theorem rints_of {f : Bool} {l : List Int} {u : Value} (h : Rel E st w (.lst f (ints l)) u) (hl : l.length ≤ 1000000) : RInts w.cell? u l := by
  obtain ⟨xs, hxs⟩ : ∃ xs, ints l = xs := ⟨_, rfl⟩
  rw [hxs] at h
  have hlen : xs.length = l.length := by rw [← hxs]; simp [ints]
  cases h with
  | pure h => cases h with
    | nil _ A c h =>
      have hl0 : l.length = 0 := by rw [← hlen]; rfl
      exact ⟨A, c, by rw [hl0], by omega, h.2, hl, fun h0 => by omega⟩
    | lst _ _ p n c k us hn hc hf hs hZ hk hlf hw hr =>
      refine ⟨some p, c, by rw [← hn, hlen], by omega, hc.2, hl, fun h0 => ?_⟩
      obtain ⟨pb, po, ps⟩ := p
      simp only at hs
      subst hs
      refine ⟨pb, po, rfl, fun i x hx => ?_⟩
      have hxi : xs[i]? = some (I x) := by rw [← hxs]; simp [ints, hx]
      have h1 : 1 = k := hk i _ hxi
      subst h1
      have h2 := hw i _ hxi 0 (I x) rfl
      have h3 := hr i _ hxi 0 (I x) rfl
      have h4 : us i 0 = .int .i64 x := by
        generalize us i 0 = q at h3
        cases h3
        rfl
      rw [h4] at h2
      simpa [RInt] using h2
theorem vmodel_of {fl : Nat → Bool} {m : LModel} {v : Value} (h : Rel E st w (encM fl m) v) (hl : ∀ l ∈ listsM m, l.length ≤ 1000000) : VModel w.cell? v m := by
  unfold encM at h
  cases h with
  | pure h => cases h
  | agg l us hn hr =>
    match us, hn with
    | [u0, u1, u2, u3, u4, u5, u6, u7, u8, u9, u10], _ =>
      have e0 := (hr 0 _ _ rfl rfl).lit
      have e1 := (hr 1 _ _ rfl rfl).lit
      have e2 := (hr 2 _ _ rfl rfl).lit
      have e3 := (hr 3 _ _ rfl rfl).lit
      subst e0 e1 e2 e3
      exact ⟨_, _, _, _, _, _, _, rfl, rints_of (hr 4 _ _ rfl rfl) (hl _ (by simp [listsM])), rints_of (hr 5 _ _ rfl rfl) (hl _ (by simp [listsM])), rints_of (hr 6 _ _ rfl rfl) (hl _ (by simp [listsM])), rints_of (hr 7 _ _ rfl rfl) (hl _ (by simp [listsM])), rints_of (hr 8 _ _ rfl rfl) (hl _ (by simp [listsM])), rints_of (hr 9 _ _ rfl rfl) (hl _ (by simp [listsM])), rints_of (hr 10 _ _ rfl rfl) (hl _ (by simp [listsM]))⟩
end
end Go.Proofs.YtadkhechobeccaaGreatDoor.Vm
namespace Go.Proofs.YtadkhechobeccaaGreatDoor.Vm
open Go.RowKit
def TW : Tbl := ⟨fun _ => none, fun B w0 => 2 < B ∧ Tabs w0⟩
section
variable {T : Tbl} {M : Nat → Bool} {st : St} {K : V → St → Prop} {Kp : List PanicEntry → St → Prop} {E : Env} {w : World}
theorem pw1 {a : V} {us : List Value} (h : Pw E st w [a] us) : ∃ u, us = [u] ∧ Rel E st w a u := by
  obtain ⟨h1, h2⟩ := h
  match us, h1 with
  | [u], _ => exact ⟨u, rfl, h2 0 a u rfl rfl⟩
theorem pw0 {us : List Value} (h : Pw E st w [] us) : us = [] := List.eq_nil_of_length_eq_zero h.1
theorem works_m (hK : K (Bo true) st) : CallV Tryz.prog TW M 12 [] st K Kp :=
  CallV.of_read (uV := Bo true) (u := .bool true) (G := fun w us => us = [] ∧ Tabs w) (by kernel_rfl) (fun B w0 E w us hb hp hu => ⟨pw0 hu, hp.2.below hp.1 hb⟩) (fun w us ⟨h1, h2⟩ => by subst h1; exact works_any w h2) (fun E w => .pure (.val _)) hK
theorem LB.lens {B : Int} {n : Nat} {m : LModel} (h : LB B n m) : ∀ l ∈ listsM m, l.length ≤ n := fun l hl => (h.ls l (by simpa [listsM] using hl)).1
theorem LB.sum4 {B : Int} {n : Nat} {m : LModel} (h : LB B n m) : sumLen [m.embed, m.place, m.mix, m.out] ≤ 4 * n := by
  have h1 := h.lens m.embed (by simp [listsM])
  have h2 := h.lens m.place (by simp [listsM])
  have h3 := h.lens m.mix (by simp [listsM])
  have h4 := h.lens m.out (by simp [listsM])
  simp [sumLen]; omega
theorem LB.sum2 {B : Int} {n : Nat} {m : LModel} (h : LB B n m) : sumLen [m.soft, m.odds] ≤ 2 * n := by
  have h1 := h.lens m.soft (by simp [listsM])
  have h2 := h.lens m.odds (by simp [listsM])
  simp [sumLen]; omega
theorem gvm {B : Int} {n : Nat} {fl : Nat → Bool} {m : LModel} (hb : LB B n m) (hn : n ≤ 2000) {us : List Value} (hu : Pw E st w [encM fl m] us) : ∃ v, us = [v] ∧ VModel w.cell? v m := by
  obtain ⟨v, rfl, h1⟩ := pw1 hu
  exact ⟨v, rfl, vmodel_of h1 fun l hl => by have := hb.lens l hl; omega⟩
variable {B : Int} {n : Nat} (fl : Nat → Bool) (m : LModel)
theorem check_m (hb : LB B n m) (hn : n ≤ 2000) (hK : K (I (chkM m)) st) : CallV Tryz.prog T M 30 [encM fl m] st K Kp :=
  CallV.of_read (uV := I (chkM m)) (u := .int .i64 (chkM m)) (G := fun w us => ∃ v, us = [v] ∧ VModel w.cell? v m) (by kernel_rfl) (fun _ _ _ _ _ _ _ hu => gvm hb hn hu) (fun w us ⟨v, h1, h2⟩ => by
    subst h1; exact mcheck_any m v w h2 (by have := hb.sum4; omega)) (fun E w => .pure (.val _)) hK
end
theorem prel_li {w : World} {v : Value} {xs : List Int} (h : LI w v xs) : PRel (fun b => b < w.heap.size) w (.lst false (ints xs)) v := by
  obtain ⟨⟨A, c, rfl, h1, h2, h3⟩, -, -⟩ := h
  rw [i64s_length] at h1 h3 ⊢
  rcases Nat.eq_zero_or_pos xs.length with h0 | h0
  · obtain rfl : xs = [] := List.eq_nil_of_length_eq_zero h0
    exact .nil false A c ⟨by simp, h2⟩
  · obtain ⟨b, o, rfl, hc⟩ := h3 h0
    have cellI : ∀ i, i < xs.length → w.cell? ⟨b, o + i, none⟩ = some (.int .i64 (xs[i]?.getD 0)) := fun i hi => hc i _ (i64s_at hi)
    refine .lst false (ints xs) ⟨b, o, none⟩ xs.length c 1 (fun i _ => .int .i64 (xs[i]?.getD 0)) (by simp) ⟨h1, h2⟩ (by simp) rfl (World.block_lt_of_cell? w _ (cellI 0 h0)) ?_ ?_ ?_ ?_
    · intro i x hx
      obtain ⟨y, -, rfl⟩ := List.mem_map.1 (List.mem_of_getElem? hx)
      rfl
    · intro i x hx j y hy
      obtain ⟨z, -, rfl⟩ := List.mem_map.1 (List.mem_of_getElem? hx)
      simp at hy
      obtain ⟨-, rfl⟩ := List.getElem?_eq_some_iff.1 hy
      match j with
      | 0 => rfl
    · intro i x hx j y hy
      have hi : i < xs.length := by have := (List.getElem?_eq_some_iff.1 hx).1; simpa using this
      obtain ⟨z, -, rfl⟩ := List.mem_map.1 (List.mem_of_getElem? hx)
      match j, hy with
      | 0, _ => exact (by rw [Nat.mul_one, Nat.add_zero] : (⟨b, o + (i * 1 + 0), none⟩ : Addr) = ⟨b, o + i, none⟩) ▸ cellI i hi
    · intro i x hx j y hy
      have hi : i < xs.length := by have := (List.getElem?_eq_some_iff.1 hx).1; simpa using this
      have hx' : x = I (xs[i]?.getD 0) := by
        rw [ints_get (List.getElem?_eq_getElem hi)] at hx
        cases hx
        simp [hi]
      subst hx'
      match j, hy with
      | 0, hy => cases hy; exact .val _
theorem seq_cut {P : Program} {T : Tbl} {M : Nat → Nat → Bool} {st : St} {Q : Post} {K : Fr → St → Prop} {fr : Fr} {ms : List MO} (n : Nat) (h : ∀ L, L = ms.drop n → seqV P T M Q K (ms.take n ++ L) fr st) : seqV P T M Q K ms fr st := by
  have := h _ rfl
  rwa [List.take_append_drop] at this
def MC.ops : MC → List MO
  | .lst ms => ms
  | .flat ms => ms
  | _ => []
end Go.Proofs.YtadkhechobeccaaGreatDoor.Vm
namespace Go.Proofs.YtadkhechobeccaaGreatDoor.Vm
open Go.RowKit
def badW (n : Int) : Bool := decide (n < -2147483648) || decide (2147483647 < n)
section
variable {T : Tbl} {M : Nat → Bool} {st : St} {K : V → St → Prop} {Kp : List PanicEntry → St → Prop}
theorem isWord_v (n : Int) (hK : K (Bo (!badW n)) st) : CallV Tryz.prog T M 57 [I n] st K Kp := by
  have e : inB (-2147483648) 2147483647 n = !badW n := by
    unfold inB badW
    by_cases h1 : n < -2147483648 <;> by_cases h2 : 2147483647 < n <;> simp [h1, h2] <;> omega
  refine fun_ok hmix c_isWord (le_of rfl) ?_
  simp [F_isWord]
  refine within_v _ _ _ ?_
  rw [e]
  exact hK
end
end Go.Proofs.YtadkhechobeccaaGreatDoor.Vm
namespace Go.Proofs.YtadkhechobeccaaGreatDoor.Vm
open Go.RowKit
theorem But.trans {sb : Nat} {s s1 s2 : St} (h : But sb s s1) (k : But sb s1 s2) : But sb s s2 := ⟨k.1.trans h.1, fun b hb => (k.2 b hb).trans (h.2 b hb)⟩
def isW (x : Int) : Prop := -2147483648 ≤ x ∧ x ≤ 2147483647
section
variable {n sb : Nat} {st s : St} {f : Bool} {xs : List Int} {a : Int} {T : Tbl} {M : Nat → Bool} {K : V → St → Prop} {Kp : List PanicEntry → St → Prop}
theorem next_g2 (g : GS n sb st s f xs a) (hM : M sb = true) (ha : 0 ≤ a ∧ a ≤ 1000000000) (k : Int) (hk : 1 ≤ k ∧ k ≤ 9223372036854775807) (hK : ∀ r s', 0 ≤ r → r < k → GS n sb st s' f xs (a + 1) → But sb s s' → K (I r) s') : CallV Tryz.prog T M 10 [.ptr sb 1 0 0, I k] s K Kp :=
  next_v sb f xs a k g.str hM g.src.1 g.src.2 ha (by omega) fun r _ h2 => hK r _ (h2 hk.1).1 (h2 hk.1).2 (g.next _) (But.set _ _ _)
theorem word_g (g : GS n sb st s f xs a) (hM : M sb = true) (ha : 0 ≤ a ∧ a ≤ 100000000) (hK : ∀ r s' a', isW r → a ≤ a' → a' ≤ a + 3 → GS n sb st s' f xs a' → But sb s s' → K (I r) s') : CallV Tryz.prog T M 8 [.ptr sb 1 0 0] s K Kp := by
  refine fun_ok hmix c_sWord (le_of rfl) ?_
  have hup : upM s.length M sb = true := upM_of hM
  simp [F_sWord]
  refine next_g g hup (by omega) 6 (by omega) fun z s1 z0 z6 g1 b1 => ?_
  by_cases h0 : z = 0
  · simp [h0]
    refine next_g g1 hup (by omega) 3 (by omega) fun r s2 r0 r3 g2 b2 => ?_
    simp [w64 (n := -2147483648 + r) (by omega) (by omega)]
    exact hK _ s2 (a + 1 + 1) ⟨by omega, by omega⟩ (by omega) (by omega) g2 (b1.trans b2)
  · have hb0 : (z == 0) = false := by simpa using h0
    by_cases h1 : z = 1
    · simp [h1]
      refine next_g g1 hup (by omega) 3 (by omega) fun r s2 r0 r3 g2 b2 => ?_
      simp [w64 (n := 2147483647 - r) (by omega) (by omega)]
      exact hK _ s2 (a + 1 + 1) ⟨by omega, by omega⟩ (by omega) (by omega) g2 (b1.trans b2)
    · have hb1 : (z == 1) = false := by simpa using h1
      by_cases h2 : z = 2
      · simp [h2]
        refine next_g2 g1 hup (by omega) 1073741824 (by omega) fun r s2 r0 r3 g2 b2 => ?_
        simp [w64 (n := r * 4) (by omega) (by omega)]
        refine next_g g2 hup (by omega) 4 (by omega) fun r' s3 q0 q3 g3 b3 => ?_
        simp [w64 (n := r * 4 + r') (by omega) (by omega), w64 (n := r * 4 + r' + -2147483648) (by omega) (by omega)]
        exact hK _ s3 (a + 1 + 1 + 1) ⟨by omega, by omega⟩ (by omega) (by omega) g3 ((b1.trans b2).trans b3)
      · have hb2 : (z == 2) = false := by simpa using h2
        simp [hb0, hb1, hb2]
        refine range_g g1 hup (by omega) (-9) 9 (by omega) (by omega) (by omega) fun r s2 r0 r3 g2 b2 => ?_
        exact hK _ s2 (a + 1 + 1) ⟨by omega, by omega⟩ (by omega) (by omega) g2 (b1.trans b2)
end
section
variable {n sb : Nat} {st s : St} {f : Bool} {xs : List Int} {a : Int} {T : Tbl} {M : Nat → Bool} {K : V → St → Prop} {Kp : List PanicEntry → St → Prop}
theorem ESnoc {vs : List V} {es : List (List Int)} (hl : vs.length = es.length) (h : ∀ (i : Nat) (e : List Int), es[i]? = some e → ∃ g, vs[i]? = some (V.lst g (ints e))) (g : Bool) (e : List Int) : (vs ++ [V.lst g (ints e)]).length = (es ++ [e]).length ∧ ∀ (i : Nat) (e' : List Int), (es ++ [e])[i]? = some e' → ∃ g', (vs ++ [V.lst g (ints e)])[i]? = some (V.lst g' (ints e')) := by
  refine ⟨by simp [hl], fun i e' he => ?_⟩
  by_cases hi : i < es.length
  · rw [List.getElem?_append_left hi] at he
    rw [List.getElem?_append_left (by omega)]
    exact h i e' he
  · rw [List.getElem?_append_right (by omega)] at he
    rw [List.getElem?_append_right (by omega), hl]
    have : i - es.length = 0 := by
      have := (List.getElem?_eq_some_iff.1 he).1
      simp at this
      omega
    rw [this] at he ⊢
    simp at he
    subst he
    exact ⟨g, rfl⟩
end
end Go.Proofs.YtadkhechobeccaaGreatDoor.Vm
namespace Go.Proofs.YtadkhechobeccaaGreatDoor.Vm
open Go.RowKit
theorem frz_rows {n b L r t : Nat} {s : St} {zs ys : List V} (hb : n ≤ b) (hst : s[b]? = some (.row t 1 zs)) (hL : zs.length = L) (hy : ys.length = zs.length) (h : ∀ (i : Nat) (x y : V), zs[i]? = some x → ys[i]? = some y → x.cells = [x] ∧ y.cells = [y] ∧ y.leaf = true ∧ y.pl = true ∧ Frz n s x y) : Frz n s (.own b L 0 r) (.lst false (ys.take r)) := by
  have one : ∀ {x : V} {j : Nat} {c : V}, x.cells = [x] → x.cells[j]? = some c → c = x := fun {x j c} h1 h2 => by
    rw [h1] at h2
    match j with
    | 0 => exact (Option.some.inj h2).symm
    | j + 1 => simp at h2
  have := Frz.own (n := n) (st := s) b L 0 r t 1 zs ys hb hst hL hy (fun i x y hx hy => by
    obtain ⟨h1, h2, -⟩ := h i x y hx hy
    rw [h1, h2]; rfl) (fun i x y hx hy j a c ha hc => by
    obtain ⟨h1, h2, h3, h4, h5⟩ := h i x y hx hy
    obtain rfl := one h2 hc
    exact ⟨h3, h4⟩) (fun i x y hx hy j a c ha hc => by
    obtain ⟨h1, h2, h3, h4, h5⟩ := h i x y hx hy
    obtain rfl := one h2 hc
    obtain rfl := one h1 ha
    exact h5)
  simpa using this
def ownN : V → Nat
  | .own _ L _ _ => L
  | _ => 0
@[simp] theorem ownN_own (b L i n : Nat) : ownN (.own b L i n) = L := nr rfl
end Go.Proofs.YtadkhechobeccaaGreatDoor.Vm
namespace Go.Proofs.YtadkhechobeccaaGreatDoor.Vm
open Go.RowKit
theorem smp_rng : ∀ {ws : List Int} {n k : Int}, (∀ x ∈ ws, 0 ≤ x) → 0 ≤ n → n < ws.sum → k ≤ smp ws n k ∧ smp ws n k < k + ws.length
  | [], n, k, _, h0, h1 => by simp at h1; omega
  | x :: t, n, k, h, h0, h1 => by
    have hx := h x List.mem_cons_self
    unfold smp
    rw [List.sum_cons] at h1
    split
    · simp; omega
    · have := smp_rng (ws := t) (n := n - x) (k := k + 1) (fun y hy => h y (List.mem_cons_of_mem _ hy)) (by omega) (by omega)
      simp; omega
theorem smpM_rng {ws : List Int} {draw : Int} (hw : ∀ x ∈ ws, 0 ≤ x ∧ x ≤ 1000) (hs : 1 ≤ ws.sum) (hd : 0 ≤ draw ∧ draw < 4294967296) : 0 ≤ smpM ws draw ∧ smpM ws draw < ws.length := by
  have hm0 : 0 ≤ draw * ws.sum := Int.mul_nonneg hd.1 (by omega)
  have hat0 : 0 ≤ (draw * ws.sum).fdiv (2 ^ 32) := Int.fdiv_nonneg hm0 (by decide)
  have hat1 : (draw * ws.sum).fdiv (2 ^ 32) < ws.sum := by
    rw [Int.fdiv_eq_ediv_of_nonneg _ (by decide)]
    refine Int.ediv_lt_of_lt_mul (by decide) ?_
    have : draw * ws.sum < 4294967296 * ws.sum := Int.mul_lt_mul_of_pos_right (by omega) (by omega)
    have e : (2 : Int) ^ 32 = 4294967296 := by decide
    rw [e, Int.mul_comm ws.sum]
    exact this
  have := smp_rng (k := 0) (fun x hx => (hw x hx).1) hat0 hat1
  unfold smpM
  omega
noncomputable def aE (m : LModel) (w q r vo : Nat) (seed : Int) (p : List Int) : Nat → List (List Int)
  | 0 => (List.range p.length).map fun j => entM m w (gI p j).toNat (j % r)
  | k + 1 => aE m w q r vo seed p k ++ [entM m w (nxtM m w q vo (aE m w q r vo seed p k) (drawV seed k)).toNat ((p.length + k) % r)]
noncomputable def aT (m : LModel) (w q r vo : Nat) (seed : Int) (p : List Int) (k : Nat) : Int := nxtM m w q vo (aE m w q r vo seed p k) (drawV seed k)
theorem aE_succ (m : LModel) (w q r vo : Nat) (seed : Int) (p : List Int) (k : Nat) : aE m w q r vo seed p (k + 1) = aE m w q r vo seed p k ++ [entM m w (aT m w q r vo seed p k).toNat ((p.length + k) % r)] := rfl
theorem aE_len (m : LModel) (w q r vo : Nat) (seed : Int) (p : List Int) : ∀ k, (aE m w q r vo seed p k).length = p.length + k
  | 0 => by simp [aE]
  | k + 1 => by rw [aE_succ, List.length_append, aE_len m w q r vo seed p k]; rfl
theorem entM_len (m : LModel) (w t a : Nat) : (entM m w t a).length = lenW m w := by
  unfold entM lenW
  split
  · exact mapR_len _ _
  · exact mapR_len _ _
theorem aE_each (m : LModel) (w q r vo : Nat) (seed : Int) (p : List Int) : ∀ k, ∀ e ∈ aE m w q r vo seed p k, e.length = lenW m w
  | 0, e, he => by
    unfold aE at he
    obtain ⟨j, -, rfl⟩ := List.mem_map.1 he
    exact entM_len _ _ _ _
  | k + 1, e, he => by
    rw [aE_succ] at he
    rcases List.mem_append.1 he with h | h
    · exact aE_each m w q r vo seed p k e h
    · simp at h; subst h; exact entM_len _ _ _ _
structure RunN (aT : Nat → Int) (most n : Nat) : Prop where
  n1 : 1 ≤ n
  le : n ≤ most
  pre : ∀ j, j + 1 < n → aT j ≠ 0
  last : n = most ∨ aT (n - 1) = 0
theorem RunN.unique {aT : Nat → Int} {most n n' : Nat} (h : RunN aT most n) (h' : RunN aT most n') : n = n' := by
  have key : ∀ {n n' : Nat}, RunN aT most n → RunN aT most n' → ¬ n < n' := fun {n n'} h h' hlt => by
    have h1 := h.n1
    have h2 := h'.le
    rcases h.last with e | e
    · omega
    · exact h'.pre (n - 1) (by omega) e
  have h1 := key h h'
  have h2 := key h' h
  omega
def encR (f : Bool) (p : List Int) (id dl most seed : Int) : V := .agg [I id, I dl, .lst f (ints p), I most, I seed]
def reqF (m : LModel) (p : List Int) (most seed : Int) : Int :=
  if inB 1 32 most = false ∨ inB (-2147483648) 2147483647 seed = false then 9 else if inB 1 32 p.length = false then 3 else if p.all (inB 0 (m.vocab - 1)) = false then 9 else 0
theorem OutS.two {n t k n' t' k' : Nat} {s : St} {v v' : V} {l l' : List V} (h : OutS n t k s v l) (h' : OutS n' t' k' s v' l') (ht : t ≠ t') : ∀ b ∈ ownL v, b ∉ ownL v' := fun b hb hb' => by
  rcases h with ⟨-, rfl⟩ | ⟨c, -, h2, rfl⟩
  · simp [ownL] at hb
  · rcases h' with ⟨-, rfl⟩ | ⟨c', -, h2', rfl⟩
    · simp [ownL] at hb'
    · simp [ownL] at hb hb'
      subst hb hb'
      rw [h2] at h2'
      cases h2'
      exact ht rfl
section
variable {T : Tbl} {M : Nat → Bool} {st : St} {K : V → St → Prop} {Kp : List PanicEntry → St → Prop}
theorem next_v3 {m : LModel} {w r vo q : Nat} (fl : Nat → Bool) (hg : GenM m) (e : ScS m w r vo q) {vs : List V} {es : List (List Int)} {f : Bool} (hE : EsV vs es (lenW m w)) {draw : Int} (hd : 0 ≤ draw ∧ draw < 4294967296) (hK : 0 ≤ nxtM m w q vo es draw → nxtM m w q vo es draw < vo → K (I (nxtM m w q vo es draw)) st) : CallV Tryz.prog T M 45 [encM fl m, .lst f vs, I draw] st K Kp :=
  next_m fl hg e e.hv hE hd fun l hl => by
    have h := smpM_rng (ws := wgtM m (scoM m w q vo es) vo m.top.toNat l) (wgt_rng hg _ _ _ _) (wgt_pos hg (sco_len _ _ _ _ _) (by have := e.v1; omega) (by have := hg.top; omega) hl) hd
    rw [wgtM_len] at h
    rw [hl.eq] at h ⊢
    exact hK h.1 h.2
theorem tw_pin : ∀ (B : Nat) (w0 w : World), B ≤ w0.heap.size → Below B w0 w → TW.pin B w0 → TW.pin w.heap.size w := fun _B _w0 _w h0 hb hp => ⟨Nat.lt_of_lt_of_le hp.1 (Nat.le_trans h0 hb.size), hp.2.below hp.1 hb⟩
theorem frz_ents {b t : Nat} {s : St} {vs : List V} {es : List (List Int)} (hst : s[b]? = some (.row t 1 vs)) (hl : vs.length = es.length) (hget : ∀ (i : Nat) (e : List Int), es[i]? = some e → ∃ g, vs[i]? = some (V.lst g (ints e))) : Frz 0 s (.own b vs.length 0 vs.length) (.lst false vs) := by
  have := frz_rows (n := 0) (b := b) (L := vs.length) (r := vs.length) (zs := vs) (ys := vs) (Nat.zero_le _) hst rfl rfl fun i x y hx hy => by
    rw [hx] at hy
    cases hy
    have hi : i < es.length := by rw [← hl]; exact (List.getElem?_eq_some_iff.1 hx).1
    obtain ⟨g, hg⟩ := hget i _ (List.getElem?_eq_getElem hi)
    rw [hx] at hg
    cases hg
    exact ⟨rfl, rfl, rfl, rfl, .same _ rfl⟩
  rwa [List.take_of_length_le (Nat.le_refl _)] at this
theorem next_o {m : LModel} {w r vo q : Nat} (fl : Nat → Bool) (hg : GenM m) (e : ScS m w r vo q) {vs : List V} {es : List (List Int)} {b t : Nat} (hst : st[b]? = some (.row t 1 vs)) (hE : EsV vs es (lenW m w)) {draw : Int} (hd : 0 ≤ draw ∧ draw < 4294967296) (hK : 0 ≤ nxtM m w q vo es draw → nxtM m w q vo es draw < vo → K (I (nxtM m w q vo es draw)) st) : CallV Tryz.prog TW M 45 [encM fl m, .own b vs.length 0 vs.length, I draw] st K Kp := by
  refine CallV.of_frozen (M' := M) (args' := [encM fl m, .lst false vs, I draw]) (R := fun u => u = .int .i64 (nxtM m w q vo es draw) ∧ 0 ≤ nxtM m w q vo es draw ∧ nxtM m w q vo es draw < vo) (next_v3 fl hg e hE hd fun h1 h2 => ⟨_, rfl, rfl, h1, h2⟩) rfl (fun i a a' ha ha' => ?_) (fun _ => rfl) tw_pin fun u ⟨hu, h1, h2⟩ => by subst hu; exact hK h1 h2
  match i, ha, ha' with
  | 0, ha, ha' => cases ha; cases ha'; exact encM_frz 0 st fl m
  | 1, ha, ha' => cases ha; cases ha'; exact frz_ents hst hE.len hE.get
  | 2, ha, ha' => cases ha; cases ha'; exact .same _ rfl
theorem refScores_row {m : LModel} {w r vo q : Nat} (fl : Nat → Bool) (e : ScS m w r vo q) {vs : List V} {es : List (List Int)} {f : Bool} (hE : EsV vs es (lenW m w)) (hK : ∀ b s, s[b]? = some (.row 3 1 (ints (scoM m w q vo es))) → K (.own b (ints (scoM m w q vo es)).length 0 (ints (scoM m w q vo es)).length) s) : CallV Tryz.prog T M 20 [encM fl m, .lst f vs] st K Kp := by
  have e' := e
  obtain ⟨⟨hw, ⟨w1, w2⟩, hv, ⟨v1, v2⟩, emb, out, pla, ⟨r1, r2⟩, ⟨k1, k2⟩, mix, ⟨cl, hc⟩, re, rp⟩, mq, ⟨q1, q2⟩, -, qk, sof⟩ := e'
  refine fun_ok hmix c_refScores (le_of rfl) ?_
  simp [F_refScores, encM]
  refine hidden_v fl e hE fun g => ?_
  have hMB : Blk.row 27 11 [V.agg [I m.kind, I m.vocab, I m.width, I m.top, .lst (fl 0) (ints m.cuts), .lst (fl 1) (ints m.embed), .lst (fl 2) (ints m.place), .lst (fl 3) (ints m.mix), .lst (fl 4) (ints m.out), .lst (fl 5) (ints m.soft), .lst (fl 6) (ints m.odds)]] = mdl m.kind m.vocab m.width m.top (fun i => .lst (fl i) (ints (mls m i))) := rfl
  rw [hMB]
  generalize hS0 : st ++ [mdl m.kind m.vocab m.width m.top (fun i => .lst (fl i) (ints (mls m i)))] = s0
  have hMb : s0[st.length]? = some (mdl m.kind m.vocab m.width m.top (fun i => .lst (fl i) (ints (mls m i)))) := by rw [← hS0]; simp
  have hs0l : s0.length = st.length + 1 := by rw [← hS0]; simp
  have hHl := hidM_len m w q es
  have hMs := hMb
  simp only [mdl] at hMs
  simp [hMs, hv]
  refine wp_mloop (fun fr s => ∃ i : Nat, i ≤ vo ∧ Keep0 s0 s ∧ OutS s0.length 3 1 s (fr.g 6) (ints (mapR i fun v => mvM m.out w (hidM m w q es) v)) ∧ fr.df = [] ∧ fr.g 2 = .ptr st.length 1 0 0 ∧ fr.g 5 = .lst g (ints (hidM m w q es)) ∧ fr.g 12 = I vo ∧ fr.g 13 = I i) (fun fr _ => vo - nat (fr.g 13))
    ⟨0, by omega, Keep0.refl _, by simpa [mapR, ints] using OutS.nil _ _ _ _, by simp, by simp, by simp, by simp, by simp⟩ ?_
  clear hMs
  rintro fr s ⟨i, hi, hkp, ho, hdf, z2, z5, z12, z13⟩
  by_cases hlt : i < vo
  · have hMb' := hkp.at_ hMb
    simp only [mdl] at hMb'
    have hoo : i * w + w ≤ vo * w := by rw [← Nat.succ_mul]; exact Nat.mul_le_mul_right w hlt
    simp [z12, z13, hlt, z2, hMb', z5]
    refine refRow_r m.out (hidM m w q es) i (Rd.lst _ _ _) (Rd.lst _ _ _) (by omega) (by omega) (by
      rw [hHl, out]
      have : ((i * w : Nat) : Int) = (i : Int) * w := by push_cast; rfl
      omega) ?_
    rw [hHl]
    simp
    refine app_one ho hkp (fun b hb j => by simp [upM]; have := (ho.lt b hb).1; omega) (by simp; omega) fun v' s' ho' hk' => ?_
    have hw1 : IntKind.i64.wrap ((i : Int) + 1) = ((i + 1 : Nat) : Int) := by rw [w64 (n := (i : Int) + 1) (by omega) (by omega)]; push_cast; rfl
    simp [hw1, -Int.natCast_add]
    exact ⟨⟨i + 1, by omega, hk', by rw [mapR_succ]; exact ho', hdf, rfl⟩, by omega⟩
  · obtain rfl : i = vo := by omega
    simp [z12, z13, hdf]
    have hsl : (scoM m w q i es).length = i := sco_len _ _ _ _ _
    rcases ho with ⟨h5, -⟩ | ⟨b, hb, hst, hv'⟩
    · have : (mapR i fun v => mvM m.out w (hidM m w q es) v) = [] := by simpa [ints] using h5
      have h6 : (mapR i fun v => mvM m.out w (hidM m w q es) v).length = i := mapR_len _ _
      rw [this] at h6
      simp at h6
      omega
    · rw [hv']
      exact hK b s hst
theorem refScores_o {m : LModel} {w r vo q : Nat} (fl : Nat → Bool) (e : ScS m w r vo q) {vs : List V} {es : List (List Int)} {b t : Nat} (hst : st[b]? = some (.row t 1 vs)) (hE : EsV vs es (lenW m w)) (hK : K (.lst false (ints (scoM m w q vo es))) st) : CallV Tryz.prog TW M 20 [encM fl m, .own b vs.length 0 vs.length] st K Kp := by
  refine CallV.of_frozen_row (M' := M) (args' := [encM fl m, .lst false vs]) (refScores_row fl e hE fun b s hs => ⟨b, _, rfl, hs⟩) (fun x hx => ?_) (fun h => ?_) rfl (fun i a a' ha ha' => ?_) (fun _ => rfl) tw_pin hK
  · obtain ⟨z, -, rfl⟩ := List.mem_map.1 hx
    exact ⟨_, rfl, rfl⟩
  · have h1 : (ints (scoM m w q vo es)).length = vo := by simp [sco_len]
    rw [h] at h1
    have := e.v1
    simp at h1
    omega
  · match i, ha, ha' with
    | 0, ha, ha' => cases ha; cases ha'; exact encM_frz 0 st fl m
    | 1, ha, ha' => cases ha; cases ha'; exact frz_ents hst hE.len hE.get
end
end Go.Proofs.YtadkhechobeccaaGreatDoor.Vm
namespace Go.Proofs.YtadkhechobeccaaGreatDoor.Vm
open Go.RowKit
structure EsP (vs : List V) (es : List (List Int)) : Prop where
  len : vs.length = es.length
  get : ∀ (i : Nat) (e : List Int), es[i]? = some e → ∃ g, vs[i]? = some (V.lst g (ints e))
theorem EsP.snoc {vs : List V} {es : List (List Int)} (h : EsP vs es) (g : Bool) (e : List Int) : EsP (vs ++ [V.lst g (ints e)]) (es ++ [e]) := by
  obtain ⟨h1, h2⟩ := ESnoc h.len h.get g e
  exact ⟨h1, h2⟩
theorem frz_fst {n : Nat} {s : St} {x x' y : V} (hx : Frz n s x x') (hy : y.pl = true) : Frz n s (.tup [x, y]) (.tup [x', y]) := by
  refine .tup _ _ rfl fun i a b ha hb => ?_
  match i with
  | 0 => cases ha; cases hb; exact hx
  | 1 => cases ha; cases hb; exact .same _ (V.leaf_pure hy _)
  | i + 2 => cases ha
section
variable {M : Nat → Bool} {st : St} {K : V → St → Prop} {Kp : List PanicEntry → St → Prop}
set_option maxHeartbeats 4000000 in
set_option maxRecDepth 10000 in
theorem mAlone_v {B : Int} {n w r vo q : Nat} {m : LModel} (fl : Nat → Bool) (hb : LB B n m) (hn : n ≤ 2000) (f : Bool) (p : List Int) (id dl most seed : Int) (hp : p.length ≤ 1000) (he : chkM m = 0 → ScS m w r vo q) (hg : chkM m = 0 → GenM m)
    (hK1 : chkM m ≠ 0 → K (.tup [.lst true [], I (chkM m)]) st) (hK2 : chkM m = 0 → reqF m p most seed ≠ 0 → K (.tup [.lst true [], I (reqF m p most seed)]) st)
    (hK3 : chkM m = 0 → reqF m p most seed = 0 → ∀ g N, RunN (aT m w q r vo seed p) most.toNat N → K (.tup [.lst g (ints (mapR N (aT m w q r vo seed p))), I 0]) st) : CallV Tryz.prog TW M 26 [encM fl m, encR f p id dl most seed] st K Kp := by
  refine CallV.give (fun_ok hmix c_mAlone (le_of rfl) ?_)
  have e0 : F_mAlone.code = .seq F_mAlone.code.l (.seq F_mAlone.code.r.l F_mAlone.code.r.r) := rfl
  have rest : chkM m = 0 → inB 1 32 most = true → inB (-2147483648) 2147483647 seed = true → inB 1 32 p.length = true → p.all (inB 0 (m.vocab - 1)) = true → ∀ fr : Fr, fr.df = [] → fr.g 2 = .ptr st.length 1 0 0 → fr.g 3 = .ptr (st.length + 1) 1 0 0 →
      wpM Tryz.prog TW (liftM (upM st.length M)) F_mAlone.code.r.r (Fin F_mAlone.res (fun v st' => ∃ v', Frz st.length st' v v' ∧ LowSt st st' ∧ K v' (st'.take st.length)) (fun c st' => LowSt st st' ∧ Kp c (st'.take st.length))) fr (st ++ [mdl m.kind m.vocab m.width m.top (fun i => .lst (fl i) (ints (mls m i))), .row 51 5 [.agg [I id, I dl, .lst f (ints p), I most, I seed]]]) := fun hc q1 q2 q3 q4 fr hdf z2 z3 => by
    have e := he hc
    have hgm := hg hc
    have hF : reqF m p most seed = 0 := by simp [reqF, q1, q2, q3, q4]
    have hK := hK3 hc hF
    clear hK1 hK2 hK3 he hg
    have hm1 : 1 ≤ most ∧ most ≤ 32 := by simpa [inB] using q1
    have hp1 : 1 ≤ p.length ∧ p.length ≤ 32 := by simp [inB] at q3; omega
    obtain ⟨mo, rfl⟩ : ∃ k : Nat, most = (k : Int) := ⟨most.toNat, by omega⟩
    rw [Int.toNat_natCast] at hK
    have hpe : ∀ (j : Nat) (x : Int), p[j]? = some x → 0 ≤ x ∧ x < vo := fun j x hx => by
      have := List.all_eq_true.1 q4 x (List.mem_of_getElem? hx)
      rw [e.hv] at this
      simp [inB] at this
      omega
    have hvv := e.v1
    have hr1 := e.r1
    have hS0l : (st ++ [mdl m.kind m.vocab m.width m.top (fun i => .lst (fl i) (ints (mls m i))), .row 51 5 [.agg [I id, I dl, .lst f (ints p), I (mo : Int), I seed]]]).length = st.length + 2 := by simp
    have hMb0 : (st ++ [mdl m.kind m.vocab m.width m.top (fun i => .lst (fl i) (ints (mls m i))), .row 51 5 [.agg [I id, I dl, .lst f (ints p), I (mo : Int), I seed]]])[st.length]? = some (mdl m.kind m.vocab m.width m.top (fun i => .lst (fl i) (ints (mls m i)))) := by simp
    have hRb0 : (st ++ [mdl m.kind m.vocab m.width m.top (fun i => .lst (fl i) (ints (mls m i))), .row 51 5 [.agg [I id, I dl, .lst f (ints p), I (mo : Int), I seed]]])[st.length + 1]? = some (.row 51 5 [.agg [I id, I dl, .lst f (ints p), I (mo : Int), I seed]]) := by simp
    generalize hS0 : st ++ [mdl m.kind m.vocab m.width m.top (fun i => .lst (fl i) (ints (mls m i))), .row 51 5 [.agg [I id, I dl, .lst f (ints p), I (mo : Int), I seed]]] = s0 at *
    generalize hA : aT m w q r vo seed p = A at *
    have fin : ∀ (fr : Fr) (s : St) (N : Nat), Keep0 s0 s → OutS s0.length 3 1 s (fr.g 10) (ints (mapR N A)) → RunN A mo N → fr.df = [] → wpM Tryz.prog TW (liftM (upM st.length M)) F_mAlone.code.r.r.r.r.r.r (Fin F_mAlone.res (fun v st' => ∃ v', Frz st.length st' v v' ∧ LowSt st st' ∧ K v' (st'.take st.length)) (fun c st' => LowSt st st' ∧ Kp c (st'.take st.length))) fr s := fun fr s N hkp o hN hdf => by
      simp [F_mAlone, MC.r, hdf]
      obtain ⟨g, hfr⟩ := (o.down (show st.length ≤ s0.length by omega)).frz (ints_cells _)
      rw [← hS0] at hkp
      exact ⟨_, frz_fst hfr rfl, hkp.low, by rw [hkp.take]; exact hK g N hN⟩
    clear hK
    have two : ∀ (fr : Fr) (s : St) (vs : List V), Keep0 s0 s → OutS s0.length 22 1 s (fr.g 7) vs → EsP vs (aE m w q r vo seed p 0) → fr.df = [] → fr.g 2 = .ptr st.length 1 0 0 → fr.g 3 = .ptr (st.length + 1) 1 0 0 → wpM Tryz.prog TW (liftM (upM st.length M)) F_mAlone.code.r.r.r.r (Fin F_mAlone.res (fun v st' => ∃ v', Frz st.length st' v v' ∧ LowSt st st' ∧ K v' (st'.take st.length)) (fun c st' => LowSt st st' ∧ Kp c (st'.take st.length))) fr s := fun fr s vs hkp o7 hE hdf z2 z3 => by
      have e2 : F_mAlone.code.r.r.r.r = .seq F_mAlone.code.r.r.r.r.l (.seq F_mAlone.code.r.r.r.r.r.l F_mAlone.code.r.r.r.r.r.r) := rfl
      generalize F_mAlone.code.r.r.r.r.r.r = c6 at fin e2
      rw [e2]
      have hRs := hkp.at_ hRb0
      simp [F_mAlone, MC.l, MC.r, z3, hRs]
      refine wp_mloop (fun fr s => ∃ (k : Nat) (vs : List V), k ≤ mo ∧ Keep0 s0 s ∧ OutS s0.length 22 1 s (fr.g 7) vs ∧ EsP vs (aE m w q r vo seed p k) ∧ OutS s0.length 3 1 s (fr.g 10) (ints (mapR k A)) ∧ (∀ j, j < k → A j ≠ 0) ∧ fr.df = [] ∧ fr.g 2 = .ptr st.length 1 0 0 ∧ fr.g 3 = .ptr (st.length + 1) 1 0 0 ∧ fr.g 61 = I mo ∧ fr.g 62 = I k) (fun fr _ => mo - nat (fr.g 62))
        ⟨0, vs, by omega, hkp, by simpa using o7, hE, by simpa [mapR, ints] using OutS.nil _ _ _ _, by simp, by simp [hdf], by simp [z2], by simp [z3], by simp, by simp⟩ ?_
      clear hRs hkp o7 hE hdf z2 z3
      rintro fr s ⟨k, vs, hk, hkp, o7, hE, o10, hpre, hdf, z2, z3, z61, z62⟩
      by_cases hlt : k < mo
      · have hMs := hkp.at_ hMb0
        have hRs := hkp.at_ hRb0
        simp only [mdl] at hMs
        have hlen := hE.len
        rw [aE_len] at hlen
        have hsl := hkp.len
        obtain ⟨b7, hb7, hst7, z7⟩ : ∃ b7, s0.length ≤ b7 ∧ s[b7]? = some (.row 22 1 vs) ∧ fr.g 7 = .own b7 vs.length 0 vs.length := by
          rcases o7 with ⟨h5, -⟩ | h
          · rw [h5] at hlen; simp at hlen; omega
          · exact h
        have hV : EsV vs (aE m w q r vo seed p k) (lenW m w) := ⟨hE.len, hE.get, aE_each _ _ _ _ _ _ _ _, by rw [aE_len]; omega⟩
        simp [z61, z62, hlt]
        refine wp_mflat [] [] ?_
        simp [z2, z3, z7, hMs, hRs]
        refine draw_v _ _ ?_
        refine next_o fl hgm e hst7 hV (drawV_rng _ _) fun h1 h2 => ?_
        have hT : nxtM m w q vo (aE m w q r vo seed p k) (drawV seed k) = A k := by rw [← hA]; rfl
        rw [hT] at h1 h2 ⊢
        simp
        refine app_out (o10.more [.row 3 1 [I (A k)]]) (by simp; omega) (news := [I (A k)]) (by simp) (by simp) (Or.inl (by simp)) (fun b L hb _ j => by simp [upM]; omega) (by simp; omega) (by simp; omega) fun v' s' o' hl' hb' hk' hn' => ?_
        have hkp' : Keep0 s0 s' := (hkp.more _).trans hl' hb'
        have hst7' : s'[b7]? = some (.row 22 1 vs) := by
          rw [hk' b7 (by have := (List.getElem?_eq_some_iff.1 hst7).1; simp; omega) ((o7.two o10 (by decide)) b7 (by rw [z7]; simp [ownL]))]
          exact get_more hst7 _
        have o10' : OutS s0.length 3 1 s' v' (ints (mapR (k + 1) A)) := by rw [mapR_succ, ints_append]; exact o'
        have hMs' := hkp'.at_ hMb0
        have hRs' := hkp'.at_ hRb0
        simp only [mdl] at hMs'
        have hw1 : IntKind.i64.wrap ((k : Int) + 1) = ((k + 1 : Nat) : Int) := by rw [w64 (n := (k : Int) + 1) (by omega) (by omega)]; push_cast; rfl
        by_cases hz : A k = 0
        · simp [hz]
          exact fin _ s' (k + 1) hkp' (by simpa using o10') ⟨by omega, by omega, fun j hj => hpre j (by omega), Or.inr hz⟩ (by simp [hdf])
        · have hzb : (A k == 0) = false := by simpa using hz
          by_cases hl : k + 1 = mo
          · have hlb : (((k + 1 : Nat) : Int) == (mo : Int)) = true := by rw [hl]; simp
            simp only [hzb, hw1]
            simp [hRs', hlb, -Int.natCast_add]
            exact fin _ s' (k + 1) hkp' (by simpa using o10') ⟨by omega, by omega, fun j hj => hpre j (by omega), Or.inl hl⟩ (by simp [hdf])
          · have hlb : (((k + 1 : Nat) : Int) == (mo : Int)) = false := by simp; omega
            obtain ⟨t, ht⟩ : ∃ t : Nat, A k = (t : Int) := ⟨(A k).toNat, by omega⟩
            have h0t : ¬ t = 0 := by omega
            have hzt : ((t : Int) == 0) = false := by rw [← ht]; exact hzb
            simp [h0t, hzt, hw1, hRs', hMs', hlb, hst7', ht, -Int.natCast_add]
            refine entry_v fl e.toEntS t vs.length (by omega) (by omega) fun g => ?_
            simp
            have o7' : OutS s0.length 22 1 s' (.own b7 vs.length 0 vs.length) vs := Or.inr ⟨b7, hb7, hst7', rfl⟩
            refine app_out (o7'.more [.row 22 1 [.lst g (ints (entM m w t (vs.length % r)))]]) (by simp; have := hkp'.len; omega) (news := [.lst g (ints (entM m w t (vs.length % r)))]) (by simp) (by simp) (Or.inl (by simp)) (fun b L hb _ j => by simp [upM]; omega) (by simp; omega) (by simp; omega) fun v5 s5 o5 l5 b5 k5 n5 => ?_
            have hkp5 : Keep0 s0 s5 := (hkp'.more _).trans l5 b5
            have o105 : OutS s0.length 3 1 s5 v' (ints (mapR (k + 1) A)) := (o10'.more [.row 22 1 [.lst g (ints (entM m w t (vs.length % r)))]]).keep2 fun b hb => k5 b (by have := (o10'.lt b hb).2; simp; omega) ((o10'.two o7' (by decide)) b hb)
            have hE5 : EsP (vs ++ [.lst g (ints (entM m w t (vs.length % r)))]) (aE m w q r vo seed p (k + 1)) := by
              rw [aE_succ, hA, ht, Int.toNat_natCast, ← hlen]
              exact hE.snoc g _
            simp [z62, hw1, -Int.natCast_add]
            exact ⟨⟨k + 1, hlt, hkp5, vs ++ [.lst g (ints (entM m w t (vs.length % r)))], o5, hE5, o105, fun j hj => by
              by_cases hjk : j = k
              · subst hjk; exact hz
              · exact hpre j (by omega), hdf, z61, rfl⟩, by omega⟩
      · obtain rfl : k = mo := by omega
        simp [z61, z62]
        exact fin _ s k hkp (by simpa using o10) ⟨by omega, by omega, fun j hj => hpre j (by omega), Or.inl rfl⟩ (by simp [hdf])
    clear fin
    have e1 : F_mAlone.code.r.r = .seq F_mAlone.code.r.r.l (.seq F_mAlone.code.r.r.r.l F_mAlone.code.r.r.r.r) := rfl
    generalize F_mAlone.code.r.r.r.r = c4 at two e1
    rw [e1]
    simp [F_mAlone, MC.l, MC.r, z3, hRb0]
    refine wp_mloop (fun fr s => ∃ (i : Nat) (vs : List V), i ≤ p.length ∧ Keep0 s0 s ∧ OutS s0.length 22 1 s (fr.g 7) vs ∧ EsP vs ((List.range i).map fun j => entM m w (gI p j).toNat (j % r)) ∧ fr.df = [] ∧ fr.g 2 = .ptr st.length 1 0 0 ∧ fr.g 3 = .ptr (st.length + 1) 1 0 0 ∧ fr.g 45 = .lst f (ints p) ∧ fr.g 46 = I p.length ∧ fr.g 47 = I i) (fun fr _ => p.length - nat (fr.g 47))
      ⟨0, [], by omega, Keep0.refl _, by simpa using OutS.nil _ _ _ _, ⟨rfl, fun i e h => by simp at h⟩, by simp [hdf], by simp [z2], by simp [z3], by simp, by simp, by simp⟩ ?_
    clear hdf z2 z3
    rintro fr s ⟨i, vs, hi, hkp, o7, hE, hdf, z2, z3, z45, z46, z47⟩
    have hsl := hkp.len
    by_cases hlt : i < p.length
    · have hMs := hkp.at_ hMb0
      simp only [mdl] at hMs
      have hx := List.getElem?_eq_getElem hlt
      have hxr := hpe i _ hx
      have hgi := gI_of hx
      generalize p[i] = x at *
      obtain ⟨t, rfl⟩ : ∃ t : Nat, x = (t : Int) := ⟨x.toNat, by omega⟩
      have hlen := hE.len
      simp at hlen
      simp [z46, z47, hlt]
      simp [z45, ints_get hx, z2, hMs]
      refine entry_v fl e.toEntS t i (by omega) (by omega) fun g => ?_
      simp
      refine app_out (o7.more [.row 22 1 [.lst g (ints (entM m w t (i % r)))]]) (by simp; omega) (news := [.lst g (ints (entM m w t (i % r)))]) (by simp) (by simp) (Or.inl (by simp)) (fun b L hb _ j => by simp [upM]; omega) (by simp; omega) (by simp; omega) fun v5 s5 o5 l5 b5 k5 n5 => ?_
      have hw1 : IntKind.i64.wrap ((i : Int) + 1) = ((i + 1 : Nat) : Int) := by rw [w64 (n := (i : Int) + 1) (by omega) (by omega)]; push_cast; rfl
      simp [hw1, -Int.natCast_add]
      exact ⟨⟨i + 1, hlt, (hkp.more _).trans l5 b5, vs ++ [.lst g (ints (entM m w t (i % r)))], o5, by
        rw [List.range_succ, List.map_append]
        have := hE.snoc g (entM m w t (i % r))
        simpa [hgi] using this, hdf, z3, rfl⟩, by omega⟩
    · obtain rfl : i = p.length := by omega
      simp [z46, z47]
      exact two _ s vs hkp (by simpa using o7) hE (by simp [hdf]) (by simp [z2]) (by simp [z3])
  have hMB : Blk.row 27 11 [V.agg [I m.kind, I m.vocab, I m.width, I m.top, .lst (fl 0) (ints m.cuts), .lst (fl 1) (ints m.embed), .lst (fl 2) (ints m.place), .lst (fl 3) (ints m.mix), .lst (fl 4) (ints m.out), .lst (fl 5) (ints m.soft), .lst (fl 6) (ints m.odds)]] = mdl m.kind m.vocab m.width m.top (fun i => .lst (fl i) (ints (mls m i))) := rfl
  generalize F_mAlone.code.r.r = c2 at rest e0
  rw [e0]
  simp [F_mAlone, MC.l, MC.r, encM, encR]
  refine check_m fl m hb hn ?_
  by_cases hc : chkM m = 0
  · have hv2 := (hg hc).vocab
    have hret : ∀ (z : Int), reqF m p most seed = z → z ≠ 0 → ∃ v', Frz st.length (st ++ [mdl m.kind m.vocab m.width m.top (fun i => .lst (fl i) (ints (mls m i))), .row 51 5 [.agg [I id, I dl, .lst f (ints p), I most, I seed]]]) (.tup [.lst true [], I z]) v' ∧ LowSt st (st ++ [mdl m.kind m.vocab m.width m.top (fun i => .lst (fl i) (ints (mls m i))), .row 51 5 [.agg [I id, I dl, .lst f (ints p), I most, I seed]]]) ∧ K v' st := fun z hz h0 => ⟨_, frz_two rfl rfl, Keep0.low (Keep0.refl _), by have := hK2 hc (by rw [hz]; exact h0); rwa [hz] at this⟩
    simp only [mdl] at hret
    simp [hc]
    refine within_v _ _ _ ?_
    cases q1 : inB 1 32 most with
    | false =>
      simp
      exact hret 9 (by simp [reqF, q1]) (by omega)
    | true =>
      simp
      refine isWord_v _ ?_
      have hiw : (!badW seed) = inB (-2147483648) 2147483647 seed := by
        unfold inB badW
        by_cases h1 : seed < -2147483648 <;> by_cases h2 : 2147483647 < seed <;> simp [h1, h2] <;> omega
      rw [hiw]
      cases q2 : inB (-2147483648) 2147483647 seed with
      | false =>
        simp
        exact hret 9 (by simp [reqF, q2]) (by omega)
      | true =>
        simp
        refine within_v _ _ _ ?_
        cases q3 : inB 1 32 (p.length : Int) with
        | false =>
          simp
          exact hret 3 (by simp [reqF, q1, q2, q3]) (by omega)
        | true =>
          simp [w64 (n := m.vocab - 1) (by omega) (by omega)]
          refine all_v (Rd.lst _ _ _) (by omega) _ _ ?_
          cases q4 : p.all (inB 0 (m.vocab - 1)) with
          | false =>
            simp
            exact hret 9 (by simp [reqF, q1, q2, q3, q4]) (by omega)
          | true =>
            simp
            exact rest hc q1 q2 q3 q4 _ (by simp) (by simp) (by simp)
  · have hcb : (chkM m != 0) = true := by simpa using hc
    simp [hcb]
    exact ⟨_, frz_two rfl rfl, Keep0.low (Keep0.refl _), by simpa using hK1 hc⟩
end
end Go.Proofs.YtadkhechobeccaaGreatDoor.Vm
