/-
  Draws of a token, run by the value machine.
  Both ranks, run by the value machine: the sorts by the library's contracts.
  Both ranks, run by the value machine: the walks.
  The program's rank, run by the value machine.
  models.Weights, run by the value machine (models.Check as a premise).
  models.next, run by the value machine.
  The next token, as one value.
  maybe, run by the value machine; contracts of the old make on models as its calls; an argument; the pin of a run.
  Entries are checked and drawn, run by the value machine.
  ModelWeights: the law, walked by the value machine.
-/
import Derived.Test.YtadkhechobeccaaGreatDoorK15
import Derived.Test.YtadkhechobeccaaGreatDoorK20
import Derived.Test.YtadkhechobeccaaGreatDoorShelf
import Derived.Test.YtadkhechobeccaaGreatDoorK19
import Derived.Test.YtadkhechobeccaaGreatDoorK01
namespace Go.Proofs.YtadkhechobeccaaGreatDoor.Vm
open Go.RowKit
section
variable {T : Tbl} {M : Nat → Bool} {st : St} {K : V → St → Prop} {Kp : List PanicEntry → St → Prop}
theorem Rd.el2 {st : St} {v : V} {l : List Int} (h : Rd st v l) {k : Nat} {x : Int} (hx : l[k]? = some x) : ∃ p, ∀ e : St, elemAt 1 (st ++ e) (k : Int) v = some p ∧ (∀ rd : Nat → Nat → Bool, (∀ b j, rd b j = true) → mLoad rd false 1 (st ++ e) p = some (I x)) := by
  have hi := ints_get hx
  rcases h with ⟨f, rfl⟩ | ⟨b, t, rfl, h2⟩
  · exact ⟨.cref (I x) 0, fun e => ⟨by simp [hi], fun rd _ => by simp⟩⟩
  · have hk : k < l.length := (List.getElem?_eq_some_iff.1 hx).1
    have h3 := fun e => get_more h2 e
    exact ⟨.ptr b l.length k 0, fun e => ⟨by simp [h3, hk], fun rd hrd => by simp [h3, hi, rdOk_of (hrd b), hrd]⟩⟩
/-- what a ranking function answers -/
def RankOk (F : Nat) : Prop := ∀ (T : Tbl) (M : Nat → Bool) (st : St) (K : V → St → Prop) (Kp : List PanicEntry → St → Prop) (v : V) (sc : List Int) (k : Nat), Rd st v sc → 1 ≤ sc.length → sc.length ≤ 16 → 1 ≤ k → k ≤ sc.length → (∀ b l, IsRank sc sc.length l → K (.lst b (ints (l.take k))) st) → CallV Tryz.prog T M F [v, I k] st K Kp
set_option maxRecDepth 10000 in
theorem weights_v (hR : RankOk 65) {m : LModel} {vo : Nat} (fl : Nat → Bool) (hg : GenM m) (hv : m.vocab = (vo : Int)) {vs : V} (sc : List Int) (hr : Rd st vs sc) (hsc : sc.length = vo) (hw : ∀ x ∈ sc, -2147483648 ≤ x ∧ x ≤ 2147483647) (hK : ∀ g l, IsRank sc vo l → K (.lst g (ints (wgtM m sc vo m.top.toNat l))) st) : CallV Tryz.prog T M 32 [encM fl m, vs] st K Kp := by
  have hv2 := hg.vocab
  have ht2 := hg.top
  refine CallV.give (fun_ok hmix c_weights (le_of rfl) ?_)
  obtain ⟨top, ht⟩ : ∃ k : Nat, m.top = (k : Int) := ⟨m.top.toNat, by omega⟩
  simp [F_weights, encM, hv, ht]
  refine ⟨by omega, ?_⟩
  rw [rep_ints]
  refine max_v (hr.more _) (by omega) (by omega) ?_
  simp
  refine hR _ _ _ _ _ _ sc top (hr.more _) (by omega) (by omega) (by omega) (by omega) fun b l hl => ?_
  have hL : (l.take top).length = top := by have := hl.len; simp; omega
  have hLr : ∀ v ∈ l.take top, 0 ≤ v ∧ v < vo := fun v hv => by have := hl.rng v (List.mem_of_mem_take hv); omega
  obtain ⟨c0, c1, c2, c3, hc0⟩ : ∃ c0 c1 c2 c3, m.cuts = [c0, c1, c2, c3] := by
    match m.cuts, hg.cuts.1 with
    | [c0, c1, c2, c3], _ => exact ⟨c0, c1, c2, c3, rfl⟩
  have hg3 : gI m.cuts 3 = c3 := by rw [hc0]; rfl
  have hcu : (ints m.cuts)[3]? = some (I c3) := by rw [hc0]; rfl
  have hc3 := hg.cuts.2 c3 (by rw [hc0]; simp)
  have hol := hg.odds.1
  have hmx1 : ∀ j, j < vo → gI sc j ≤ mxK sc (sc.length - 1) := fun j hj => mxK_ge sc _ j (by omega)
  have hmx2 : mxK sc (sc.length - 1) ≤ 2147483647 := mxK_le sc _ fun j hj => (gI_mem hw (by omega)).2
  have hK' := hK
  rw [ht] at hK'
  simp only [Int.toNat_natCast, wgtM] at hK'
  have hKl := fun g => hK' g l (by rw [← hsc]; exact hl)
  clear hK hK'
  generalize l.take top = L at *
  simp [hL]
  generalize hmx : mxK sc (sc.length - 1) = mx at *
  refine wp_mloop (fun fr s => ∃ k : Nat, k ≤ top ∧ s = st ++ [.row 27 11 [V.agg [I m.kind, I (vo : Int), I m.width, I (top : Int), .lst (fl 0) (ints m.cuts), .lst (fl 1) (ints m.embed), .lst (fl 2) (ints m.place), .lst (fl 3) (ints m.mix), .lst (fl 4) (ints m.out), .lst (fl 5) (ints m.soft), .lst (fl 6) (ints m.odds)]], .row 3 1 (ints (wfold m sc (mapR vo fun _ => 0) (L.take k)))] ∧ fr.df = [] ∧ fr.g 1 = vs ∧ fr.g 2 = .ptr st.length 1 0 0 ∧ fr.g 5 = .own (st.length + 1) vo 0 vo ∧ fr.g 6 = I mx ∧ fr.g 17 = .lst b (ints L) ∧ fr.g 18 = I top ∧ fr.g 19 = I k) (fun fr _ => top - nat (fr.g 19))
    ⟨0, by omega, by simp [wfold], by simp, by simp, by simp, by simp, by simp, by simp, by simp, by simp⟩ ?_
  rintro fr s ⟨k, hk, rfl, hdf, z1, z2, z5, z6, z17, z18, z19⟩
  have hwl := wfold_len m sc (L.take k) (mapR vo fun _ => 0)
  rw [mapR_len] at hwl
  have hw1 : IntKind.i64.wrap ((k : Int) + 1) = ((k + 1 : Nat) : Int) := by rw [w64 (n := (k : Int) + 1) (by omega) (by omega)]; push_cast; rfl
  by_cases hlt : k < top
  · have hx := List.getElem?_eq_getElem (show k < L.length by omega)
    have hxr := hLr _ (List.getElem_mem (show k < L.length by omega))
    have hts : wfold m sc (mapR vo fun _ => 0) (L.take (k + 1)) = (wfold m sc (mapR vo fun _ => 0) (L.take k)).set (L[k]'(by omega)).toNat (wvM m sc (L[k]'(by omega))) := by rw [List.take_add_one, hx, ← wfold_snoc]; rfl
    generalize L[k]'(by omega) = v at *
    obtain ⟨x, rfl⟩ : ∃ x : Nat, v = (x : Int) := ⟨v.toNat, by omega⟩
    obtain ⟨p, hp⟩ := hr.el2 (k := x) (x := gI sc x) (by rw [gI, List.getElem?_eq_getElem (by omega)]; rfl)
    have p1 := fun e => (hp e).1
    have p2 := fun e => (hp e).2
    have hsr := gI_mem hw (show x < sc.length by omega)
    have hs1 := hmx1 x (by omega)
    have hp := pow_rng (k := c3.toNat) (by omega)
    have hd0 : 0 ≤ (mx - gI sc x).fdiv (2 ^ c3.toNat) := Int.fdiv_nonneg (by omega) (by omega)
    generalize hci : min ((mx - gI sc x).fdiv (2 ^ c3.toNat)) ((m.odds.length : Int) - 1) = ci at *
    have hoi := ints_get (l := m.odds) (k := ci.toNat) (x := gI m.odds ci.toNat) (by rw [gI, List.getElem?_eq_getElem (by omega)]; rfl)
    have hwv : wvM m sc x = gI m.odds ci.toNat := by
      unfold wvM
      rw [hmx, hg3, ← hci]
      rfl
    generalize wfold m sc (mapR vo fun _ => 0) (L.take k) = acc at *
    have hal := fun hk => ints_get' (List.getElem?_eq_getElem (show x < acc.length by omega)) hk
    simp [z18, z19, hlt]
    simp [z17, ints_get hx]
    refine wp_mtail [] [] ?_
    simp [z1, z2, z5, z6, p1, p2, hcu, hwl, w64 (n := mx - gI sc x) (by omega) (by omega), w64 (n := (m.odds.length : Int) - 1) (by omega) (by omega), IntKind.bits, show (0 : Int) ≤ c3 by omega, show min c3.toNat 64 = c3.toNat by omega, hci, hoi, show 0 ≤ ci by omega, show x < vo by omega]
    simp [hal, ints_set, z19, hw1, -Int.natCast_add]
    have hts' : wfold m sc (mapR vo fun _ => 0) (L.take (k + 1)) = acc.set x (gI m.odds ci.toNat) := by rw [hts, hwv]; rfl
    exact ⟨⟨k + 1, hlt, by rw [hts'], hdf, z17, z18, rfl⟩, by omega⟩
  · obtain rfl : k = top := by omega
    simp [z18, z19, hdf, z5]
    have htk : L.take k = L := List.take_of_length_le (by omega)
    rw [htk] at hwl ⊢
    have hfr := Frz.row (n := st.length) (st.length + 1) vo 0 vo 3 1 (ints (wfold m sc (mapR vo fun _ => 0) L)) (by omega) (st := st ++ [.row 27 11 [V.agg [I m.kind, I (vo : Int), I m.width, I (k : Int), .lst (fl 0) (ints m.cuts), .lst (fl 1) (ints m.embed), .lst (fl 2) (ints m.place), .lst (fl 3) (ints m.mix), .lst (fl 4) (ints m.out), .lst (fl 5) (ints m.soft), .lst (fl 6) (ints m.odds)]], .row 3 1 (ints (wfold m sc (mapR vo fun _ => 0) L))]) (by simp) (by simp [hwl]) (ints_cells _)
    have htt : List.take vo (List.drop 0 (ints (wfold m sc (mapR vo fun _ => 0) L))) = ints (wfold m sc (mapR vo fun _ => 0) L) := by rw [List.drop_zero]; exact List.take_of_length_le (by simp [hwl])
    rw [htt] at hfr
    exact ⟨_, hfr, Keep0.low (Keep0.refl _), hKl false⟩
set_option maxRecDepth 10000 in
theorem refWeights_v (hR : RankOk 38) {m : LModel} {vo : Nat} (fl : Nat → Bool) (hg : GenM m) (hv : m.vocab = (vo : Int)) {vs : V} (sc : List Int) (hr : Rd st vs sc) (hsc : sc.length = vo) (hw : ∀ x ∈ sc, -2147483648 ≤ x ∧ x ≤ 2147483647) (hK : ∀ g l, IsRank sc vo l → K (.lst g (ints (wgtM m sc vo m.top.toNat l))) st) : CallV Tryz.prog T M 14 [encM fl m, vs] st K Kp := by
  have hv2 := hg.vocab
  have ht2 := hg.top
  refine CallV.give (fun_ok hmix c_refWeights (le_of rfl) ?_)
  obtain ⟨top, ht⟩ : ∃ k : Nat, m.top = (k : Int) := ⟨m.top.toNat, by omega⟩
  simp [F_refWeights, encM, hv, ht]
  refine ⟨by omega, ?_⟩
  rw [rep_ints]
  refine max_v (hr.more _) (by omega) (by omega) ?_
  simp
  refine hR _ _ _ _ _ _ sc top (hr.more _) (by omega) (by omega) (by omega) (by omega) fun b l hl => ?_
  have hL : (l.take top).length = top := by have := hl.len; simp; omega
  have hLr : ∀ v ∈ l.take top, 0 ≤ v ∧ v < vo := fun v hv => by have := hl.rng v (List.mem_of_mem_take hv); omega
  obtain ⟨c0, c1, c2, c3, hc0⟩ : ∃ c0 c1 c2 c3, m.cuts = [c0, c1, c2, c3] := by
    match m.cuts, hg.cuts.1 with
    | [c0, c1, c2, c3], _ => exact ⟨c0, c1, c2, c3, rfl⟩
  have hg3 : gI m.cuts 3 = c3 := by rw [hc0]; rfl
  have hcu : (ints m.cuts)[3]? = some (I c3) := by rw [hc0]; rfl
  have hc3 := hg.cuts.2 c3 (by rw [hc0]; simp)
  have hol := hg.odds.1
  have hmx1 : ∀ j, j < vo → gI sc j ≤ mxK sc (sc.length - 1) := fun j hj => mxK_ge sc _ j (by omega)
  have hmx2 : mxK sc (sc.length - 1) ≤ 2147483647 := mxK_le sc _ fun j hj => (gI_mem hw (by omega)).2
  have hK' := hK
  rw [ht] at hK'
  simp only [Int.toNat_natCast, wgtM] at hK'
  have hKl := fun g => hK' g l (by rw [← hsc]; exact hl)
  clear hK hK'
  generalize l.take top = L at *
  simp [hL]
  generalize hmx : mxK sc (sc.length - 1) = mx at *
  refine wp_mloop (fun fr s => ∃ k : Nat, k ≤ top ∧ s = st ++ [.row 27 11 [V.agg [I m.kind, I (vo : Int), I m.width, I (top : Int), .lst (fl 0) (ints m.cuts), .lst (fl 1) (ints m.embed), .lst (fl 2) (ints m.place), .lst (fl 3) (ints m.mix), .lst (fl 4) (ints m.out), .lst (fl 5) (ints m.soft), .lst (fl 6) (ints m.odds)]], .row 3 1 (ints (wfold m sc (mapR vo fun _ => 0) (L.take k)))] ∧ fr.df = [] ∧ fr.g 1 = vs ∧ fr.g 2 = .ptr st.length 1 0 0 ∧ fr.g 5 = .own (st.length + 1) vo 0 vo ∧ fr.g 6 = I mx ∧ fr.g 17 = .lst b (ints L) ∧ fr.g 18 = I top ∧ fr.g 19 = I k) (fun fr _ => top - nat (fr.g 19))
    ⟨0, by omega, by simp [wfold], by simp, by simp, by simp, by simp, by simp, by simp, by simp, by simp⟩ ?_
  rintro fr s ⟨k, hk, rfl, hdf, z1, z2, z5, z6, z17, z18, z19⟩
  have hwl := wfold_len m sc (L.take k) (mapR vo fun _ => 0)
  rw [mapR_len] at hwl
  have hw1 : IntKind.i64.wrap ((k : Int) + 1) = ((k + 1 : Nat) : Int) := by rw [w64 (n := (k : Int) + 1) (by omega) (by omega)]; push_cast; rfl
  by_cases hlt : k < top
  · have hx := List.getElem?_eq_getElem (show k < L.length by omega)
    have hxr := hLr _ (List.getElem_mem (show k < L.length by omega))
    have hts : wfold m sc (mapR vo fun _ => 0) (L.take (k + 1)) = (wfold m sc (mapR vo fun _ => 0) (L.take k)).set (L[k]'(by omega)).toNat (wvM m sc (L[k]'(by omega))) := by rw [List.take_add_one, hx, ← wfold_snoc]; rfl
    generalize L[k]'(by omega) = v at *
    obtain ⟨x, rfl⟩ : ∃ x : Nat, v = (x : Int) := ⟨v.toNat, by omega⟩
    obtain ⟨p, hp⟩ := hr.el2 (k := x) (x := gI sc x) (by rw [gI, List.getElem?_eq_getElem (by omega)]; rfl)
    have p1 := fun e => (hp e).1
    have p2 := fun e => (hp e).2
    have hsr := gI_mem hw (show x < sc.length by omega)
    have hs1 := hmx1 x (by omega)
    have hp := pow_rng (k := c3.toNat) (by omega)
    have hd0 : 0 ≤ (mx - gI sc x).fdiv (2 ^ c3.toNat) := Int.fdiv_nonneg (by omega) (by omega)
    generalize hci : min ((mx - gI sc x).fdiv (2 ^ c3.toNat)) ((m.odds.length : Int) - 1) = ci at *
    have hoi := ints_get (l := m.odds) (k := ci.toNat) (x := gI m.odds ci.toNat) (by rw [gI, List.getElem?_eq_getElem (by omega)]; rfl)
    have hwv : wvM m sc x = gI m.odds ci.toNat := by
      unfold wvM
      rw [hmx, hg3, ← hci]
      rfl
    generalize wfold m sc (mapR vo fun _ => 0) (L.take k) = acc at *
    have hal := fun hk => ints_get' (List.getElem?_eq_getElem (show x < acc.length by omega)) hk
    simp [z18, z19, hlt]
    simp [z17, ints_get hx]
    refine wp_mtail [] [] ?_
    simp [z1, z2, z5, z6, p1, p2, hcu, hwl, w64 (n := mx - gI sc x) (by omega) (by omega), w64 (n := (m.odds.length : Int) - 1) (by omega) (by omega), IntKind.bits, show (0 : Int) ≤ c3 by omega, show min c3.toNat 64 = c3.toNat by omega, hci, hoi, show 0 ≤ ci by omega, show x < vo by omega]
    simp [hal, ints_set, z19, hw1, -Int.natCast_add]
    have hts' : wfold m sc (mapR vo fun _ => 0) (L.take (k + 1)) = acc.set x (gI m.odds ci.toNat) := by rw [hts, hwv]; rfl
    exact ⟨⟨k + 1, hlt, by rw [hts'], hdf, z17, z18, rfl⟩, by omega⟩
  · obtain rfl : k = top := by omega
    simp [z18, z19, hdf, z5]
    have htk : L.take k = L := List.take_of_length_le (by omega)
    rw [htk] at hwl ⊢
    have hfr := Frz.row (n := st.length) (st.length + 1) vo 0 vo 3 1 (ints (wfold m sc (mapR vo fun _ => 0) L)) (by omega) (st := st ++ [.row 27 11 [V.agg [I m.kind, I (vo : Int), I m.width, I (k : Int), .lst (fl 0) (ints m.cuts), .lst (fl 1) (ints m.embed), .lst (fl 2) (ints m.place), .lst (fl 3) (ints m.mix), .lst (fl 4) (ints m.out), .lst (fl 5) (ints m.soft), .lst (fl 6) (ints m.odds)]], .row 3 1 (ints (wfold m sc (mapR vo fun _ => 0) L))]) (by simp) (by simp [hwl]) (ints_cells _)
    have htt : List.take vo (List.drop 0 (ints (wfold m sc (mapR vo fun _ => 0) L))) = ints (wfold m sc (mapR vo fun _ => 0) L) := by rw [List.drop_zero]; exact List.take_of_length_le (by simp [hwl])
    rw [htt] at hfr
    exact ⟨_, hfr, Keep0.low (Keep0.refl _), hKl false⟩
end
end Go.Proofs.YtadkhechobeccaaGreatDoor.Vm
namespace Go.Proofs.YtadkhechobeccaaGreatDoor.Vm
open Go.RowKit Go.Sort
section
variable {T : Tbl} {M : Nat → Bool} {st : St} {K : V → St → Prop} {Kp : List PanicEntry → St → Prop} {m : Nat}
theorem encs_nums (d : Array (_root_.Fin (m + 1))) : encs encN d = ints (d.toList.map fun i => (i.val : Int)) := by
  unfold encs ints
  rw [List.map_map]
  rfl
theorem enter_ref : ∀ args w, (callFunc 72 args).run Tryz.prog w = .ok (.enter 72 args) w := fun _ _ => by kernel_rfl
theorem enter_pro : ∀ args w, (callFunc 93 args).run Tryz.prog w = .ok (.enter 93 args) w := fun _ _ => by kernel_rfl
theorem at_sc {sc : List Int} (hsc : sc.length = m + 1) (x : _root_.Fin (m + 1)) : sc[x.val]? = some (gI sc x.val) := by
  have h : x.val < sc.length := by omega
  simp [gI, h]
theorem lays_ref {sc : List Int} (hsc : sc.length = m + 1) {w : World} {g c sb so cap : Nat} (hcg : c ≠ g) (hcw : c < w.heap.size) (hc : w.cell? ⟨c, 0, none⟩ = some (.slice (some ⟨sb, so, none⟩) sc.length cap)) (hsg : sb ≠ g) (hsw : sb < w.heap.size) (hs : ∀ i x, sc[i]? = some x → w.cell? ⟨sb, so + i, none⟩ = some (.int .i64 x)) (hn : m + 1 < 4611686018427387904) :
    CmpLays1 Tryz.prog 72 #[.pointer (some ⟨c, 0, none⟩)] (encN (m := m)) (refC (m := m) sc) g 0 (row0 m).size w := fun q os dk _ x y => by
  have h := ranked1_any x.val y.val (gI sc x.val) (gI sc y.val) sc.length cap c sb so (sortWorld encN w g 0 q dk os) (by rw [sort_other hcg hcw]; exact hc) (by omega) (by omega) (by omega) (by rw [sort_other hsg hsw]; exact hs _ _ (at_sc hsc x)) (by rw [sort_other hsg hsw]; exact hs _ _ (at_sc hsc y))
  exact h
theorem lays_pro {sc : List Int} (hsc : sc.length = m + 1) {w : World} {g c sb so cap : Nat} (hcg : c ≠ g) (hcw : c < w.heap.size) (hc : w.cell? ⟨c, 0, none⟩ = some (.slice (some ⟨sb, so, none⟩) sc.length cap)) (hsg : sb ≠ g) (hsw : sb < w.heap.size) (hs : ∀ i x, sc[i]? = some x → w.cell? ⟨sb, so + i, none⟩ = some (.int .i64 x)) :
    CmpLays1 Tryz.prog 93 #[.pointer (some ⟨c, 0, none⟩)] (encN (m := m)) (proC (m := m) sc) g 0 (row0 m).size w := fun q os dk _ x y => by
  have h := rank1_any x.val y.val (gI sc x.val) (gI sc y.val) sc.length cap c sb so (sortWorld encN w g 0 q dk os) (by rw [sort_other hcg hcw]; exact hc) (by omega) (by omega) (by rw [sort_other hsg hsw]; exact hs _ _ (at_sc hsc x)) (by rw [sort_other hsg hsw]; exact hs _ _ (at_sc hsc y))
  exact h.mono fun _ _ ⟨he, p, hw⟩ => ⟨he, p, #[], by rw [hw, grow_empty]⟩
theorem fn_ptr {E : Env} {w : World} {g b' : Nat} {u : Value} (h : Rel E st w (.fn g [.ptr b' 1 0 0]) u) : ∃ p, u = .func (.func g) #[] #[p] ∧ Rel E st w (.ptr b' 1 0 0) p := by
  cases h with
  | pure h => cases h
  | fn _ _ us hn hr =>
    match us, hn with
    | [p], _ => exact ⟨p, rfl, hr 0 _ p rfl rfl⟩
theorem sortRef_v {b b' t t' : Nat} {v : V} {sc : List Int} (hv : Src st b v sc) (hsc : sc.length = m + 1) (hm : m + 1 < 4611686018427387904) (hb : st[b]? = some (.row t 1 (ints (idxs (m + 1))))) (hb' : st[b']? = some (.row t' 1 [v])) (hne : b' ≠ b) (hM : M b = true) (hK : ∀ l, IsRank sc (m + 1) l → K (.tup []) (st.set b (.row t 1 (ints l)))) :
    CallV Tryz.prog T M 71 [.own b (m + 1) 0 (m + 1), .fn 72 [.ptr b' 1 0 0]] st K Kp := by
  have hn := row0_size (m := m)
  rw [← row0_nums, ← encs_nums] at hb
  have H := CallV.sorted (P := Tryz.prog) (T := T) (M := M) (K := K) (Kp := Kp) (f := 71) (g := 72) (caps := [.ptr b' 1 0 0]) (d := row0 m) (R := fun d' => IsRank sc (m + 1) (d'.toList.map fun i => (i.val : Int))) [] (by kernel_rfl) (fun _ => rfl) hb (by omega) hM (fun B w0 E w u cap hR hu hap hnz hH hbs => by
    obtain ⟨p, rfl, hp⟩ := fn_ptr hu
    obtain ⟨sb, so, cap', rfl, hκ, hcs, hc, hsg, hsw, hs⟩ := box_sees hR hv hap hnz hb' hp (by omega)
    refine (Tryz.slices_SortFunc encN (fun _ => rfl) (refC sc) (swo_ref sc) 72 _ (E.φ b) 0 cap (row0 m) w enter_ref (lays_ref hsc (hap b' t' 1 _ hb' hne hκ) hcs hc hsg hsw hs hm) hH hbs (by omega)).mono ?_
    rintro e w' ⟨he, d', n, os, hP, hS, hw⟩
    rw [hn] at hP hS
    exact ⟨he, d', n, os, rank_of hP hS, hP.1, hw⟩) (fun d' hR _ => by rw [encs_nums]; exact hK _ hR)
  rw [hn] at H
  exact H
theorem insSort_v {b b' t t' : Nat} {v : V} {sc : List Int} (hv : Src st b v sc) (hsc : sc.length = m + 1) (hm : m + 1 < 4611686018427387904) (hb : st[b]? = some (.row t 1 (ints (idxs (m + 1))))) (hb' : st[b']? = some (.row t' 1 [v])) (hne : b' ≠ b) (hM : M b = true) (hK : ∀ l, IsRank sc (m + 1) l → K (.tup []) (st.set b (.row t 1 (ints l)))) :
    CallV Tryz.prog T M 132 [.own b (m + 1) 0 (m + 1), I 0, I ((m + 1 : Nat) : Int), .fn 93 [.ptr b' 1 0 0]] st K Kp := by
  have hn := row0_size (m := m)
  rw [← row0_nums, ← encs_nums] at hb
  have H := CallV.sorted (P := Tryz.prog) (T := T) (M := M) (K := K) (Kp := Kp) (f := 132) (g := 93) (caps := [.ptr b' 1 0 0]) (d := row0 m) (R := fun d' => IsRank sc (m + 1) (d'.toList.map fun i => (i.val : Int))) [.int .i64 0, .int .i64 ((m + 1 : Nat) : Int)] (by kernel_rfl) (fun _ => rfl) hb (by omega) hM (fun B w0 E w u cap hR hu hap hnz hH hbs => by
    obtain ⟨p, rfl, hp⟩ := fn_ptr hu
    obtain ⟨sb, so, cap', rfl, hκ, hcs, hc, hsg, hsw, hs⟩ := box_sees hR hv hap hnz hb' hp (by omega)
    refine (Tryz.insertionSortCmpFunc_s encN (proC sc) 93 _ (E.φ b) 0 cap 0 (m + 1) (row0 m) (row0 m) w w enter_pro (lays_pro hsc (hap b' t' 1 _ hb' hne hκ) hcs hc hsg hsw hs) ⟨fun _ => rfl, hH, hbs⟩ rfl (SW.start hH) (Nat.zero_le _) (by omega) (by omega)).mono ?_
    rintro e w' ⟨he, n, os, hw⟩
    have hp := insertionSort_holds (lt := ltOf (refC (m := m) sc)) (swo_ref sc) (row0 m) 0 (m + 1) (Nat.zero_le _) (by omega)
    exact ⟨he, _, n, os, rank_pro sc, by rw [sort_congr]; exact hp.1.1, hw⟩) (fun d' hR _ => by rw [encs_nums]; exact hK _ hR)
  rw [hn] at H
  exact H
end
end Go.Proofs.YtadkhechobeccaaGreatDoor.Vm
namespace Go.Proofs.YtadkhechobeccaaGreatDoor.Vm
open Go.RowKit
section
variable {T : Tbl} {M : Nat → Bool} {st : St} {K : V → St → Prop} {Kp : List PanicEntry → St → Prop} {m : Nat}
set_option maxRecDepth 10000 in
theorem stable_v {b b' t t' : Nat} {v : V} {sc : List Int} (hv : Src st b v sc) (hsc : sc.length = m + 1) (hm : m + 1 ≤ 16) (hb : st[b]? = some (.row t 1 (ints (idxs (m + 1))))) (hb' : st[b']? = some (.row t' 1 [v])) (hne : b' ≠ b) (hM : M b = true) (hK : ∀ l, IsRank sc (m + 1) l → K (.tup []) (st.set b (.row t 1 (ints l)))) :
    CallV Tryz.prog T M 112 [.own b (m + 1) 0 (m + 1), I ((m + 1 : Nat) : Int), .fn 93 [.ptr b' 1 0 0]] st K Kp := by
  obtain ⟨n, hn⟩ : ∃ n, m + 1 = n := ⟨_, rfl⟩
  refine fun_ok hmix c_stableCmp (le_of rfl) ?_
  simp [F_stableCmp, hn, -Int.natCast_add]
  refine wp_mloop (fun fr s => s = st ∧ fr.df = [] ∧ fr.g 0 = .own b n 0 n ∧ fr.g 1 = I n ∧ fr.g 2 = .fn 93 [.ptr b' 1 0 0] ∧ fr.g 6 = I 20 ∧ fr.g 7 = I 0 ∧ fr.g 8 = I 20) (fun _ _ => 0) (by simp) ?_
  rintro fr s ⟨rfl, hdf, z0, z1, z2, z6, z7, z8⟩
  simp [z8, z1, show ¬ (20 : Int) ≤ n by omega]
  simp [z0, z2, z7]
  subst hn
  refine insSort_v hv hsc (by omega) hb hb' hne (by simp [upM, hM]) fun l hl => ?_
  simp
  refine wp_mloop (fun fr s' => s' = s.set b (.row t 1 (ints l)) ∧ fr.df = [] ∧ fr.g 1 = I ((m + 1 : Nat) : Int) ∧ fr.g 6 = I 20) (fun _ _ => 0) (by simp [z6, z1, hdf]) ?_
  clear z0 z1 z2 z6 z7 z8 hdf
  rintro fr s' ⟨rfl, hdf, z1, z6⟩
  simp [z6, z1, hdf, -Int.natCast_add, show ¬ (20 : Int) < ((m + 1 : Nat) : Int) by omega]
  exact hK l hl
set_option maxRecDepth 10000 in
theorem sortStable_v {b b' t t' : Nat} {v : V} {sc : List Int} (hv : Src st b v sc) (hsc : sc.length = m + 1) (hm : m + 1 ≤ 16) (hb : st[b]? = some (.row t 1 (ints (idxs (m + 1))))) (hb' : st[b']? = some (.row t' 1 [v])) (hne : b' ≠ b) (hM : M b = true) (hK : ∀ l, IsRank sc (m + 1) l → K (.tup []) (st.set b (.row t 1 (ints l)))) :
    CallV Tryz.prog T M 92 [.own b (m + 1) 0 (m + 1), .fn 93 [.ptr b' 1 0 0]] st K Kp := by
  refine fun_ok hmix c_sortStable (le_of rfl) ?_
  have hil : (ints (idxs (m + 1))).length = m + 1 := by simp
  simp [F_sortStable, hb, hil, -Int.natCast_add]
  exact stable_v hv hsc hm hb hb' hne (by simp [upM, hM]) fun l hl => hK l hl
theorem set_step (n k : Nat) : (mapR n fun i => if i < k then (i : Int) else 0).set k (k : Int) = mapR n fun i => if i < k + 1 then (i : Int) else 0 := by
  refine List.ext_getElem (by simp) fun i h1 h2 => ?_
  rw [List.getElem_set]
  simp only [mapR, List.getElem_map, List.getElem_range]
  by_cases e : k = i
  · subst e; simp
  · rw [if_neg e]
    by_cases h : i < k
    · rw [if_pos h, if_pos (by omega)]
    · rw [if_neg h, if_neg (by omega)]
theorem all_set (n : Nat) : (mapR n fun i => if i < n then (i : Int) else 0) = idxs n := by
  refine List.ext_getElem (by simp) fun i h1 h2 => ?_
  have : i < n := by simpa using h1
  simp [idxs, mapR, this]
/-- the reference's rank -/
theorem ranked_ok : RankOk 38 := by
  intro T M st K Kp v sc k hv h1 h16 hk1 hk hK
  have hcv : v.cells = [v] := by rcases hv with ⟨f, rfl⟩ | ⟨b2, t2, rfl, -⟩ <;> rfl
  have hlv : v.leaf = true := by rcases hv with ⟨f, rfl⟩ | ⟨b2, t2, rfl, -⟩ <;> rfl
  have hlen := (hv.more [.row 22 1 [v]]).len
  obtain ⟨n, hn⟩ : ∃ n, sc.length = n := ⟨_, rfl⟩
  rw [hn] at h1 h16 hk hlen
  refine CallV.give (fun_ok hmix c_ranked (le_of rfl) ?_)
  simp [F_ranked, hcv, hlv, allLeaf, hlen]
  obtain ⟨s0, hs0⟩ : ∃ s0, s0 = st ++ [Blk.row 22 1 [v]] := ⟨_, rfl⟩
  have hsl : s0.length = st.length + 1 := by rw [hs0]; simp
  have hMb : s0[st.length]? = some (.row 22 1 [v]) := by rw [hs0]; simp
  rw [← hs0]
  refine wp_mloop (fun fr s => ∃ j : Nat, j ≤ n ∧ Keep0 s0 s ∧ OutS s0.length 3 1 s (fr.g 5) (ints (idxs j)) ∧ fr.df = [] ∧ fr.g 1 = I k ∧ fr.g 2 = .ptr st.length 1 0 0 ∧ fr.g 8 = I n ∧ fr.g 9 = I j) (fun fr _ => n - nat (fr.g 9))
    ⟨0, by omega, Keep0.refl _, by simpa [idxs, mapR, ints] using OutS.nil _ _ _ _, by simp, by simp, by simp, by simp, by simp⟩ ?_
  rintro fr s ⟨j, hj, hkp, ho, hdf, z1, z2, z8, z9⟩
  by_cases hlt : j < n
  · have hw1 : IntKind.i64.wrap ((j : Int) + 1) = ((j + 1 : Nat) : Int) := by rw [w64 (n := (j : Int) + 1) (by omega) (by omega)]; push_cast; rfl
    simp [z8, z9, hlt]
    refine app_one ho hkp (fun b hb q => by have := (ho.lt b hb).1; simp [liftM, upM]; omega) (by simp; omega) fun v' s' ho' hk' => ?_
    simp only [hw1]
    exact ⟨⟨j + 1, hlt, hk', by rw [idxs_succ]; exact ho', hdf, z1, z2, rfl⟩, by simp; omega⟩
  · obtain rfl : j = n := by omega
    rcases ho with ⟨hnil, -⟩ | ⟨b, hb1, hb2, hb3⟩
    · have := congrArg List.length hnil
      simp at this
      omega
    obtain ⟨m, rfl⟩ : ∃ m, j = m + 1 := ⟨j - 1, by omega⟩
    simp at hb3
    have hb4 := hkp.at_ hMb
    simp [z8, z9, hb3, z2, -Int.natCast_add]
    have hsrc : Src s b v sc := by
      rcases hv with ⟨f, rfl⟩ | ⟨b2, t2, rfl, h2⟩
      · exact Or.inl ⟨f, rfl⟩
      · have hlt2 : b2 < st.length := (List.getElem?_eq_some_iff.1 h2).1
        exact Or.inr ⟨b2, t2, rfl, by omega, (hkp.get b2 (by omega)).trans (by rw [hs0, List.getElem?_append_left hlt2]; exact h2)⟩
    refine sortRef_v hsrc hn (by omega) hb2 hb4 (by omega) (by simp [upM]; omega) fun l hl => ?_
    have hll := hl.len
    have hbl : b < s.length := (List.getElem?_eq_some_iff.1 hb2).1
    have hset : (s.set b (.row 3 1 (ints l)))[b]? = some (.row 3 1 (ints l)) := List.getElem?_set_self hbl
    have hkq : Keep0 s0 (s.set b (.row 3 1 (ints l))) := hkp.trans (by simp) fun q hq => List.getElem?_set_ne (by omega)
    simp [z1, hk, hll, hset]
    have hfr := Frz.row (n := st.length) b (m + 1) 0 k 3 1 (ints l) (by omega) (st := s.set b (.row 3 1 (ints l))) hset (by simp [hll]) (ints_cells _)
    rw [List.drop_zero, ints_take] at hfr
    rw [hs0] at hkq
    exact ⟨hdf, _, hfr, hkq.low, by rw [hkq.take]; exact hK false l (by rw [hn]; exact hl)⟩
end
end Go.Proofs.YtadkhechobeccaaGreatDoor.Vm
namespace Go.Proofs.YtadkhechobeccaaGreatDoor.Vm
open Go.RowKit
@[simp ↓] theorem ob_slz {T : Tbl} {M : Nat → Nat → Bool} {fr : Fr} {st : St} {K : V → St → Prop} (k : Nat) (x : Od) (l : Option Od) (h m : Od) : obind2 (mEff T M (.slf k x l h m) fr st) K = obind (x.ev T fr) fun x => obind (evo T fr 0 l) fun l => obind (evo T fr 0 (some h)) fun h => obind (evo T fr 0 (some m)) fun m => obind2 (slzV k st l h m x) K := by simp [mEff]
/-- the program's rank -/
theorem rank_ok : RankOk 65 := by
  intro T M st K Kp v sc k hv h1 h16 hk1 hk hK
  have hcv : v.cells = [v] := by rcases hv with ⟨f, rfl⟩ | ⟨b2, t2, rfl, -⟩ <;> rfl
  have hlv : v.leaf = true := by rcases hv with ⟨f, rfl⟩ | ⟨b2, t2, rfl, -⟩ <;> rfl
  have hlen := (hv.more [.row 22 1 [v]]).len
  obtain ⟨n, hn⟩ : ∃ n, sc.length = n := ⟨_, rfl⟩
  rw [hn] at h1 h16 hk hlen
  refine CallV.give (fun_ok hmix c_rank (le_of rfl) ?_)
  simp [F_rank, hcv, hlv, allLeaf, hlen]
  refine ⟨by omega, ?_⟩
  rw [rep_ints]
  refine wp_mloop (fun fr s => ∃ j : Nat, j ≤ n ∧ s = st ++ [.row 22 1 [v], .row 3 1 (ints (mapR n fun i => if i < j then (i : Int) else 0))] ∧ fr.df = [] ∧ fr.g 1 = I k ∧ fr.g 2 = .ptr st.length 1 0 0 ∧ fr.g 5 = .own (st.length + 1) n 0 n ∧ fr.g 11 = I n ∧ fr.g 12 = I j) (fun fr _ => n - nat (fr.g 12))
    ⟨0, by omega, by simp, by simp, by simp, by simp, by simp, by simp, by simp⟩ ?_
  rintro fr s ⟨j, hj, rfl, hdf, z1, z2, z5, z11, z12⟩
  by_cases hlt : j < n
  · have hst := set_step n j
    have hwl : (mapR n fun i => if i < j then (i : Int) else 0).length = n := mapR_len _ _
    have hw1 : IntKind.i64.wrap ((j : Int) + 1) = ((j + 1 : Nat) : Int) := by rw [w64 (n := (j : Int) + 1) (by omega) (by omega)]; push_cast; rfl
    generalize (mapR n fun i => if i < j then (i : Int) else 0) = acc at *
    have hal := fun hk => ints_get' (List.getElem?_eq_getElem (show j < acc.length by omega)) hk
    simp [z11, z12, hlt]
    simp [z5, hlt, hwl, hal, ints_set, hw1, -Int.natCast_add]
    exact ⟨⟨j + 1, hlt, by rw [hst], hdf, z1, z2, rfl⟩, by omega⟩
  · obtain rfl : j = n := by omega
    rw [all_set]
    simp [z11, z12, z5, z2]
    obtain ⟨m, rfl⟩ : ∃ m, j = m + 1 := ⟨j - 1, by omega⟩
    have hsrc : Src (st ++ [.row 22 1 [v], .row 3 1 (ints (idxs (m + 1)))]) (st.length + 1) v sc := by
      rcases hv with ⟨f, rfl⟩ | ⟨b2, t2, rfl, h2⟩
      · exact Or.inl ⟨f, rfl⟩
      · have hlt2 : b2 < st.length := (List.getElem?_eq_some_iff.1 h2).1
        exact Or.inr ⟨b2, t2, rfl, by omega, by rw [List.getElem?_append_left hlt2]; exact h2⟩
    refine sortStable_v hsrc hn h16 (b := st.length + 1) (b' := st.length) (t := 3) (t' := 22) (by simp) (by simp) (by omega) (by simp [upM]) fun l hl => ?_
    have hll := hl.len
    simp only [z1]
    refine Or.inr ?_
    simp [slzV, hk, hll, hdf]
    rw [ints_take]
    exact ⟨⟨by omega, fun x hx y hy => (ints_cells l x hx y hy).2⟩, _, .same _ rfl, Keep0.low (Keep0.refl _), hK true l (by rw [hn]; exact hl)⟩
end Go.Proofs.YtadkhechobeccaaGreatDoor.Vm
namespace Go.Proofs.YtadkhechobeccaaGreatDoor.Vm
open Go.RowKit
section
variable {T : Tbl} {M : Nat → Bool} {st : St} {K : V → St → Prop} {Kp : List PanicEntry → St → Prop}
/-- the model passes its check -/
def ChkOk (fl : Nat → Bool) (m : LModel) : Prop := ∀ (T : Tbl) (M : Nat → Bool) (s : St) (K : V → St → Prop) (Kp : List PanicEntry → St → Prop), K (I 0) s → CallV Tryz.prog T M 30 [encM fl m] s K Kp
theorem frz_two {n : Nat} {s : St} {x y : V} (hx : x.pl = true) (hy : y.pl = true) : Frz n s (.tup [x, y]) (.tup [x, y]) := by
  refine .tup _ _ rfl fun i a b ha hb => ?_
  rw [ha] at hb
  cases hb
  match i with
  | 0 => cases ha; exact .same _ (V.leaf_pure hx _)
  | 1 => cases ha; exact .same _ (V.leaf_pure hy _)
theorem mWeights_short {m : LModel} {vo : Nat} (fl : Nat → Bool) (hC : ChkOk fl m) (hv : m.vocab = (vo : Int)) {vs : V} {q : Nat} (hq : ∀ e, lenV (st ++ e) vs = some (I q)) (hn : q ≠ vo) (hK : K (.tup [.lst true [], I 3]) st) : CallV Tryz.prog T M 11 [encM fl m, vs] st K Kp := by
  refine CallV.give (fun_ok hmix c_mWeights (le_of rfl) ?_)
  have hC' := hC
  unfold ChkOk encM at hC'
  simp [F_mWeights, encM]
  refine hC' _ _ _ _ _ ?_
  have hb : ((q : Int) != (vo : Int)) = true := by simp; omega
  simp [hq, hv, hb]
  exact ⟨_, frz_two rfl rfl, Keep0.low (Keep0.refl _), by simpa using hK⟩
theorem mWeights_v {m : LModel} {vo : Nat} (fl : Nat → Bool) (hC : ChkOk fl m) (hg : GenM m) (hv : m.vocab = (vo : Int)) {vs : V} {x : List Int} (hr : Rd st vs x) (hx : x.length = vo) (hK1 : x.all (inB (-2147483648) 2147483647) = false → K (.tup [.lst true [], I 9]) st) (hK2 : x.all (inB (-2147483648) 2147483647) = true → ∀ g l, IsRank x vo l → K (.tup [.lst g (ints (wgtM m x vo m.top.toNat l)), I 0]) st) : CallV Tryz.prog T M 11 [encM fl m, vs] st K Kp := by
  have hv2 := hg.vocab
  refine CallV.give (fun_ok hmix c_mWeights (le_of rfl) ?_)
  have hC' := hC
  unfold ChkOk encM at hC'
  simp [F_mWeights, encM]
  refine hC' _ _ _ _ _ ?_
  have hq := fun e => (hr.more e).len
  rw [hx] at hq
  simp [hq, hv]
  refine all_v (hr.more _) (by omega) _ _ ?_
  cases ha : x.all (inB (-2147483648) 2147483647) with
  | false =>
    simp
    exact ⟨_, frz_two rfl rfl, Keep0.low (Keep0.refl _), by simpa using hK1 ha⟩
  | true =>
    simp
    have hw : ∀ z ∈ x, -2147483648 ≤ z ∧ z ≤ 2147483647 := fun z hz => by
      have := List.all_eq_true.1 ha z hz
      simpa [inB] using this
    have hW := fun (M : Nat → Bool) (K : V → St → Prop) (Kp : List PanicEntry → St → Prop) (e : St) => weights_v (T := T) (M := M) (K := K) (Kp := Kp) rank_ok fl hg hv x (hr.more e) hx hw
    unfold encM at hW
    rw [hv] at hW
    refine hW _ _ _ _ fun g l hl => ?_
    simp
    exact ⟨_, frz_two rfl rfl, Keep0.low (Keep0.refl _), by simpa using hK2 ha g l hl⟩
end
end Go.Proofs.YtadkhechobeccaaGreatDoor.Vm
namespace Go.Proofs.YtadkhechobeccaaGreatDoor.Vm
open Go.RowKit
end Go.Proofs.YtadkhechobeccaaGreatDoor.Vm
namespace Go.Proofs.YtadkhechobeccaaGreatDoor.Vm
open Go.RowKit
open Classical in
/-- the rank of n scores -/
noncomputable def rankL (sc : List Int) (n : Nat) : List Int := if h : ∃ l, IsRank sc n l then h.choose else []
theorem IsRank.eq {sc : List Int} {n : Nat} {l : List Int} (h : IsRank sc n l) : l = rankL sc n := by
  have hx : ∃ l, IsRank sc n l := ⟨l, h⟩
  unfold rankL
  rw [dif_pos hx]
  exact h.unique hx.choose_spec
/-- the weights of the tokens -/
noncomputable def wgL (m : LModel) (sc : List Int) (vo : Nat) : List Int := wgtM m sc vo m.top.toNat (rankL sc vo)
section
variable {T : Tbl} {M : Nat → Bool} {st : St} {K : V → St → Prop} {Kp : List PanicEntry → St → Prop}
theorem refWeights_v2 {m : LModel} {vo : Nat} (fl : Nat → Bool) (hg : GenM m) (hv : m.vocab = (vo : Int)) {vs : V} (sc : List Int) (hr : Rd st vs sc) (hsc : sc.length = vo) (hw : ∀ x ∈ sc, -2147483648 ≤ x ∧ x ≤ 2147483647) (hK : ∀ g, K (.lst g (ints (wgL m sc vo))) st) : CallV Tryz.prog T M 14 [encM fl m, vs] st K Kp :=
  refWeights_v ranked_ok fl hg hv sc hr hsc hw fun g l hl => by rw [hl.eq]; exact hK g
end
end Go.Proofs.YtadkhechobeccaaGreatDoor.Vm
namespace Go.Proofs.YtadkhechobeccaaGreatDoor.Vm
open Go.RowKit
theorem GenM.lb {m : LModel} (h : GenM m) : LB 2000 200 m := by
  obtain ⟨h1, h2, h3, h4, h5, h6, ⟨⟨r, r1, r2, r3⟩, h7⟩, ⟨⟨q, q1, q2, -, -, q3⟩, h8⟩, h9, h10, h11⟩ := h
  have hw : 0 ≤ m.vocab * m.width ∧ m.vocab * m.width ≤ 80 := ⟨Int.mul_nonneg (by omega) (by omega), Int.mul_le_mul h2.2 h3.2 (by omega) (by omega)⟩
  have hr : r * m.width ≤ 80 := Int.mul_le_mul r2 h3.2 (by omega) (by omega)
  have hq : q * m.width ≤ 20 ∧ 0 ≤ q * m.width := ⟨Int.mul_le_mul q2 h3.2 (by omega) (by omega), Int.mul_nonneg (by omega) (by omega)⟩
  have hq2 : q * m.width * m.width ≤ 100 := Int.mul_le_mul hq.1 h3.2 (by omega) (by omega)
  have key : ∀ {l : List Int} {a b : Int}, l.length ≤ 200 → -2000 ≤ a → b ≤ 2000 → (∀ x ∈ l, a ≤ x ∧ x ≤ b) → l.length ≤ 200 ∧ ∀ x ∈ l, -2000 ≤ x ∧ x ≤ 2000 := fun hl ha hb h => ⟨hl, fun x hx => by have := h x hx; omega⟩
  refine ⟨fun x hx => ?_, fun l hl => ?_⟩
  · simp at hx
    rcases hx with rfl | rfl | rfl | rfl <;> omega
  · simp at hl
    rcases hl with rfl | rfl | rfl | rfl | rfl | rfl | rfl
    · exact key (by omega) (by omega) (by omega) h5.2
    · exact key (by omega) (by omega) (by omega) h6.2
    · exact key (by omega) (by omega) (by omega) h7
    · exact key (by omega) (by omega) (by omega) h8
    · exact key (by omega) (by omega) (by omega) h9.2
    · exact key (by omega) (by omega) (by omega) h10.2
    · exact key (by omega) (by omega) (by omega) h11.2.1
theorem LB.wide {B B' : Int} {n n' : Nat} {m : LModel} (h : LB B n m) (hB : B ≤ B') (hn : n ≤ n') : LB B' n' m :=
  ⟨fun x hx => by have := h.sc x hx; omega, fun l hl => ⟨by have := (h.ls l hl).1; omega, fun x hx => by have := (h.ls l hl).2 x hx; omega⟩⟩
section
variable {n sb : Nat} {st s : St} {f : Bool} {xs : List Int} {a : Int} {T : Tbl} {M : Nat → Bool} {K : V → St → Prop} {Kp : List PanicEntry → St → Prop}
theorem gmodel_g (g : GS n sb st s f xs a) (hM : M sb = true) (ha : 0 ≤ a ∧ a ≤ 10000000) (hK : ∀ fl m s' a', GenM m → a ≤ a' → a' ≤ a + 10000 → GS n sb st s' f xs a' → But sb s s' → K (encM fl m) s') : CallV Tryz.prog T M 6 [.ptr sb 1 0 0] s K Kp :=
  gmodel_v sb g.str hM g.src ha fun fl m a' h1 h2 h3 => hK fl m _ a' h1 h2 h3 (g.next _) (But.set _ _ _)
end
end Go.Proofs.YtadkhechobeccaaGreatDoor.Vm
namespace Go.Proofs.YtadkhechobeccaaGreatDoor.Vm
open Go.RowKit
section
variable {P : Program} {T : Tbl} {M : Nat → Bool} {st : St} {K : V → St → Prop} {Kp : List PanicEntry → St → Prop} {E : Env} {w : World}
/-- a contract of another make that only reads -/
theorem CallV.of_read {f : Nat} {args : List V} {uV : V} {u : Value} {G : World → List Value → Prop} (hx : entersX P f = true) (hG : ∀ B w0 E w us, Below B w0 w → T.pin B w0 → Pw E st w args us → G w us) (h : ∀ w us, G w us → Calls P f us.toArray w fun e w' => e = .returned u ∧ Below w.heap.size w w') (hr : ∀ E w, Rel E st w uV u) (hK : K uV st) : CallV P T M f args st K Kp := by
  refine ⟨hx, fun B w0 E w us' hR hT hu => ?_⟩
  refine (h w us' (hG B w0 E w us' hR.below hT.2 hu)).mono fun e w' ⟨h1, h2⟩ => ?_
  subst h1
  obtain ⟨g1, g2⟩ := Rep.idle (M := fun b _ => M b) hR (w' := w') ⟨h2.os, h2.tape, h2.output, h2.size, fun k hk _ => h2.block k hk⟩
  exact ⟨E, st, uV, g1, g2, hr _ _, hK⟩
theorem rints_of {f : Bool} {l : List Int} {u : Value} (h : Rel E st w (.lst f (ints l)) u) (hl : l.length ≤ 1000000) : RInts w.cell? u l := by
  obtain ⟨xs, hxs⟩ : ∃ xs, ints l = xs := ⟨_, rfl⟩
  rw [hxs] at h
  have hlen : xs.length = l.length := by rw [← hxs]; simp [ints]
  cases h with
  | pure h => cases h with
    | nil _ A c h =>
      have hl0 : l.length = 0 := by rw [← hlen]; rfl
      exact ⟨A, c, by rw [hl0], by omega, h.2, hl, fun h0 => by omega⟩
    | lst _ _ p n c k us hn hc hf hs hZ hk hlf hw hr =>
      refine ⟨some p, c, by rw [← hn, hlen], by omega, hc.2, hl, fun h0 => ?_⟩
      obtain ⟨pb, po, ps⟩ := p
      simp only at hs
      subst hs
      refine ⟨pb, po, rfl, fun i x hx => ?_⟩
      have hxi : xs[i]? = some (I x) := by rw [← hxs]; simp [ints, hx]
      have h1 : 1 = k := hk i _ hxi
      subst h1
      have h2 := hw i _ hxi 0 (I x) rfl
      have h3 := hr i _ hxi 0 (I x) rfl
      have h4 : us i 0 = .int .i64 x := by
        generalize us i 0 = q at h3
        cases h3
        rfl
      rw [h4] at h2
      simpa [RInt] using h2
theorem vmodel_of {fl : Nat → Bool} {m : LModel} {v : Value} (h : Rel E st w (encM fl m) v) (hl : ∀ l ∈ listsM m, l.length ≤ 1000000) : VModel w.cell? v m := by
  unfold encM at h
  cases h with
  | pure h => cases h
  | agg l us hn hr =>
    match us, hn with
    | [u0, u1, u2, u3, u4, u5, u6, u7, u8, u9, u10], _ =>
      have e0 := (hr 0 _ _ rfl rfl).lit
      have e1 := (hr 1 _ _ rfl rfl).lit
      have e2 := (hr 2 _ _ rfl rfl).lit
      have e3 := (hr 3 _ _ rfl rfl).lit
      subst e0 e1 e2 e3
      exact ⟨_, _, _, _, _, _, _, rfl, rints_of (hr 4 _ _ rfl rfl) (hl _ (by simp [listsM])), rints_of (hr 5 _ _ rfl rfl) (hl _ (by simp [listsM])), rints_of (hr 6 _ _ rfl rfl) (hl _ (by simp [listsM])), rints_of (hr 7 _ _ rfl rfl) (hl _ (by simp [listsM])), rints_of (hr 8 _ _ rfl rfl) (hl _ (by simp [listsM])), rints_of (hr 9 _ _ rfl rfl) (hl _ (by simp [listsM])), rints_of (hr 10 _ _ rfl rfl) (hl _ (by simp [listsM]))⟩
end
end Go.Proofs.YtadkhechobeccaaGreatDoor.Vm
namespace Go.Proofs.YtadkhechobeccaaGreatDoor.Vm
open Go.RowKit
/-- the tables of a run: the powers of ten lie below its start -/
def TW : Tbl := ⟨fun _ => none, fun B w0 => 2 < B ∧ Tabs w0⟩
section
variable {T : Tbl} {M : Nat → Bool} {st : St} {K : V → St → Prop} {Kp : List PanicEntry → St → Prop} {E : Env} {w : World}
theorem pw1 {a : V} {us : List Value} (h : Pw E st w [a] us) : ∃ u, us = [u] ∧ Rel E st w a u := by
  obtain ⟨h1, h2⟩ := h
  match us, h1 with
  | [u], _ => exact ⟨u, rfl, h2 0 a u rfl rfl⟩
theorem pw0 {us : List Value} (h : Pw E st w [] us) : us = [] := List.eq_nil_of_length_eq_zero h.1
theorem works_m (hK : K (Bo true) st) : CallV Tryz.prog TW M 12 [] st K Kp :=
  CallV.of_read (uV := Bo true) (u := .bool true) (G := fun w us => us = [] ∧ Tabs w) (by kernel_rfl) (fun B w0 E w us hb hp hu => ⟨pw0 hu, hp.2.below hp.1 hb⟩) (fun w us ⟨h1, h2⟩ => by subst h1; exact works_any w h2) (fun E w => .pure (.val _)) hK
theorem LB.lens {B : Int} {n : Nat} {m : LModel} (h : LB B n m) : ∀ l ∈ listsM m, l.length ≤ n := fun l hl => (h.ls l (by simpa [listsM] using hl)).1
theorem LB.sum4 {B : Int} {n : Nat} {m : LModel} (h : LB B n m) : sumLen [m.embed, m.place, m.mix, m.out] ≤ 4 * n := by
  have h1 := h.lens m.embed (by simp [listsM])
  have h2 := h.lens m.place (by simp [listsM])
  have h3 := h.lens m.mix (by simp [listsM])
  have h4 := h.lens m.out (by simp [listsM])
  simp [sumLen]; omega
theorem gvm {B : Int} {n : Nat} {fl : Nat → Bool} {m : LModel} (hb : LB B n m) (hn : n ≤ 2000) {us : List Value} (hu : Pw E st w [encM fl m] us) : ∃ v, us = [v] ∧ VModel w.cell? v m := by
  obtain ⟨v, rfl, h1⟩ := pw1 hu
  exact ⟨v, rfl, vmodel_of h1 fun l hl => by have := hb.lens l hl; omega⟩
variable {B : Int} {n : Nat} (fl : Nat → Bool) (m : LModel)
theorem check_m (hb : LB B n m) (hn : n ≤ 2000) (hK : K (I (chkM m)) st) : CallV Tryz.prog T M 30 [encM fl m] st K Kp :=
  CallV.of_read (uV := I (chkM m)) (u := .int .i64 (chkM m)) (G := fun w us => ∃ v, us = [v] ∧ VModel w.cell? v m) (by kernel_rfl) (fun _ _ _ _ _ _ _ hu => gvm hb hn hu) (fun w us ⟨v, h1, h2⟩ => by
    subst h1; exact mcheck_any m v w h2 (by have := hb.sum4; omega)) (fun E w => .pure (.val _)) hK
theorem LB.width {m : LModel} (hb : LB B n m) (hB : B ≤ 100000) : -100000 ≤ m.width ∧ m.width ≤ 100000 := by have := hb.sc m.width (by simp); omega
end
/-- a slice of ints that came in -/
theorem prel_li {w : World} {v : Value} {xs : List Int} (h : LI w v xs) : PRel (fun b => b < w.heap.size) w (.lst false (ints xs)) v := by
  obtain ⟨⟨A, c, rfl, h1, h2, h3⟩, -, -⟩ := h
  rw [i64s_length] at h1 h3 ⊢
  rcases Nat.eq_zero_or_pos xs.length with h0 | h0
  · obtain rfl : xs = [] := List.eq_nil_of_length_eq_zero h0
    exact .nil false A c ⟨by simp, h2⟩
  · obtain ⟨b, o, rfl, hc⟩ := h3 h0
    have cellI : ∀ i, i < xs.length → w.cell? ⟨b, o + i, none⟩ = some (.int .i64 (xs[i]?.getD 0)) := fun i hi => hc i _ (i64s_at hi)
    refine .lst false (ints xs) ⟨b, o, none⟩ xs.length c 1 (fun i _ => .int .i64 (xs[i]?.getD 0)) (by simp) ⟨h1, h2⟩ (by simp) rfl (World.block_lt_of_cell? w _ (cellI 0 h0)) ?_ ?_ ?_ ?_
    · intro i x hx
      obtain ⟨y, -, rfl⟩ := List.mem_map.1 (List.mem_of_getElem? hx)
      rfl
    · intro i x hx j y hy
      obtain ⟨z, -, rfl⟩ := List.mem_map.1 (List.mem_of_getElem? hx)
      simp at hy
      obtain ⟨-, rfl⟩ := List.getElem?_eq_some_iff.1 hy
      match j with
      | 0 => rfl
    · intro i x hx j y hy
      have hi : i < xs.length := by have := (List.getElem?_eq_some_iff.1 hx).1; simpa using this
      obtain ⟨z, -, rfl⟩ := List.mem_map.1 (List.mem_of_getElem? hx)
      match j, hy with
      | 0, _ => exact (by rw [Nat.mul_one, Nat.add_zero] : (⟨b, o + (i * 1 + 0), none⟩ : Addr) = ⟨b, o + i, none⟩) ▸ cellI i hi
    · intro i x hx j y hy
      have hi : i < xs.length := by have := (List.getElem?_eq_some_iff.1 hx).1; simpa using this
      have hx' : x = I (xs[i]?.getD 0) := by
        rw [ints_get (List.getElem?_eq_getElem hi)] at hx
        cases hx
        simp [hi]
      subst hx'
      match j, hy with
      | 0, hy => cases hy; exact .val _
theorem seq_cut {P : Program} {T : Tbl} {M : Nat → Nat → Bool} {st : St} {Q : Post} {K : Fr → St → Prop} {fr : Fr} {ms : List MO} (n : Nat) (h : ∀ L, L = ms.drop n → seqV P T M Q K (ms.take n ++ L) fr st) : seqV P T M Q K ms fr st := by
  have := h _ rfl
  rwa [List.take_append_drop] at this
/-- the operations of a straight piece -/
def MC.ops : MC → List MO
  | .lst ms => ms
  | .flat ms => ms
  | _ => []
end Go.Proofs.YtadkhechobeccaaGreatDoor.Vm
namespace Go.Proofs.YtadkhechobeccaaGreatDoor.Vm
open Go.RowKit
/-- vs stand for es -/
structure EsL (vs : List V) (es : List (List Int)) : Prop where
  len : vs.length = es.length
  get : ∀ (i : Nat) (e : List Int), es[i]? = some e → ∃ g, vs[i]? = some (V.lst g (ints e))
  low : es.length ≤ 1000 ∧ ∀ e ∈ es, e.length ≤ 1000
end Go.Proofs.YtadkhechobeccaaGreatDoor.Vm
namespace Go.Proofs.YtadkhechobeccaaGreatDoor.Vm
open Go.RowKit
theorem But.trans {sb : Nat} {s s1 s2 : St} (h : But sb s s1) (k : But sb s1 s2) : But sb s s2 := ⟨k.1.trans h.1, fun b hb => (k.2 b hb).trans (h.2 b hb)⟩
def isW (x : Int) : Prop := -2147483648 ≤ x ∧ x ≤ 2147483647
section
variable {n sb : Nat} {st s : St} {f : Bool} {xs : List Int} {a : Int} {T : Tbl} {M : Nat → Bool} {K : V → St → Prop} {Kp : List PanicEntry → St → Prop}
theorem next_g2 (g : GS n sb st s f xs a) (hM : M sb = true) (ha : 0 ≤ a ∧ a ≤ 1000000000) (k : Int) (hk : 1 ≤ k ∧ k ≤ 9223372036854775807) (hK : ∀ r s', 0 ≤ r → r < k → GS n sb st s' f xs (a + 1) → But sb s s' → K (I r) s') : CallV Tryz.prog T M 10 [.ptr sb 1 0 0, I k] s K Kp :=
  next_v sb f xs a k g.str hM g.src.1 g.src.2 ha (by omega) fun r _ h2 => hK r _ (h2 hk.1).1 (h2 hk.1).2 (g.next _) (But.set _ _ _)
theorem word_g (g : GS n sb st s f xs a) (hM : M sb = true) (ha : 0 ≤ a ∧ a ≤ 100000000) (hK : ∀ r s' a', isW r → a ≤ a' → a' ≤ a + 3 → GS n sb st s' f xs a' → But sb s s' → K (I r) s') : CallV Tryz.prog T M 8 [.ptr sb 1 0 0] s K Kp := by
  refine fun_ok hmix c_sWord (le_of rfl) ?_
  have hup : upM s.length M sb = true := upM_of hM
  simp [F_sWord]
  refine next_g g hup (by omega) 6 (by omega) fun z s1 z0 z6 g1 b1 => ?_
  by_cases h0 : z = 0
  · simp [h0]
    refine next_g g1 hup (by omega) 3 (by omega) fun r s2 r0 r3 g2 b2 => ?_
    simp [w64 (n := -2147483648 + r) (by omega) (by omega)]
    exact hK _ s2 (a + 1 + 1) ⟨by omega, by omega⟩ (by omega) (by omega) g2 (b1.trans b2)
  · have hb0 : (z == 0) = false := by simpa using h0
    by_cases h1 : z = 1
    · simp [h1]
      refine next_g g1 hup (by omega) 3 (by omega) fun r s2 r0 r3 g2 b2 => ?_
      simp [w64 (n := 2147483647 - r) (by omega) (by omega)]
      exact hK _ s2 (a + 1 + 1) ⟨by omega, by omega⟩ (by omega) (by omega) g2 (b1.trans b2)
    · have hb1 : (z == 1) = false := by simpa using h1
      by_cases h2 : z = 2
      · simp [h2]
        refine next_g2 g1 hup (by omega) 1073741824 (by omega) fun r s2 r0 r3 g2 b2 => ?_
        simp [w64 (n := r * 4) (by omega) (by omega)]
        refine next_g g2 hup (by omega) 4 (by omega) fun r' s3 q0 q3 g3 b3 => ?_
        simp [w64 (n := r * 4 + r') (by omega) (by omega), w64 (n := r * 4 + r' + -2147483648) (by omega) (by omega)]
        exact hK _ s3 (a + 1 + 1 + 1) ⟨by omega, by omega⟩ (by omega) (by omega) g3 ((b1.trans b2).trans b3)
      · have hb2 : (z == 2) = false := by simpa using h2
        simp [hb0, hb1, hb2]
        refine range_g g1 hup (by omega) (-9) 9 (by omega) (by omega) (by omega) fun r s2 r0 r3 g2 b2 => ?_
        exact hK _ s2 (a + 1 + 1) ⟨by omega, by omega⟩ (by omega) (by omega) g2 (b1.trans b2)
end
end Go.Proofs.YtadkhechobeccaaGreatDoor.Vm
namespace Go.Proofs.YtadkhechobeccaaGreatDoor.Vm
open Go.RowKit
theorem EsL.take {vs : List V} {es : List (List Int)} (h : EsL vs es) (r : Nat) : EsL (vs.take r) (es.take r) := by
  refine ⟨by simp [h.len], fun i e he => ?_, by simp; have := h.low.1; omega, fun e he => h.low.2 e (List.mem_of_mem_take he)⟩
  have hi : i < r := by
    have := (List.getElem?_eq_some_iff.1 he).1
    simp at this
    omega
  rw [List.getElem?_take_of_lt hi] at he ⊢
  exact h.get i e he
theorem EsL.set {vs : List V} {es : List (List Int)} (h : EsL vs es) (k : Nat) (g : Bool) (e : List Int) (he : e.length ≤ 1000) : EsL (vs.set k (.lst g (ints e))) (es.set k e) := by
  refine ⟨by simp [h.len], fun i e' hi => ?_, by simp; exact h.low.1, fun x hx => ?_⟩
  · by_cases hik : k = i
    · subst hik
      have hlt : k < es.length := by have := (List.getElem?_eq_some_iff.1 hi).1; simpa using this
      rw [List.getElem?_set_self hlt] at hi
      rw [List.getElem?_set_self (by rw [h.len]; exact hlt)]
      cases hi
      exact ⟨g, rfl⟩
    · rw [List.getElem?_set_ne hik] at hi ⊢
      exact h.get i e' hi
  · rcases List.mem_or_eq_of_mem_set hx with h1 | rfl
    · exact h.low.2 x h1
    · exact he
theorem EsL.el {vs : List V} {es : List (List Int)} (h : EsL vs es) {i : Nat} {x : V} (hx : vs[i]? = some x) : x.cells = [x] ∧ x.leaf = true ∧ x.pl = true := by
  have hi : i < es.length := by rw [← h.len]; exact (List.getElem?_eq_some_iff.1 hx).1
  obtain ⟨g, hg⟩ := h.get i _ (List.getElem?_eq_getElem hi)
  rw [hx] at hg
  cases hg
  exact ⟨rfl, rfl, rfl⟩
def ownN : V → Nat
  | .own _ L _ _ => L
  | _ => 0
@[simp] theorem ownN_own (b L i n : Nat) : ownN (.own b L i n) = L := nr rfl
end Go.Proofs.YtadkhechobeccaaGreatDoor.Vm
namespace Go.Proofs.YtadkhechobeccaaGreatDoor.Vm
open Go.RowKit
theorem chk_ok {m : LModel} (fl : Nat → Bool) (hg : GenM m) : ChkOk fl m := fun _T _M _s _K _Kp h => check_m fl m (GenM.lb hg) (by omega) (by rw [GenM.ok hg]; exact h)
theorem wgL_len (m : LModel) (sc : List Int) (vo : Nat) : (wgL m sc vo).length = vo := wgtM_len _ _ _ _ _
section
variable {M : Nat → Bool}
set_option maxRecDepth 10000 in
theorem weightsL_v (f : Bool) (xs : List Int) (src : xs.length ≤ 9223372036854775807 ∧ ∀ x ∈ xs, -9223372036854775808 ≤ x ∧ x ≤ 9223372036854775807) : CallV Tryz.prog TW M 3 [.lst f (ints xs)] [] (fun v _ => v = Bo true) (fun _ _ => False) := by
  refine fun_ok hmix c_lawWeights (le_of rfl) ?_
  have last : ∀ (m : LModel) (fl : Nat → Bool) (s : St) (p : Nat) (fr : Fr) (vo : Nat) (g : Bool) (v : V) (x : List Int), GenM m → m.vocab = (vo : Int) → Rd s v x → x.length = vo → (∀ y ∈ x, -2147483648 ≤ y ∧ y ≤ 2147483647) → s[p]? = some (mdl m.kind m.vocab m.width m.top (fun i => .lst (fl i) (ints (mls m i)))) → fr.g 4 = .ptr p 1 0 0 → fr.g 5 = v → fr.df = [] → fr.g 7 = .lst g (ints (wgL m x vo)) → fr.g 8 = I 0 →
      wpM Tryz.prog TW (liftM (upM 0 M)) F_lawWeights.code.r.r.r.r.r.r.r.r.r (Fin F_lawWeights.res (fun v _ => v = Bo true) (fun _ _ => False)) fr s := fun m fl s p fr vo g v x hg hv hr hx hw hs z4 z5 zdf z7 z8 => by
    simp only [mdl] at hs
    have e1 : F_lawWeights.code.r.r.r.r.r.r.r.r.r = .seq (.lst F_lawWeights.code.r.r.r.r.r.r.r.r.r.l.ops) .ret := rfl
    rw [e1, wp_mseq, wp_mlst]
    refine seq_cut 6 fun L hL => ?_
    simp [F_lawWeights, MC.r, MC.l, MC.ops]
    refine works_m ?_
    simp [z8]
    rw [hL]
    simp [F_lawWeights, MC.r, MC.l, MC.ops, z7, z4, z5, hs]
    refine refWeights_v2 fl hg hv x hr hx hw fun g2 => ?_
    refine equal_r (Rd.lst _ _ _) (Rd.lst _ _ _) ?_ ?_
    · have := hg.vocab
      rw [wgL_len]
      omega
    · simp [zdf]
  have tail8 : ∀ (F : Int) (m : LModel) (fl : Nat → Bool) (s : St) (p : Nat) (fr : Fr) (vo : Nat) (v : V) (x : List Int), GenM m → m.vocab = (vo : Int) → s[p]? = some (mdl m.kind m.vocab m.width m.top (fun i => .lst (fl i) (ints (mls m i)))) → fr.g 4 = .ptr p 1 0 0 → fr.g 5 = v → fr.df = [] → fr.g 6 = I F → fr.g 8 = I F →
      ((F ≠ 0 ∧ fr.g 7 = .lst true []) ∨ (F = 0 ∧ Rd s v x ∧ x.length = vo ∧ (∀ y ∈ x, -2147483648 ≤ y ∧ y ≤ 2147483647) ∧ ∃ g, fr.g 7 = .lst g (ints (wgL m x vo)))) →
      wpM Tryz.prog TW (liftM (upM 0 M)) F_lawWeights.code.r.r.r.r.r.r.r.r (Fin F_lawWeights.res (fun v _ => v = Bo true) (fun _ _ => False)) fr s := fun F m fl s p fr vo v x hg hv hs z4 z5 zdf z6 z8 hc => by
    have e1 : F_lawWeights.code.r.r.r.r.r.r.r.r = .seq F_lawWeights.code.r.r.r.r.r.r.r.r.l F_lawWeights.code.r.r.r.r.r.r.r.r.r := rfl
    rw [e1, wp_mseq]
    generalize F_lawWeights.code.r.r.r.r.r.r.r.r.r = c9 at last ⊢
    rcases hc with ⟨hF, z7⟩ | ⟨rfl, hr, hx, hw, g, z7⟩
    · have hb1 : (F != 0) = true := by simpa using hF
      simp [F_lawWeights, MC.l, MC.r, z6, hb1]
      refine works_m ?_
      simp [z8, z7, zdf]
    · simp [F_lawWeights, MC.l, MC.r, z6]
      exact last m fl s p _ vo g v x hg hv hr hx hw hs (by simp [z4]) (by simp [z5]) (by simp [zdf]) (by simp [z7]) (by simp [z8])
  clear last
  have tail7 : ∀ (F : Int) (m : LModel) (fl : Nat → Bool) (s : St) (p : Nat) (fr : Fr) (vo : Nat) (v : V) (x : List Int), GenM m → m.vocab = (vo : Int) → s[p]? = some (mdl m.kind m.vocab m.width m.top (fun i => .lst (fl i) (ints (mls m i)))) → fr.g 4 = .ptr p 1 0 0 → fr.g 5 = v → fr.df = [] → fr.g 6 = I F →
      ((F = 3 ∧ ∃ q : Nat, q ≠ vo ∧ ∀ e, lenV (s ++ e) v = some (I q)) ∨ (F = 9 ∧ Rd s v x ∧ x.length = vo ∧ x.all (inB (-2147483648) 2147483647) = false) ∨ (F = 0 ∧ Rd s v x ∧ x.length = vo ∧ ∀ y ∈ x, -2147483648 ≤ y ∧ y ≤ 2147483647)) →
      wpM Tryz.prog TW (liftM (upM 0 M)) F_lawWeights.code.r.r.r.r.r.r.r (Fin F_lawWeights.res (fun v _ => v = Bo true) (fun _ _ => False)) fr s := fun F m fl s p fr vo v x hg hv hs z4 z5 zdf z6 hc => by
    have e1 : F_lawWeights.code.r.r.r.r.r.r.r = .seq F_lawWeights.code.r.r.r.r.r.r.r.l F_lawWeights.code.r.r.r.r.r.r.r.r := rfl
    rw [e1, wp_mseq]
    generalize F_lawWeights.code.r.r.r.r.r.r.r.r = c8 at tail8 ⊢
    have hC := chk_ok fl hg
    have hs' := hs
    simp only [mdl] at hs'
    rcases hc with ⟨rfl, q, hq, hl⟩ | ⟨rfl, hr, hx, ha⟩ | ⟨rfl, hr, hx, hw⟩
    · simp [F_lawWeights, MC.l, MC.r, z4, z5, hs']
      refine mWeights_short fl hC hv hl hq ?_
      simp
      exact tail8 3 m fl s p _ vo v x hg hv hs (by simp [z4]) (by simp [z5]) (by simp [zdf]) (by simp [z6]) (by simp) (Or.inl ⟨by omega, by simp⟩)
    · simp [F_lawWeights, MC.l, MC.r, z4, z5, hs']
      refine mWeights_v fl hC hg hv hr hx (fun _ => ?_) (fun h => by rw [ha] at h; cases h)
      simp
      exact tail8 9 m fl s p _ vo v x hg hv hs (by simp [z4]) (by simp [z5]) (by simp [zdf]) (by simp [z6]) (by simp) (Or.inl ⟨by omega, by simp⟩)
    · simp [F_lawWeights, MC.l, MC.r, z4, z5, hs']
      refine mWeights_v fl hC hg hv hr hx (fun h => by rw [all_inB hw] at h; cases h) (fun _ g l hl => ?_)
      simp
      rw [hl.eq]
      exact tail8 0 m fl s p _ vo v x hg hv hs (by simp [z4]) (by simp [z5]) (by simp [zdf]) (by simp [z6]) (by simp) (Or.inr ⟨rfl, hr, hx, hw, g, by simp [wgL]⟩)
  clear tail8
  have tail5 : ∀ (m : LModel) (fl : Nat → Bool) (s : St) (p : Nat) (fr : Fr) (vo : Nat) (v : V) (x : List Int) (a : Int), GenM m → m.vocab = (vo : Int) → 1 ≤ p → GS (p + 1) 0 s s f xs a → 0 ≤ a → a ≤ 100000 → OutS (p + 1) 3 1 s v (ints x) → x.length = vo → (∀ y ∈ x, isW y) → s[p]? = some (mdl m.kind m.vocab m.width m.top (fun i => .lst (fl i) (ints (mls m i)))) → fr.g 3 = .ptr 0 1 0 0 → fr.g 4 = .ptr p 1 0 0 → fr.g 5 = v → fr.df = [] →
      wpM Tryz.prog TW (liftM (upM 0 M)) F_lawWeights.code.r.r.r.r.r (Fin F_lawWeights.res (fun v _ => v = Bo true) (fun _ _ => False)) fr s := fun m fl s p fr vo v x a hg hv hp g a0 a1 o hx hw hs z3 z4 z5 zdf => by
    have e1 : F_lawWeights.code.r.r.r.r.r = .seq F_lawWeights.code.r.r.r.r.r.l (.seq F_lawWeights.code.r.r.r.r.r.r.l F_lawWeights.code.r.r.r.r.r.r.r) := rfl
    rw [e1, wp_mseq]
    generalize F_lawWeights.code.r.r.r.r.r.r.r = c7 at tail7 ⊢
    have hv2 := hg.vocab
    simp [F_lawWeights, MC.l, MC.r, z3]
    refine next_g g (by simp [upM]) (by omega) 10 (by omega) fun z s1 z0 z10 g1 b1 => ?_
    have hs1 := get_but hs b1 (by omega)
    have o1 := o.but b1 (by omega)
    have hr1 := Rd.of_out o1
    rcases o1 with ⟨h5, -⟩ | ⟨b, hb, hst, rfl⟩
    · have : x = [] := by simpa [ints] using h5
      rw [this] at hx
      simp at hx
      omega
    by_cases h0 : z = 0
    · simp [h0, z5, hst, show 1 ≤ x.length by omega]
      refine tail7 3 m fl s1 p _ vo (.own b x.length 1 (x.length - 1)) x hg hv hs1 (by simp [z4]) (by simp) (by simp [zdf]) (by simp) (Or.inl ⟨rfl, x.length - 1, by omega, fun e => ?_⟩)
      have := get_more hst e
      simp [this]
    · have hb0 : (z == 0) = false := by simpa using h0
      by_cases h1 : z = 1
      · simp [h1, z5, hst]
        refine next_g g1 (by simp [upM]) (by omega) x.length (by omega) fun k s2 k0 k1 g2 b2 => ?_
        have hs2 := get_but hs1 b2 (by omega)
        have hst2 := get_but hst b2 (by omega)
        obtain ⟨k, rfl⟩ : ∃ j : Nat, k = (j : Int) := ⟨k.toNat, by omega⟩
        have hk : k < x.length := by omega
        have hal := fun hk => ints_get' (List.getElem?_eq_getElem (show k < x.length by omega)) hk
        simp [hst2, hk, upM, hal]
        rw [ints_set]
        have hset : ((s2.set b (.row 3 1 (ints (x.set k 2147483648))))[b]?) = some (.row 3 1 (ints (x.set k 2147483648))) := get_set hst2 _
        refine tail7 9 m fl _ p _ vo (.own b x.length 0 x.length) (x.set k 2147483648) hg hv (get_ne hs2 (by omega) _) (by simp [z4]) (by simp [z5]) (by simp [zdf]) (by simp) (Or.inr (Or.inl ⟨rfl, Or.inr ⟨b, 3, by simp, hset⟩, by simp [hx], ?_⟩))
        rw [List.all_eq_false]
        exact ⟨2147483648, List.mem_iff_getElem?.2 ⟨k, by rw [List.getElem?_set_self hk]⟩, by simp [inB]⟩
      · have hb1 : (z == 1) = false := by simpa using h1
        simp [hb0, hb1]
        exact tail7 0 m fl s1 p _ vo _ x hg hv hs1 (by simp [z4]) (by simp [z5]) (by simp [zdf]) (by simp) (Or.inr (Or.inr ⟨rfl, hr1, hx, hw⟩))
  clear tail7
  have e0 : F_lawWeights.code = .seq F_lawWeights.code.l (.seq F_lawWeights.code.r.l (.seq F_lawWeights.code.r.r.l (.seq F_lawWeights.code.r.r.r.l (.seq F_lawWeights.code.r.r.r.r.l F_lawWeights.code.r.r.r.r.r)))) := rfl
  generalize F_lawWeights.code.r.r.r.r.r = c5 at tail5 e0
  rw [e0]
  simp [F_lawWeights, MC.l, MC.r]
  have g0 : GS 1 0 [strm f xs 0] [strm f xs 0] f xs 0 := ⟨Same.refl (Nat.le_refl _), rfl, by omega, src⟩
  refine gmodel_g g0 (by simp [upM]) (by omega) fun fl m s1 a1 hg e1 e2 g1 b1 => ?_
  have hl1 : s1.length = 1 := b1.1
  have hv2 := hg.vocab
  obtain ⟨vo, hv⟩ : ∃ k : Nat, m.vocab = (k : Int) := ⟨m.vocab.toNat, by omega⟩
  simp [encM]
  refine ⟨by simp [upM], ?_⟩
  have m2 : (s1 ++ [mdl m.kind m.vocab m.width m.top (fun i => .lst (fl i) (ints (mls m i)))])[s1.length]? = some (mdl m.kind m.vocab m.width m.top (fun i => .lst (fl i) (ints (mls m i)))) := by simp
  have g2 := g1.more [mdl m.kind m.vocab m.width m.top (fun i => .lst (fl i) (ints (mls m i)))]
  have hl2 : (s1 ++ [mdl m.kind m.vocab m.width m.top (fun i => .lst (fl i) (ints (mls m i)))]).length = 2 := by simp [hl1]
  have hMB : Blk.row 27 11 [V.agg [I m.kind, I m.vocab, I m.width, I m.top, .lst (fl 0) (ints m.cuts), .lst (fl 1) (ints m.embed), .lst (fl 2) (ints m.place), .lst (fl 3) (ints m.mix), .lst (fl 4) (ints m.out), .lst (fl 5) (ints m.soft), .lst (fl 6) (ints m.odds)]] = mdl m.kind m.vocab m.width m.top (fun i => .lst (fl i) (ints (mls m i))) := rfl
  rw [hMB, hl1]
  rw [hl1] at m2
  generalize s1 ++ [mdl m.kind m.vocab m.width m.top (fun i => .lst (fl i) (ints (mls m i)))] = s2 at *
  have m2' := m2
  simp only [mdl] at m2'
  simp [hv]
  have g3 : GS 2 0 s2 s2 f xs a1 := ⟨Same.refl (by omega), g2.str, by omega, src⟩
  refine wp_mloop (fun fr s => ∃ (k : Nat) (l : List Int) (a' : Int), k ≤ vo ∧ l.length = k ∧ (∀ x ∈ l, isW x) ∧ a1 ≤ a' ∧ a' ≤ a1 + 4 * k ∧ GS 2 0 s2 s f xs a' ∧ OutS 2 3 1 s (fr.g 5) (ints l) ∧ fr.df = [] ∧ fr.g 3 = .ptr 0 1 0 0 ∧ fr.g 4 = .ptr 1 1 0 0 ∧ fr.g 15 = I vo ∧ fr.g 16 = I k) (fun fr _ => vo - nat (fr.g 16))
    ⟨0, [], a1, by omega, rfl, by simp, by omega, by omega, g3, by simpa [ints] using OutS.nil _ _ _ _, by simp, by simp, by simp, by simp, by simp⟩ ?_
  rintro fr s ⟨k, l, a', hk, hl, hr, ha1, ha2, g, o, hdf, z3, z4, z15, z16⟩
  have hms : s[1]? = some (mdl m.kind m.vocab m.width m.top (fun i => .lst (fl i) (ints (mls m i)))) := (g.same.get 1 (by omega) (by omega)).trans m2
  by_cases hlt : k < vo
  · simp [z15, z16, z3, hlt]
    refine flip_g g (by simp [upM]) (by omega) 3 (by omega) fun b s3 g3 b3 => ?_
    have o3 := o.but b3 (by omega)
    have hw1 : IntKind.i64.wrap ((k : Int) + 1) = ((k + 1 : Nat) : Int) := by rw [w64 (n := (k : Int) + 1) (by omega) (by omega)]; push_cast; rfl
    have fin : ∀ (x : Int), isW x → ∀ y ∈ l ++ [x], isW y := fun x hx y hy => by
      rcases List.mem_append.1 hy with hy | hy
      · exact hr y hy
      · simp at hy; subst hy; exact hx
    cases b with
    | true =>
      simp
      refine word_g g3 (by simp [upM]) (by omega) fun x s4 a4 hx h1 h2 g4 b4 => ?_
      have o4 := o3.but b4 (by omega)
      simp
      refine app_out (o4.more _) (by have := g4.same.len; simp; omega) (news := [I x]) (by simp) (by simp) (Or.inl (by simp)) (fun b L hb _ j => by simp [upM]) (by simp; omega) (by simp; omega) fun v s5 o5 hl5 hb5 _ _ => ?_
      have g5 := (g4.more [.row 3 1 [I x]]).to hl5 hb5
      simp [hw1, -Int.natCast_add]
      exact ⟨⟨k + 1, hlt, l ++ [x], by simp [hl], fin x hx, a4, by omega, by push_cast; omega, g5, by rw [ints_append]; exact o5, hdf, z4, rfl⟩, by omega⟩
    | false =>
      simp
      refine range_g g3 (by simp [upM]) (by omega) (-99) 99 (by omega) (by omega) (by omega) fun x s4 hx1 hx2 g4 b4 => ?_
      have o4 := o3.but b4 (by omega)
      simp
      refine app_out (o4.more _) (by have := g4.same.len; simp; omega) (news := [I x]) (by simp) (by simp) (Or.inl (by simp)) (fun b L hb _ j => by simp [upM]) (by simp; omega) (by simp; omega) fun v s5 o5 hl5 hb5 _ _ => ?_
      have g5 := (g4.more [.row 3 1 [I x]]).to hl5 hb5
      simp [hw1, -Int.natCast_add]
      exact ⟨⟨k + 1, hlt, l ++ [x], by simp [hl], fin x ⟨by omega, by omega⟩, a' + 1 + 1, by omega, by push_cast; omega, g5, by rw [ints_append]; exact o5, hdf, z4, rfl⟩, by omega⟩
  · obtain rfl : k = vo := by omega
    simp [z15, z16]
    exact tail5 m fl s 1 _ k _ l a' hg hv (by omega) ⟨Same.refl (by have := g.same.len; omega), g.str, by omega, src⟩ (by omega) (by omega) o hl hr hms (by simp [z3]) (by simp [z4]) (by simp) (by simp [hdf])
theorem weights_law (v : Value) (xs : List Int) (w : World) (h : LI w v xs) (ht : Tabs w) : Calls Tryz.prog 3 #[v] w fun e w' => e = .returned (.bool true) ∧ Below w.heap.size w w' :=
  law_of (us := [v]) (M := fun _ => true) (weightsL_v false xs ⟨h.2.1, h.2.2⟩) ⟨fun g x hx => (by cases hx), ht.1, ht⟩ (Pw.cons (.pure (prel_li h)) Pw.nil)
end
end Go.Proofs.YtadkhechobeccaaGreatDoor.Vm
