/-
  Copies of sizes and axes; rows appended.
-/
import Derived.Test.YtneabpgphjcbkaaGreatDoorClone
import Derived.Test.YtneabpgphjcbkaaGreatDoorFrm
import Derived.Test.YtneabpgphjcbkaaGreatDoorLook
import Derived.Deep.RegionHeld3
import Derived.Lib.AppendZeros
import Derived.Laws.Append
namespace Go.Proofs.YtneabpgphjcbkaaGreatDoor
open Go.RowKit

section
variable {α : Type} {k : Nat} {R : Cl → Nat → Nat → α → Prop} {E : Cl → List Value → α → Prop}
theorem Ow.form {T : TypeId} {w : World} {C : Cl} {base : Nat} {v : Value} {xs : List α} (h : Ow k E T w C base v xs) : ∃ A n c, v = .slice A n c := by
  obtain ⟨cs, ho, -, -⟩ := h
  rcases ho.2 with ⟨h, -⟩ | ⟨g, cap, cur, h, -⟩
  · exact ⟨_, _, _, h⟩
  · exact ⟨_, _, _, h⟩
theorem Ow.shape {T : TypeId} {w : World} {C : Cl} {base : Nat} {v : Value} {xs : List α} (h : Ow k E T w C base v xs) : ∃ A c, v = .slice A xs.length c ∧ c ≤ maxLen := by
  obtain ⟨cs, ho, -, -⟩ := h
  rcases ho.2 with ⟨h, h0⟩ | ⟨g, cap, cur, h, -, -, -, h2, -⟩
  · exact ⟨none, 0, by rw [h0]; exact h, by unfold maxLen; omega⟩
  · exact ⟨_, _, h, h2⟩
theorem Ow.flat {T : TypeId} {w : World} {C C' : Cl} {base : Nat} {v : Value} {xs : List α} (hf : ∀ C C' cs x, E C cs x → E C' cs x) (h : Ow k E T w C base v xs) : Ow k E T w C' base v xs := by
  obtain ⟨cs, ho, he, hl⟩ := h
  exact ⟨cs, ho, ⟨he.1, fun i x hx => hf _ _ _ _ (he.2 i x hx)⟩, hl⟩
theorem Ow.set_far {T : TypeId} {w : World} {C : Cl} {base : Nat} {v : Value} {xs : List α} (h : Ow k E T w C base v xs) {p : Addr} (hp : p.block < base) (u : Value) : Ow k E T (w.setCell p u) C base v xs := by
  obtain ⟨cs, ho, he, hl⟩ := h
  exact ⟨cs, ownsRow_setCell_below ho hp u, he, hl⟩
/-- an owned row, read in another map of cells -/
theorem Ow.rws_to (L : Cells k R E) {T : TypeId} {w : World} {C C' : Cl} {base : Nat} {v : Value} {xs : List α} (h : Ow k E T w C base v xs) (hk : Keeps C C') (hC : ∀ p u, v.ownBlock = some p.block → w.cell? p = some u → C' p = some u) : Rws k R C' v xs := by
  obtain ⟨cs, ho, he, hl⟩ := h
  rcases ho.2 with ⟨rfl, h0⟩ | ⟨g, cap, cur, rfl, hb, hg, h1, h2, h3, h4⟩
  · have : xs = [] := List.length_eq_zero_iff.1 h0
    subst this; exact Rws.nil _ _ _
  · refine ⟨some ⟨g, 0, none⟩, cap, rfl, h1, h2, hl, fun h0 => ⟨g, 0, rfl, fun i x hx => ?_⟩⟩
    refine L.up (L.keep (he.2 i x hx) hk) fun t u hu => ?_
    have ht : t < k := by
      have := (List.getElem?_eq_some_iff.1 hu).1
      rw [List.length_take] at this; omega
    rw [List.getElem?_take_of_lt ht, List.getElem?_drop] at hu
    have := ho.cells (g := g) rfl _ u hu
    rw [Addr.add_lit] at this
    refine hC _ _ rfl ?_
    rwa [Nat.zero_add] at this ⊢
end
theorem flatTerm : ∀ C C' cs x, ETerm C cs x → ETerm C' cs x := fun _ _ _ _ h => h
/-- terms that have been made from block B on -/
theorem Ow.terms_off {T : TypeId} {w : World} {C : Cl} {base : Nat} {v : Value} {xs : List LTerm} (h : Ow 2 ETerm T w C base v xs) {S : Nat → Bool} (hS : ∀ b, base ≤ b → b < w.heap.size → S b = false) : RTerms (offB w S) v xs :=
  Ow.rws_to cellsTerm (h.flat flatTerm (C' := offB w S)) (Keeps.refl _) fun p u hp hu => by
    have := h.lt _ hp
    rw [offB_in (hS _ this.1 this.2)]; exact hu

set_option maxHeartbeats 1000000 in
set_option maxRecDepth 100000 in
theorem cloneSize_any (s : LSize) (v : Value) (w : World) (hv : VSize w.cell? v s) :
    Calls Tryz.prog 286 #[v] w fun e w' => ∃ tv, e = .returned (.agg #[.int .i64 s.base, tv]) ∧ Below w.heap.size w w' ∧ Ow 2 ETerm 279 w' w.cell? w.heap.size tv s.terms := by
  obtain ⟨tv, rfl, ht⟩ := hv
  obtain ⟨A, n, c, rfl⟩ := Rws.sl ht
  obtain ⟨W, hW⟩ : ∃ W, W = (w.alloc (.cells #[.int .i64 s.base, .slice A n c] 216)).alloc (.cells #[.int .i64 0, .slice none 0 0] 216) := ⟨_, rfl⟩
  have hsz : W.heap.size = w.heap.size + 2 := by rw [hW, World.size_alloc, World.size_alloc]
  have e0 : W.cell? ⟨w.heap.size, 0, none⟩ = some (.int .i64 s.base) := by rw [hW]; go_simp
  have e1 : W.cell? ⟨w.heap.size, 1, none⟩ = some (.slice A n c) := by rw [hW]; go_simp
  have HK2 : Hid (Bk W (w.heap.size + 1) 216 #[.int .i64 0, .slice none 0 0]) := Lib.hid (by rw [hW]; have h := Bk.new (w.alloc (.cells #[.int .i64 s.base, .slice A n c] 216)) 216 #[.int .i64 0, .slice none 0 0]; rwa [World.size_alloc] at h)
  have HST : Hid (∀ w', Below W.heap.size W w' → w'.cell? ⟨w.heap.size, 0, none⟩ = some (.int .i64 s.base) ∧ w'.cell? ⟨w.heap.size, 1, none⟩ = some (.slice A n c)) := Lib.hid fun w' hb => ⟨Keeps.of_below hb _ _ e0, Keeps.of_below hb _ _ e1⟩
  have HV : Hid (RTerms W.cell? (.slice A n c) s.terms) := Lib.hid (by rw [hW]; exact ht.keep (keep2 _ _ _))
  have HB : Hid (Below w.heap.size w W) := Lib.hid (by rw [hW]; exact laid2 _ _ _)
  have HW := Lib.hid hW
  have HSZ := Lib.hid hsz
  clear hW ht hsz
  go_enter Tryz.func286, Tryz.ntmps286
  go_wp2_with fail
  rw [← HW.out]
  go_region_held3 (fun w' => w'.cell? ⟨w.heap.size, 0, none⟩ = some (.int .i64 s.base) ∧ w'.cell? ⟨w.heap.size, 1, none⟩ = some (.slice A n c))
    (first | exact ⟨e0, e1⟩ | exact HST.out w1 HC1.out | go_keep)
    (first
      | (go_at_call 317; refine (clone_tm s.terms _ W.drew W.drew.cell? (Keeps.refl _) HV.out).mono ?_; rintro e w1 ⟨v1, rfl, hB1, hO1⟩; have HO1 := Lib.hid hO1; have HC1 : Hid (Below W.heap.size W w1) := Lib.hid ((Below.refl _ W).drew.trans hB1); obtain ⟨A1, n1, c1, rfl⟩ := hO1.form; clear hO1 hB1; have hk := HK2.out.low HC1.out; have c0 := hk.cell 0; have c1' := hk.cell 1; have f0 := hk.frozen 0; have f1 := hk.frozen 1; simp only [List.getElem?_toArray, List.getElem?_cons_zero, List.getElem?_cons_succ] at c0 c1'; clear hk))
  go_wp2
  refine bodyPost_ret (v := .agg #[.int .i64 s.base, .slice A1 n1 c1]) (by simp [results, Tryz.results286, go_sem, c0, c1']) rfl ?_
  have hz := HSZ.out
  refine ⟨_, rfl, ?_, ?_⟩
  · exact ((HB.out.trans (HC1.out.mono (by omega))).setCell (show w.heap.size ≤ w.heap.size + 1 by omega) _).setCell (show w.heap.size ≤ w.heap.size + 1 by omega) _
  · have h := ((HO1.out.set_far (p := ⟨w.heap.size + 1, 0, none⟩) (by show w.heap.size + 1 < W.heap.size; omega) (.int .i64 s.base)).set_far (p := ⟨w.heap.size + 1, 1, none⟩) (by show w.heap.size + 1 < W.heap.size; omega) (.slice A1 n1 c1)).flat flatTerm (C' := w.cell?)
    exact h.base (by show w.heap.size ≤ W.heap.size; omega)
end Go.Proofs.YtneabpgphjcbkaaGreatDoor

namespace Go.Proofs.YtneabpgphjcbkaaGreatDoor
open Go.RowKit

theorem Ow.terms_offS {T : TypeId} {w1 : World} {C : Cl} {base : Nat} {tv : Value} {xs : List LTerm} (hO : Ow 2 ETerm T w1 C base tv xs) {S : Nat → Bool} {v : Value} (hS : ∀ b, base ≤ b → S b = false) (hv : ∀ b, v.ownBlock = some b → b < base) (o : Obj) : RTerms (offS (w1.alloc o) S v) tv xs := by
  have h := hO.terms_off (S := fun b => S b || decide (v.ownBlock = some b)) fun b hb _ => by
    rw [hS b hb, decide_eq_false (fun e => by have := hv _ e; omega)]; rfl
  exact h.keep (offS_below v ((Below.refl _ w1).alloc (Nat.le_refl _) o))
theorem one_news (w : World) (cs : Array Value) (t : TypeId) : ∀ j u, cs.toList[j]? = some u → (w.alloc (.cells cs t)).cell? ((⟨w.heap.size, 0, none⟩ : Addr).add j) = some u := World.news_of_block (heap_alloc_new w _)

set_option maxHeartbeats 4000000 in
set_option maxRecDepth 100000 in
theorem cloneAxes_any (l : List LAxis) (v : Value) (w : World) (hv : RAxes w.cell? v l) :
    Calls Tryz.prog 250 #[v] w fun e w' => ∃ v', e = .returned v' ∧ Below w.heap.size w w' ∧ Od (under w.heap.size) 3 EAxis 218 w' w.heap.size v' l := by
  obtain ⟨A, c, rfl, -, -, hmx⟩ := Rws.shape hv
  have HV := Lib.hid hv
  obtain ⟨n, hn⟩ : ∃ n, l.length = n := ⟨_, rfl⟩
  rw [hn] at hmx HV ⊢
  have HL := Lib.hid hn
  have hn2 : (n : Int) ≤ 1000000 := by omega
  clear hv hn
  go_enter Tryz.func250, Tryz.ntmps250
  go_wp2
  go_loopw [3, 8] (fun a3 a8 wr => ∃ j : Nat, a8 = .int .i64 j ∧ Od (under w.heap.size) 3 EAxis 218 wr w.heap.size a3 (l.take j) ∧ Below w.heap.size w wr ∧ j ≤ n) (fun _ a8 _ => n - (intOf a8).toNat)
  case atStart => exact ⟨0, rfl, Od.nil _ _ _ _ _ _, Below.refl _ _, by omega⟩
  case round =>
    obtain ⟨j, rfl, hO, hB, hj⟩ := hrel
    have HB := Lib.hid hB
    have HO := Lib.hid hO
    obtain ⟨A3, n3, c3, rfl⟩ := hO.form
    by_cases hlt : j < n
    · have hlt2 : (j : Int) < (n : Int) := by omega
      have hjl : j < l.length := by rw [HL.out]; exact hlt
      obtain ⟨b, o, rfl, hc⟩ := Rws.at_ (HV.out.keep (Keeps.of_below hB)) (by rw [HL.out]; omega)
      obtain ⟨x, hx⟩ : ∃ x, l[j]? = some x := ⟨_, List.getElem?_eq_getElem hjl⟩
      obtain ⟨e0, e1, tv, e2, ht⟩ := hc j x hx
      obtain ⟨A2, n2, c2, rfl⟩ := Rws.sl ht
      have HX := Lib.hid hx
      have HT := Lib.hid ht
      have HHS : Hid (w.heap.size ≤ wr.heap.size) := Lib.hid hB.size
      have HTK : Hid ((l.take j).length = j) := Lib.hid (by rw [List.length_take]; omega)
      have HLO := Lib.hid hO.lt
      clear hB hc hx ht hO
      go_wp2_with fail
      obtain ⟨W5, hW5⟩ : ∃ W5, W5 = wr.alloc (.cells #[.string x.name, .int .i64 x.size.base, .slice A2 n2 c2] 218) := ⟨_, rfl⟩
      rw [← hW5]
      have HB5 : Hid (Below wr.heap.size wr W5) := Lib.hid (by rw [hW5]; exact laid (Below.refl _ _) _)
      have HZ5 : Hid (W5.heap.size = wr.heap.size + 1) := Lib.hid (by rw [hW5, World.size_alloc])
      have f0 : W5.cell? ⟨wr.heap.size, 0, none⟩ = some (.string x.name) := by rw [hW5]; go_simp
      have f1 : W5.cell? ⟨wr.heap.size, 1, none⟩ = some (.int .i64 x.size.base) := by rw [hW5]; go_simp
      have f2 : W5.cell? ⟨wr.heap.size, 2, none⟩ = some (.slice A2 n2 c2) := by rw [hW5]; go_simp
      have HT5 : Hid (RTerms W5.cell? (.slice A2 n2 c2) x.size.terms) := Lib.hid (HT.out.keep (Keeps.of_below HB5.out))
      have HST : Hid (∀ w', Below W5.heap.size W5 w' → w'.cell? ⟨wr.heap.size, 0, none⟩ = some (.string x.name) ∧ w'.cell? ⟨wr.heap.size, 1, none⟩ = some (.int .i64 x.size.base) ∧ w'.cell? ⟨wr.heap.size, 2, none⟩ = some (.slice A2 n2 c2)) := Lib.hid fun w' hb => ⟨Keeps.of_below hb _ _ f0, Keeps.of_below hb _ _ f1, Keeps.of_below hb _ _ f2⟩
      clear hW5
      go_region_held3 (fun w' => w'.cell? ⟨wr.heap.size, 0, none⟩ = some (.string x.name) ∧ w'.cell? ⟨wr.heap.size, 1, none⟩ = some (.int .i64 x.size.base) ∧ w'.cell? ⟨wr.heap.size, 2, none⟩ = some (.slice A2 n2 c2))
        (first | exact ⟨f0, f1, f2⟩ | exact HST.out w1 HC1.out | exact HST.out _ (laid HC1.out _) | exact HS2.out | go_keep)
        (first
          | (go_at_call 286; refine (cloneSize_any x.size _ W5.drew ⟨_, rfl, HT5.out⟩).mono ?_; rintro e w1 ⟨tv1, rfl, hB1, hO1⟩; have HO1 := Lib.hid hO1; have HC1 : Hid (Below W5.heap.size W5 w1) := Lib.hid ((Below.refl _ W5).drew.trans hB1); obtain ⟨A1, n1, c1, rfl⟩ := hO1.form; clear hO1 hB1)
          | (refine step_append_Od cellsAxis inf_ax _ rfl _ _ _ rfl w.heap.size Tryz.underlying80 _ (l.take j) rfl (HO.out.below cellsAxis ((behind HB5.out HC1.out).alloc (Nat.le_trans HB5.out.size HC1.out.size) _)) ⟨w1.heap.size, 0, none⟩ 1 1 [.string x.name, .int .i64 x.size.base, .slice A1 n1 c1] [x] rfl rfl (Enc.single cellsAxis ⟨_, rfl, HO1.out.terms_offS (fun b hb => by have := HHS.out; have := HZ5.out; have hb2 : W5.heap.size ≤ b := hb; simp [under]; omega) (fun b hb => by have := (HLO.out b hb).2; have := HZ5.out; show b < W5.heap.size; omega) _⟩) (one_news _ _ _) (by rw [HTK.out]; omega) (by have := HHS.out; have := HB5.out.size; have := HC1.out.size; rw [World.size_alloc]; omega) Nat.one_pos ?_; intro g cap w2 hown2 hB2 hgr2; have HO2 := Lib.hid hown2; have HB2 := Lib.hid hB2; have HS2 : Hid (w2.cell? ⟨wr.heap.size, 0, none⟩ = some (.string x.name) ∧ w2.cell? ⟨wr.heap.size, 1, none⟩ = some (.int .i64 x.size.base) ∧ w2.cell? ⟨wr.heap.size, 2, none⟩ = some (.slice A2 n2 c2)) := Lib.hid (by have hs := HST.out _ (laid HC1.out (.cells #[.string x.name, .int .i64 x.size.base, .slice A1 n1 c1] 218)); have hne : some wr.heap.size ≠ Value.ownBlock (.slice A3 n3 c3) := fun e => Nat.lt_irrefl _ (HLO.out _ e.symm).2; exact ⟨hgr2.cell hs.1 hne, hgr2.cell hs.2.1 hne, hgr2.cell hs.2.2 hne⟩); clear hown2 hB2 hgr2))
      go_wp2
      go_roundw
      case rel =>
        refine ⟨j + 1, by go_num, ?_, ((behind HB.out (behind HB5.out HC1.out)).alloc (by have := HHS.out; have := HB5.out.size; have := HC1.out.size; omega) _).trans HB2.out, by omega⟩
        rw [List.take_add_one, HX.out]
        have h := HO2.out
        rw [List.length_take] at h
        exact h
      case measure => simp [intOf]; omega
    · obtain rfl : j = n := by omega
      have HFL : Hid (l.take j = l) := Lib.hid (List.take_of_length_le (by rw [HL.out]; omega))
      clear hB hO
      go_wp2
      go_ret
      exact ⟨_, rfl, HB.out, by rw [← HFL.out]; exact HO.out⟩
end Go.Proofs.YtneabpgphjcbkaaGreatDoor

namespace Go.Proofs.YtneabpgphjcbkaaGreatDoor
open Go.RowKit

/-- append of an empty slice -/
theorem run_append_empty {P : Program} {w : World} {t e ty : TypeId} {i : TypeInfo} (ht : P.underlying t = some (.slice e)) (hi : P.info? e = some i) (b A : Option Addr) (n cap c : Nat) (h : n ≤ cap) :
    (Builtin.append_ #[t, t] ty #[.slice b n cap, .slice A 0 c]).run P w = .ok (.slice b n cap) w := by
  cases b <;> cases A <;> simp [Builtin.append_, run_underlying ht, sizeOf, typeInfo, hi, Builtin.lenOf, Builtin.firstCells, loadCells, loadCellsFrom, storeCells, h]
/-- a slice of slices, whose elements are read in another map -/
def Out {α : Type} (R : Cl → Value → List α → Prop) (C D : Cl) (v : Value) (xs : List (List α)) : Prop := Rws 1 (fun D b o x => ∃ v, D ⟨b, o, none⟩ = some v ∧ R C v x) D v xs
theorem Out.keep {α : Type} {R : Cl → Value → List α → Prop} {C D D' : Cl} {v : Value} {xs : List (List α)} (h : Out R C D v xs) (k : Keeps D D') : Out R C D' v xs := Rws.mono h fun _ _ _ ⟨v, h1, h2⟩ => ⟨v, k _ _ h1, h2⟩
def sumLen {α : Type} (xss : List (List α)) : Nat := (xss.map List.length).sum
theorem sumLen_take {α : Type} {xss : List (List α)} {j : Nat} {x : List α} (h : xss[j]? = some x) : sumLen (xss.take (j + 1)) = sumLen (xss.take j) + x.length := by
  rw [sumLen, List.take_add_one, h]; simp [sumLen]
theorem sumLen_le {α : Type} (xss : List (List α)) (j : Nat) : sumLen (xss.take j) ≤ sumLen xss := by
  have h : sumLen xss = sumLen (xss.take j) + sumLen (xss.drop j) := by
    rw [sumLen, sumLen, sumLen, ← List.sum_append, ← List.map_append, List.take_append_drop]
  omega
theorem sumLen_flat {α : Type} (xss : List (List α)) : xss.flatten.length = sumLen xss := by rw [List.length_flatten]; rfl
theorem flatten_take {α : Type} {xss : List (List α)} {j : Nat} {x : List α} (h : xss[j]? = some x) : (xss.take (j + 1)).flatten = (xss.take j).flatten ++ x := by
  rw [List.take_add_one, h]; simp


set_option maxHeartbeats 1000000 in
set_option maxRecDepth 100000 in
theorem grow_ax (n : Nat) (w : World) (hn : n ≤ 1000000) :
    Calls Tryz.prog 327 #[.slice none 0 0, .int .i64 (n : Int)] w fun e w' => ∃ v', e = .returned v' ∧ Below w.heap.size w w' ∧ ∀ C, Ow 3 EAxis 218 w' C w.heap.size v' [] := by
  obtain ⟨i, z, hi, hz, h1, h2, h3, h4⟩ := inf_ax
  rcases Nat.eq_zero_or_pos n with rfl | h0
  · go_enter Tryz.func327, Tryz.ntmps327
    go_wp2
    go_ret
    exact ⟨_, rfl, Below.refl _ _, fun C => Ow.nil _ _ _ _ _ _⟩
  · have hn2 : (n : Int) ≤ 1000000 := by omega
    have hn3 : (0 : Int) < (n : Int) := by omega
    have hrun := fun ty => Lib.run_append_nil_zeros (P := Tryz.prog) w 80 3 ty 218 i z .i64 .i64 Tryz.underlying80 Tryz.underlying3 hi hz n h0 (by rw [h1]; decide) (by omega) (Nat.le_trans (Nat.mul_le_mul hn (by rw [h2]; exact h4)) (by decide))
    obtain ⟨G, hG⟩ : ∃ G, G = grownCap w n 0 218 := ⟨_, rfl⟩
    have hGn : n ≤ G := by rw [hG]; exact grownCap_ge w _ _ _
    have hG63 : G ≤ maxLen := by rw [hG]; exact grownCap_le_maxLen w n 0 218 (by unfold maxLen; omega)
    rw [← hG] at hrun
    obtain ⟨Z, hZ⟩ : ∃ Z, Z = Builtin.zeroCells z.cells n ++ Builtin.zeroCells z.cells (G - n) := ⟨_, rfl⟩
    have hZl : Z.size = G * 3 := by rw [hZ, Array.size_append, size_zeroCells, size_zeroCells, h3, ← Nat.add_mul]; congr 1; omega
    rw [← hZ] at hrun
    have HR := Lib.hid hrun
    have HZL := Lib.hid hZl
    have HG := Lib.hid hG63
    have HGN := Lib.hid hGn
    clear hrun hZ hG hZl hi hz h1 h2 h3 hG63
    go_enter Tryz.func327, Tryz.ntmps327
    go_wp2_with (at_builtin; refine Lib.wpList_append_run _ rfl _ _ _ _ rfl _ _ rfl rfl _ _ (HR.out _) ?_)
    go_ret
    refine ⟨_, rfl, (Below.refl _ w).drew.alloc (Nat.le_refl _) _, fun C => Ow.of_row (cur := Z) (cs := []) (Nat.le_refl _) (by show Bk _ _ _ _; exact Bk.new w.drew _ _) (Nat.zero_le _) HG.out HZL.out (by simp) (Enc.nil _ _ _) rfl (Nat.zero_le _)⟩

set_option maxHeartbeats 4000000 in
set_option maxRecDepth 100000 in
theorem concat_ax (xss : List (List (LAxis))) (v : Value) (w : World) (C : Cl) (hC : Keeps C w.cell?) (hv : Out RAxes C w.cell? v xss) (hs : sumLen xss ≤ 1000000) :
    Calls Tryz.prog 297 #[v] w fun e w' => ∃ v', e = .returned v' ∧ Below w.heap.size w w' ∧ Ow 3 EAxis 218 w' C w.heap.size v' xss.flatten := by
  obtain ⟨A, c, rfl, -, -, hmx⟩ := Rws.shape hv
  have HV := Lib.hid hv
  have HCC := Lib.hid hC
  obtain ⟨n, hn⟩ : ∃ n, xss.length = n := ⟨_, rfl⟩
  rw [hn] at hmx HV ⊢
  have HL := Lib.hid hn
  have hn2 : (n : Int) ≤ 1000000 := by omega
  obtain ⟨m, hm⟩ : ∃ m, sumLen xss = m := ⟨_, rfl⟩
  have HS : Hid (∀ j, sumLen (xss.take j) ≤ m) := Lib.hid (by intro j; rw [← hm]; exact sumLen_le _ _)
  have HM := Lib.hid hm
  rw [hm] at hs
  have hm2 : (m : Int) ≤ 1000000 := by omega
  obtain ⟨i0, z0, hi, hz, h1, h2, h3, h4⟩ := inf_ax
  clear hv hn hm hz hC h1 h2 h3 h4
  go_enter Tryz.func297, Tryz.ntmps297
  go_wp2
  go_loopw [3, 11] (fun a3 a11 wr => ∃ j : Nat, a11 = .int .i64 j ∧ a3 = .int .i64 (sumLen (xss.take j) : Nat) ∧ Below w.heap.size w wr ∧ j ≤ n) (fun _ a11 _ => n - (intOf a11).toNat)
  case atStart => exact ⟨0, rfl, rfl, Below.refl _ _, by omega⟩
  case round =>
    obtain ⟨j, rfl, rfl, hB, hj⟩ := hrel
    have HB := Lib.hid hB
    have hsj := HS.out j
    by_cases hlt : j < n
    · have hlt2 : (j : Int) < (n : Int) := by omega
      have hjl : j < xss.length := by rw [HL.out]; exact hlt
      obtain ⟨b, o, rfl, hc⟩ := Rws.at_ (Out.keep HV.out (Keeps.of_below hB)) (by rw [HL.out]; omega)
      obtain ⟨x, hx⟩ : ∃ x, xss[j]? = some x := ⟨_, List.getElem?_eq_getElem hjl⟩
      obtain ⟨xv, e0, ht⟩ := hc j x hx
      rw [Nat.mul_one] at e0
      obtain ⟨A2, c2, rfl, -⟩ := Rws.shape ht
      have HX := Lib.hid (sumLen_take hx)
      have hsj1 := HS.out (j + 1)
      rw [HX.out] at hsj1
      obtain ⟨p, hp⟩ : ∃ p, sumLen (xss.take j) = p := ⟨_, rfl⟩
      obtain ⟨q, hq⟩ : ∃ q, x.length = q := ⟨_, rfl⟩
      rw [hp] at hsj hsj1 HX ⊢
      rw [hq] at hsj1 HX e0
      have hpq : (p : Int) + (q : Int) ≤ 1000000 := by omega
      clear hB hc hx ht hp hq
      go_wp2
      go_roundw
      case rel => exact ⟨j + 1, by go_num, by rw [HX.out, Int.natCast_add], HB.out, by omega⟩
      case measure => simp [intOf]; omega
    · obtain rfl : j = n := by omega
      have hz : sumLen (xss.take j) = m := by rw [List.take_of_length_le (by rw [HL.out]; omega)]; exact HM.out
      rw [hz] at hsj ⊢
      clear hB hz
      go_wp2_with (go_at_call 327; refine (grow_ax m _ hs).mono ?_; rintro e w1 ⟨v1, rfl, hB1, hO1⟩; have HB1 : Hid (Below w.heap.size w w1) := Lib.hid (behind HB.out hB1); have HO1 : Hid (Ow 3 EAxis 218 w1 C w.heap.size v1 []) := Lib.hid ((hO1 _).base HB.out.size); clear hB1 hO1)
      go_loopw [6, 27] (fun a6 a27 wr => ∃ i : Nat, a27 = .int .i64 i ∧ Ow 3 EAxis 218 wr C w.heap.size a6 (xss.take i).flatten ∧ Below w.heap.size w wr ∧ i ≤ j) (fun _ a27 _ => j - (intOf a27).toNat)
      case atStart => exact ⟨0, rfl, HO1.out, HB1.out, by omega⟩
      case round =>
        obtain ⟨i, rfl, hO, hB2, hi2⟩ := hrel
        have HB2 := Lib.hid hB2
        have HO := Lib.hid hO
        obtain ⟨A6, c6, rfl, -⟩ := hO.shape
        have HLE : Hid ((xss.take i).flatten.length ≤ c6) := Lib.hid (by
          obtain ⟨cs, ho, -, -⟩ := hO
          rcases ho.2 with ⟨e, h0⟩ | ⟨g, cap, cur, e, -, -, h2, -⟩
          · omega
          · injection e with _ _ e3
            subst e3; exact h2)
        obtain ⟨pl, hpl⟩ : ∃ pl, (xss.take i).flatten.length = pl := ⟨_, rfl⟩
        rw [hpl] at HO HLE ⊢
        have HPL := Lib.hid hpl
        clear hpl
        by_cases hlt3 : i < j
        · have hlt4 : (i : Int) < (j : Int) := by omega
          have hil : i < xss.length := by rw [HL.out]; exact hlt3
          obtain ⟨b, o, rfl, hc⟩ := Rws.at_ (Out.keep HV.out (Keeps.of_below hB2)) (by rw [HL.out]; omega)
          obtain ⟨x, hx⟩ : ∃ x, xss[i]? = some x := ⟨_, List.getElem?_eq_getElem hil⟩
          obtain ⟨xv, e0, ht⟩ := hc i x hx
          rw [Nat.mul_one] at e0
          obtain ⟨b0, o0, e9, hc0⟩ := Rws.at_ HV.out (by rw [HL.out]; omega)
          injection e9 with e9
          injection e9 with e9 e10
          subst e9 e10
          obtain ⟨xv', e0', ht'⟩ := hc0 i x hx
          rw [Nat.mul_one] at e0'
          obtain rfl : xv = xv' := by
            have := Keeps.of_below hB2 _ _ e0'
            rw [this] at e0
            injection e0 with e0
            exact e0.symm
          obtain ⟨cs, hen, A2, c2, rfl, -, -, -, hcs⟩ := Rws.cells cellsAxis ht'
          have HFL := Lib.hid (flatten_take hx)
          have hf1 : (xss.take i).flatten.length + x.length ≤ m := by
            have h := HS.out (i + 1)
            rw [← sumLen_flat, flatten_take hx, List.length_append] at h
            exact h
          obtain ⟨q, hq⟩ : ∃ q, x.length = q := ⟨_, rfl⟩
          rw [hq] at e0 hf1 hcs
          rw [HPL.out] at hf1
          have HQ := Lib.hid hq
          have HEN := Lib.hid hen
          have HCS := Lib.hid hcs
          have HI := Lib.hid hi
          have HF1 := Lib.hid hf1
          clear hB2 hO hc hc0 hx ht ht' e0' hq hen hcs hi hf1
          rcases Nat.eq_zero_or_pos q with h0 | h0
          · subst h0
            have hx0 : x = [] := List.length_eq_zero_iff.1 HQ.out
            have HR : Hid (∀ ty, (Builtin.append_ #[80, 80] ty #[.slice A6 pl c6, .slice A2 0 c2]).run Tryz.prog wr = .ok (.slice A6 pl c6) wr) := Lib.hid fun ty => run_append_empty Tryz.underlying80 HI.out _ _ _ _ _ HLE.out
            have HE0 := Lib.hid hx0
            clear hx0
            go_wp2_with (at_builtin; refine Lib.wpList_append_run _ rfl _ _ _ _ rfl _ _ rfl rfl _ _ (HR.out _) ?_)
            go_roundw
            case rel => exact ⟨i + 1, by go_num, by rw [HFL.out, HE0.out, List.append_nil]; exact HO.out, HB2.out, by omega⟩
            case measure => simp [intOf]; omega
          · obtain ⟨b2, o2, rfl, hcc⟩ := HCS.out h0
            have HN : Hid (∀ j u, cs[j]? = some u → wr.cell? ((⟨b2, o2, none⟩ : Addr).add j) = some u) := Lib.hid fun j u hu => by rw [Addr.add_lit]; exact Keeps.of_below HB2.out _ _ (HCC.out _ _ (hcc j u hu))
            clear hcc
            go_wp2_with (at_builtin; refine wpList_append_Ow cellsAxis inf_ax _ rfl _ _ 80 rfl w.heap.size Tryz.underlying80 _ (xss.take i).flatten C rfl HO.out ⟨b2, o2, none⟩ q c2 cs x rfl HQ.out HEN.out HN.out (by have := HF1.out; have := HPL.out; omega) HB2.out.size ?_; intro v' w2 hown' hB3 _; obtain ⟨A7, n7, c7, rfl⟩ := hown'.form; have HO2 := Lib.hid hown'; have HB3 := Lib.hid hB3; clear hown' hB3)
            go_roundw
            case rel => exact ⟨i + 1, by go_num, by rw [HFL.out]; exact HO2.out, HB2.out.trans HB3.out, by omega⟩
            case measure => simp [intOf]; omega
        · obtain rfl : i = j := by omega
          have HFL : Hid ((xss.take i).flatten = xss.flatten) := Lib.hid (by rw [List.take_of_length_le (by rw [HL.out]; omega)])
          clear hB2 hO
          go_wp2
          go_ret
          exact ⟨_, rfl, HB2.out, by rw [← HFL.out]; exact HO.out⟩

theorem inf_sh : Inf Tryz.prog 80 1 24 := inf_of (z := .slice none 0 0) (by kernel_rfl) rfl (by decide)

set_option maxHeartbeats 1000000 in
set_option maxRecDepth 100000 in
theorem grow_sh (n : Nat) (w : World) (hn : n ≤ 1000000) :
    Calls Tryz.prog 347 #[.slice none 0 0, .int .i64 (n : Int)] w fun e w' => ∃ v', e = .returned v' ∧ Below w.heap.size w w' ∧ ∀ C, Ow 1 EShape 80 w' C w.heap.size v' [] := by
  obtain ⟨i, z, hi, hz, h1, h2, h3, h4⟩ := inf_sh
  rcases Nat.eq_zero_or_pos n with rfl | h0
  · go_enter Tryz.func347, Tryz.ntmps347
    go_wp2
    go_ret
    exact ⟨_, rfl, Below.refl _ _, fun C => Ow.nil _ _ _ _ _ _⟩
  · have hn2 : (n : Int) ≤ 1000000 := by omega
    have hn3 : (0 : Int) < (n : Int) := by omega
    have hrun := fun ty => Lib.run_append_nil_zeros (P := Tryz.prog) w 143 3 ty 80 i z .i64 .i64 Tryz.underlying143 Tryz.underlying3 hi hz n h0 (by rw [h1]; decide) (by omega) (Nat.le_trans (Nat.mul_le_mul hn (by rw [h2]; exact h4)) (by decide))
    obtain ⟨G, hG⟩ : ∃ G, G = grownCap w n 0 80 := ⟨_, rfl⟩
    have hGn : n ≤ G := by rw [hG]; exact grownCap_ge w _ _ _
    have hG63 : G ≤ maxLen := by rw [hG]; exact grownCap_le_maxLen w n 0 80 (by unfold maxLen; omega)
    rw [← hG] at hrun
    obtain ⟨Z, hZ⟩ : ∃ Z, Z = Builtin.zeroCells z.cells n ++ Builtin.zeroCells z.cells (G - n) := ⟨_, rfl⟩
    have hZl : Z.size = G * 1 := by rw [hZ, Array.size_append, size_zeroCells, size_zeroCells, h3, ← Nat.add_mul]; congr 1; omega
    rw [← hZ] at hrun
    have HR := Lib.hid hrun
    have HZL := Lib.hid hZl
    have HG := Lib.hid hG63
    have HGN := Lib.hid hGn
    clear hrun hZ hG hZl hi hz h1 h2 h3 hG63
    go_enter Tryz.func347, Tryz.ntmps347
    go_wp2_with (at_builtin; refine Lib.wpList_append_run _ rfl _ _ _ _ rfl _ _ rfl rfl _ _ (HR.out _) ?_)
    go_ret
    refine ⟨_, rfl, (Below.refl _ w).drew.alloc (Nat.le_refl _) _, fun C => Ow.of_row (cur := Z) (cs := []) (Nat.le_refl _) (by show Bk _ _ _ _; exact Bk.new w.drew _ _) (Nat.zero_le _) HG.out HZL.out (by simp) (Enc.nil _ _ _) rfl (Nat.zero_le _)⟩

set_option maxHeartbeats 4000000 in
set_option maxRecDepth 100000 in
theorem concat_sh (xss : List (List (List LAxis))) (v : Value) (w : World) (C : Cl) (hC : Keeps C w.cell?) (hv : Out RShapes C w.cell? v xss) (hs : sumLen xss ≤ 1000000) :
    Calls Tryz.prog 332 #[v] w fun e w' => ∃ v', e = .returned v' ∧ Below w.heap.size w w' ∧ Ow 1 EShape 80 w' C w.heap.size v' xss.flatten := by
  obtain ⟨A, c, rfl, -, -, hmx⟩ := Rws.shape hv
  have HV := Lib.hid hv
  have HCC := Lib.hid hC
  obtain ⟨n, hn⟩ : ∃ n, xss.length = n := ⟨_, rfl⟩
  rw [hn] at hmx HV ⊢
  have HL := Lib.hid hn
  have hn2 : (n : Int) ≤ 1000000 := by omega
  obtain ⟨m, hm⟩ : ∃ m, sumLen xss = m := ⟨_, rfl⟩
  have HS : Hid (∀ j, sumLen (xss.take j) ≤ m) := Lib.hid (by intro j; rw [← hm]; exact sumLen_le _ _)
  have HM := Lib.hid hm
  rw [hm] at hs
  have hm2 : (m : Int) ≤ 1000000 := by omega
  obtain ⟨i0, z0, hi, hz, h1, h2, h3, h4⟩ := inf_sh
  clear hv hn hm hz hC h1 h2 h3 h4
  go_enter Tryz.func332, Tryz.ntmps332
  go_wp2
  go_loopw [3, 11] (fun a3 a11 wr => ∃ j : Nat, a11 = .int .i64 j ∧ a3 = .int .i64 (sumLen (xss.take j) : Nat) ∧ Below w.heap.size w wr ∧ j ≤ n) (fun _ a11 _ => n - (intOf a11).toNat)
  case atStart => exact ⟨0, rfl, rfl, Below.refl _ _, by omega⟩
  case round =>
    obtain ⟨j, rfl, rfl, hB, hj⟩ := hrel
    have HB := Lib.hid hB
    have hsj := HS.out j
    by_cases hlt : j < n
    · have hlt2 : (j : Int) < (n : Int) := by omega
      have hjl : j < xss.length := by rw [HL.out]; exact hlt
      obtain ⟨b, o, rfl, hc⟩ := Rws.at_ (Out.keep HV.out (Keeps.of_below hB)) (by rw [HL.out]; omega)
      obtain ⟨x, hx⟩ : ∃ x, xss[j]? = some x := ⟨_, List.getElem?_eq_getElem hjl⟩
      obtain ⟨xv, e0, ht⟩ := hc j x hx
      rw [Nat.mul_one] at e0
      obtain ⟨A2, c2, rfl, -⟩ := Rws.shape ht
      have HX := Lib.hid (sumLen_take hx)
      have hsj1 := HS.out (j + 1)
      rw [HX.out] at hsj1
      obtain ⟨p, hp⟩ : ∃ p, sumLen (xss.take j) = p := ⟨_, rfl⟩
      obtain ⟨q, hq⟩ : ∃ q, x.length = q := ⟨_, rfl⟩
      rw [hp] at hsj hsj1 HX ⊢
      rw [hq] at hsj1 HX e0
      have hpq : (p : Int) + (q : Int) ≤ 1000000 := by omega
      clear hB hc hx ht hp hq
      go_wp2
      go_roundw
      case rel => exact ⟨j + 1, by go_num, by rw [HX.out, Int.natCast_add], HB.out, by omega⟩
      case measure => simp [intOf]; omega
    · obtain rfl : j = n := by omega
      have hz : sumLen (xss.take j) = m := by rw [List.take_of_length_le (by rw [HL.out]; omega)]; exact HM.out
      rw [hz] at hsj ⊢
      clear hB hz
      go_wp2_with (go_at_call 347; refine (grow_sh m _ hs).mono ?_; rintro e w1 ⟨v1, rfl, hB1, hO1⟩; have HB1 : Hid (Below w.heap.size w w1) := Lib.hid (behind HB.out hB1); have HO1 : Hid (Ow 1 EShape 80 w1 C w.heap.size v1 []) := Lib.hid ((hO1 _).base HB.out.size); clear hB1 hO1)
      go_loopw [6, 27] (fun a6 a27 wr => ∃ i : Nat, a27 = .int .i64 i ∧ Ow 1 EShape 80 wr C w.heap.size a6 (xss.take i).flatten ∧ Below w.heap.size w wr ∧ i ≤ j) (fun _ a27 _ => j - (intOf a27).toNat)
      case atStart => exact ⟨0, rfl, HO1.out, HB1.out, by omega⟩
      case round =>
        obtain ⟨i, rfl, hO, hB2, hi2⟩ := hrel
        have HB2 := Lib.hid hB2
        have HO := Lib.hid hO
        obtain ⟨A6, c6, rfl, -⟩ := hO.shape
        have HLE : Hid ((xss.take i).flatten.length ≤ c6) := Lib.hid (by
          obtain ⟨cs, ho, -, -⟩ := hO
          rcases ho.2 with ⟨e, h0⟩ | ⟨g, cap, cur, e, -, -, h2, -⟩
          · omega
          · injection e with _ _ e3
            subst e3; exact h2)
        obtain ⟨pl, hpl⟩ : ∃ pl, (xss.take i).flatten.length = pl := ⟨_, rfl⟩
        rw [hpl] at HO HLE ⊢
        have HPL := Lib.hid hpl
        clear hpl
        by_cases hlt3 : i < j
        · have hlt4 : (i : Int) < (j : Int) := by omega
          have hil : i < xss.length := by rw [HL.out]; exact hlt3
          obtain ⟨b, o, rfl, hc⟩ := Rws.at_ (Out.keep HV.out (Keeps.of_below hB2)) (by rw [HL.out]; omega)
          obtain ⟨x, hx⟩ : ∃ x, xss[i]? = some x := ⟨_, List.getElem?_eq_getElem hil⟩
          obtain ⟨xv, e0, ht⟩ := hc i x hx
          rw [Nat.mul_one] at e0
          obtain ⟨b0, o0, e9, hc0⟩ := Rws.at_ HV.out (by rw [HL.out]; omega)
          injection e9 with e9
          injection e9 with e9 e10
          subst e9 e10
          obtain ⟨xv', e0', ht'⟩ := hc0 i x hx
          rw [Nat.mul_one] at e0'
          obtain rfl : xv = xv' := by
            have := Keeps.of_below hB2 _ _ e0'
            rw [this] at e0
            injection e0 with e0
            exact e0.symm
          obtain ⟨cs, hen, A2, c2, rfl, -, -, -, hcs⟩ := Rws.cells cellsShape ht'
          have HFL := Lib.hid (flatten_take hx)
          have hf1 : (xss.take i).flatten.length + x.length ≤ m := by
            have h := HS.out (i + 1)
            rw [← sumLen_flat, flatten_take hx, List.length_append] at h
            exact h
          obtain ⟨q, hq⟩ : ∃ q, x.length = q := ⟨_, rfl⟩
          rw [hq] at e0 hf1 hcs
          rw [HPL.out] at hf1
          have HQ := Lib.hid hq
          have HEN := Lib.hid hen
          have HCS := Lib.hid hcs
          have HI := Lib.hid hi
          have HF1 := Lib.hid hf1
          clear hB2 hO hc hc0 hx ht ht' e0' hq hen hcs hi hf1
          rcases Nat.eq_zero_or_pos q with h0 | h0
          · subst h0
            have hx0 : x = [] := List.length_eq_zero_iff.1 HQ.out
            have HR : Hid (∀ ty, (Builtin.append_ #[143, 143] ty #[.slice A6 pl c6, .slice A2 0 c2]).run Tryz.prog wr = .ok (.slice A6 pl c6) wr) := Lib.hid fun ty => run_append_empty Tryz.underlying143 HI.out _ _ _ _ _ HLE.out
            have HE0 := Lib.hid hx0
            clear hx0
            go_wp2_with (at_builtin; refine Lib.wpList_append_run _ rfl _ _ _ _ rfl _ _ rfl rfl _ _ (HR.out _) ?_)
            go_roundw
            case rel => exact ⟨i + 1, by go_num, by rw [HFL.out, HE0.out, List.append_nil]; exact HO.out, HB2.out, by omega⟩
            case measure => simp [intOf]; omega
          · obtain ⟨b2, o2, rfl, hcc⟩ := HCS.out h0
            have HN : Hid (∀ j u, cs[j]? = some u → wr.cell? ((⟨b2, o2, none⟩ : Addr).add j) = some u) := Lib.hid fun j u hu => by rw [Addr.add_lit]; exact Keeps.of_below HB2.out _ _ (HCC.out _ _ (hcc j u hu))
            clear hcc
            go_wp2_with (at_builtin; refine wpList_append_Ow cellsShape inf_sh _ rfl _ _ 143 rfl w.heap.size Tryz.underlying143 _ (xss.take i).flatten C rfl HO.out ⟨b2, o2, none⟩ q c2 cs x rfl HQ.out HEN.out HN.out (by have := HF1.out; have := HPL.out; omega) HB2.out.size ?_; intro v' w2 hown' hB3 _; obtain ⟨A7, n7, c7, rfl⟩ := hown'.form; have HO2 := Lib.hid hown'; have HB3 := Lib.hid hB3; clear hown' hB3)
            go_roundw
            case rel => exact ⟨i + 1, by go_num, by rw [HFL.out]; exact HO2.out, HB2.out.trans HB3.out, by omega⟩
            case measure => simp [intOf]; omega
        · obtain rfl : i = j := by omega
          have HFL : Hid ((xss.take i).flatten = xss.flatten) := Lib.hid (by rw [List.take_of_length_le (by rw [HL.out]; omega)])
          clear hB2 hO
          go_wp2
          go_ret
          exact ⟨_, rfl, HB2.out, by rw [← HFL.out]; exact HO.out⟩

end Go.Proofs.YtneabpgphjcbkaaGreatDoor
