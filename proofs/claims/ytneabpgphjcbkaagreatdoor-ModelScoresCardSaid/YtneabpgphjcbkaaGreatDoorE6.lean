/-
  maybe, run by the value machine; contracts of the old make on models as its calls; an argument; the pin of a run.
-/
import Derived.Test.YtneabpgphjcbkaaGreatDoorE4
import Derived.Test.YtneabpgphjcbkaaGreatDoorChm
import Derived.Test.YtneabpgphjcbkaaGreatDoorWorks
import Derived.Test.YtneabpgphjcbkaaGreatDoorInts
namespace Go.Proofs.YtneabpgphjcbkaaGreatDoor.Vm
open Go.RowKit

theorem GenM.lb {m : LModel} (h : GenM m) : LB 2000 200 m := by
  obtain ⟨h1, h2, h3, h4, h5, h6, ⟨⟨r, r1, r2, r3⟩, h7⟩, ⟨⟨q, q1, q2, -, -, q3⟩, h8⟩, h9, h10, h11⟩ := h
  have hw : 0 ≤ m.vocab * m.width ∧ m.vocab * m.width ≤ 80 := ⟨Int.mul_nonneg (by omega) (by omega), Int.mul_le_mul h2.2 h3.2 (by omega) (by omega)⟩
  have hr : r * m.width ≤ 80 := Int.mul_le_mul r2 h3.2 (by omega) (by omega)
  have hq : q * m.width ≤ 20 ∧ 0 ≤ q * m.width := ⟨Int.mul_le_mul q2 h3.2 (by omega) (by omega), Int.mul_nonneg (by omega) (by omega)⟩
  have hq2 : q * m.width * m.width ≤ 100 := Int.mul_le_mul hq.1 h3.2 (by omega) (by omega)
  have key : ∀ {l : List Int} {a b : Int}, l.length ≤ 200 → -2000 ≤ a → b ≤ 2000 → (∀ x ∈ l, a ≤ x ∧ x ≤ b) → l.length ≤ 200 ∧ ∀ x ∈ l, -2000 ≤ x ∧ x ≤ 2000 := fun hl ha hb h => ⟨hl, fun x hx => by have := h x hx; omega⟩
  refine ⟨fun x hx => ?_, fun l hl => ?_⟩
  · simp at hx
    rcases hx with rfl | rfl | rfl | rfl <;> omega
  · simp at hl
    rcases hl with rfl | rfl | rfl | rfl | rfl | rfl | rfl
    · exact key (by omega) (by omega) (by omega) h5.2
    · exact key (by omega) (by omega) (by omega) h6.2
    · exact key (by omega) (by omega) (by omega) h7
    · exact key (by omega) (by omega) (by omega) h8
    · exact key (by omega) (by omega) (by omega) h9.2
    · exact key (by omega) (by omega) (by omega) h10.2
    · exact key (by omega) (by omega) (by omega) h11.2.1
theorem LB.wide {B B' : Int} {n n' : Nat} {m : LModel} (h : LB B n m) (hB : B ≤ B') (hn : n ≤ n') : LB B' n' m :=
  ⟨fun x hx => by have := h.sc x hx; omega, fun l hl => ⟨by have := (h.ls l hl).1; omega, fun x hx => by have := (h.ls l hl).2 x hx; omega⟩⟩
theorem encM_frz (n : Nat) (s : St) (fl : Nat → Bool) (m : LModel) : Frz n s (encM fl m) (encM fl m) := by
  refine .agg _ _ rfl fun i x y hx hy => ?_
  rw [hx] at hy
  cases hy
  match i with
  | 0 | 1 | 2 | 3 => cases hx; exact .same _ rfl
  | 4 | 5 | 6 | 7 | 8 | 9 | 10 => cases hx; exact .same _ rfl
  | i + 11 => cases hx
section
variable {n sb : Nat} {st s : St} {f : Bool} {xs : List Int} {a : Int} {T : Tbl} {M : Nat → Bool} {K : V → St → Prop} {Kp : List PanicEntry → St → Prop}
theorem gmodel_g (g : GS n sb st s f xs a) (hM : M sb = true) (ha : 0 ≤ a ∧ a ≤ 10000000) (hK : ∀ fl m s' a', GenM m → a ≤ a' → a' ≤ a + 10000 → GS n sb st s' f xs a' → But sb s s' → K (encM fl m) s') : CallV Tryz.prog T M 21 [.ptr sb 1 0 0] s K Kp :=
  gmodel_v sb g.str hM g.src ha fun fl m a' h1 h2 h3 => hK fl m _ a' h1 h2 h3 (g.next _) (But.set _ _ _)
end
end Go.Proofs.YtneabpgphjcbkaaGreatDoor.Vm

namespace Go.Proofs.YtneabpgphjcbkaaGreatDoor.Vm
open Go.RowKit

section
variable {P : Program} {T : Tbl} {M : Nat → Bool} {st : St} {K : V → St → Prop} {Kp : List PanicEntry → St → Prop} {E : Env} {w : World}
/-- a contract of another make that only reads -/
theorem CallV.of_read {f : Nat} {args : List V} {uV : V} {u : Value} {G : World → List Value → Prop} (hx : entersX P f = true) (hG : ∀ B w0 E w us, Below B w0 w → T.pin B w0 → Pw E st w args us → G w us) (h : ∀ w us, G w us → Calls P f us.toArray w fun e w' => e = .returned u ∧ Below w.heap.size w w') (hr : ∀ E w, Rel E st w uV u) (hK : K uV st) : CallV P T M f args st K Kp := by
  refine ⟨hx, fun B w0 E w us' hR hT hu => ?_⟩
  refine (h w us' (hG B w0 E w us' hR.below hT.2 hu)).mono fun e w' ⟨h1, h2⟩ => ?_
  subst h1
  obtain ⟨g1, g2⟩ := Rep.idle (M := fun b _ => M b) hR (w' := w') ⟨h2.os, h2.tape, h2.output, h2.size, fun k hk _ => h2.block k hk⟩
  exact ⟨E, st, uV, g1, g2, hr _ _, hK⟩
theorem rints_of {f : Bool} {l : List Int} {u : Value} (h : Rel E st w (.lst f (ints l)) u) (hl : l.length ≤ 1000000) : RInts w.cell? u l := by
  obtain ⟨xs, hxs⟩ : ∃ xs, ints l = xs := ⟨_, rfl⟩
  rw [hxs] at h
  have hlen : xs.length = l.length := by rw [← hxs]; simp [ints]
  cases h with
  | pure h => cases h with
    | nil _ A c h =>
      have hl0 : l.length = 0 := by rw [← hlen]; rfl
      exact ⟨A, c, by rw [hl0], by omega, h.2, hl, fun h0 => by omega⟩
    | lst _ _ p n c k us hn hc hf hs hZ hk hlf hw hr =>
      refine ⟨some p, c, by rw [← hn, hlen], by omega, hc.2, hl, fun h0 => ?_⟩
      obtain ⟨pb, po, ps⟩ := p
      simp only at hs
      subst hs
      refine ⟨pb, po, rfl, fun i x hx => ?_⟩
      have hxi : xs[i]? = some (I x) := by rw [← hxs]; simp [ints, hx]
      have h1 : 1 = k := hk i _ hxi
      subst h1
      have h2 := hw i _ hxi 0 (I x) rfl
      have h3 := hr i _ hxi 0 (I x) rfl
      have h4 : us i 0 = .int .i64 x := by
        generalize us i 0 = q at h3
        cases h3
        rfl
      rw [h4] at h2
      simpa [RInt] using h2
theorem vmodel_of {fl : Nat → Bool} {m : LModel} {v : Value} (h : Rel E st w (encM fl m) v) (hl : ∀ l ∈ listsM m, l.length ≤ 1000000) : VModel w.cell? v m := by
  unfold encM at h
  cases h with
  | pure h => cases h
  | agg l us hn hr =>
    match us, hn with
    | [u0, u1, u2, u3, u4, u5, u6, u7, u8, u9, u10], _ =>
      have e0 := (hr 0 _ _ rfl rfl).lit
      have e1 := (hr 1 _ _ rfl rfl).lit
      have e2 := (hr 2 _ _ rfl rfl).lit
      have e3 := (hr 3 _ _ rfl rfl).lit
      subst e0 e1 e2 e3
      exact ⟨_, _, _, _, _, _, _, rfl, rints_of (hr 4 _ _ rfl rfl) (hl _ (by simp [listsM])), rints_of (hr 5 _ _ rfl rfl) (hl _ (by simp [listsM])), rints_of (hr 6 _ _ rfl rfl) (hl _ (by simp [listsM])), rints_of (hr 7 _ _ rfl rfl) (hl _ (by simp [listsM])), rints_of (hr 8 _ _ rfl rfl) (hl _ (by simp [listsM])), rints_of (hr 9 _ _ rfl rfl) (hl _ (by simp [listsM])), rints_of (hr 10 _ _ rfl rfl) (hl _ (by simp [listsM]))⟩
end
end Go.Proofs.YtneabpgphjcbkaaGreatDoor.Vm

namespace Go.Proofs.YtneabpgphjcbkaaGreatDoor.Vm
open Go.RowKit

/-- the tables of a run: the powers of ten lie below its start -/
def TW : Tbl := ⟨fun _ => none, fun B w0 => 2 < B ∧ Tabs w0⟩
section
variable {T : Tbl} {M : Nat → Bool} {st : St} {K : V → St → Prop} {Kp : List PanicEntry → St → Prop} {E : Env} {w : World}
theorem pw1 {a : V} {us : List Value} (h : Pw E st w [a] us) : ∃ u, us = [u] ∧ Rel E st w a u := by
  obtain ⟨h1, h2⟩ := h
  match us, h1 with
  | [u], _ => exact ⟨u, rfl, h2 0 a u rfl rfl⟩
theorem pw2 {a b : V} {us : List Value} (h : Pw E st w [a, b] us) : ∃ u v, us = [u, v] ∧ Rel E st w a u ∧ Rel E st w b v := by
  obtain ⟨h1, h2⟩ := h
  match us, h1 with
  | [u, v], _ => exact ⟨u, v, rfl, h2 0 a u rfl rfl, h2 1 b v rfl rfl⟩
theorem pw0 {us : List Value} (h : Pw E st w [] us) : us = [] := List.eq_nil_of_length_eq_zero h.1
theorem rel_pair (x y : Value) : Rel E st w (.tup [.val x, .val y]) (.tuple #[x, y]) := .tup _ [x, y] rfl fun i z u hz hu => by
  match i with
  | 0 => cases hz; cases hu; exact .pure (.val _)
  | 1 => cases hz; cases hu; exact .pure (.val _)
  | i + 2 => cases hz
theorem works_m (hK : K (Bo true) st) : CallV Tryz.prog TW M 12 [] st K Kp :=
  CallV.of_read (uV := Bo true) (u := .bool true) (G := fun w us => us = [] ∧ Tabs w) (by kernel_rfl) (fun B w0 E w us hb hp hu => ⟨pw0 hu, hp.2.below hp.1 hb⟩) (fun w us ⟨h1, h2⟩ => by subst h1; exact works_any w h2) (fun E w => .pure (.val _)) hK
theorem LB.lens {B : Int} {n : Nat} {m : LModel} (h : LB B n m) : ∀ l ∈ listsM m, l.length ≤ n := fun l hl => (h.ls l (by simpa [listsM] using hl)).1
theorem LB.sum4 {B : Int} {n : Nat} {m : LModel} (h : LB B n m) : sumLen [m.embed, m.place, m.mix, m.out] ≤ 4 * n := by
  have h1 := h.lens m.embed (by simp [listsM])
  have h2 := h.lens m.place (by simp [listsM])
  have h3 := h.lens m.mix (by simp [listsM])
  have h4 := h.lens m.out (by simp [listsM])
  simp [sumLen]; omega
theorem LB.sum2 {B : Int} {n : Nat} {m : LModel} (h : LB B n m) : sumLen [m.soft, m.odds] ≤ 2 * n := by
  have h1 := h.lens m.soft (by simp [listsM])
  have h2 := h.lens m.odds (by simp [listsM])
  simp [sumLen]; omega
theorem gvm {B : Int} {n : Nat} {fl : Nat → Bool} {m : LModel} (hb : LB B n m) (hn : n ≤ 2000) {us : List Value} (hu : Pw E st w [encM fl m] us) : ∃ v, us = [v] ∧ VModel w.cell? v m := by
  obtain ⟨v, rfl, h1⟩ := pw1 hu
  exact ⟨v, rfl, vmodel_of h1 fun l hl => by have := hb.lens l hl; omega⟩
variable {B : Int} {n : Nat} (fl : Nat → Bool) (m : LModel)
theorem check_m (hb : LB B n m) (hn : n ≤ 2000) (hK : K (I (chkM m)) st) : CallV Tryz.prog T M 13 [encM fl m] st K Kp :=
  CallV.of_read (uV := I (chkM m)) (u := .int .i64 (chkM m)) (G := fun w us => ∃ v, us = [v] ∧ VModel w.cell? v m) (by kernel_rfl) (fun _ _ _ _ _ _ _ hu => gvm hb hn hu) (fun w us ⟨v, h1, h2⟩ => by
    subst h1; exact mcheck_any m v w h2 (by have := hb.sum4; omega)) (fun E w => .pure (.val _)) hK
theorem LB.width {m : LModel} (hb : LB B n m) (hB : B ≤ 100000) : -100000 ≤ m.width ∧ m.width ≤ 100000 := by have := hb.sc m.width (by simp); omega
theorem gv2 {B : Int} {n : Nat} {fl fk : Nat → Bool} {m k : LModel} (hb : LB B n m) (hk : LB B n k) (hn : n ≤ 2000) {us : List Value} (hu : Pw E st w [encM fl m, encM fk k] us) : ∃ v u, us = [v, u] ∧ VModel w.cell? v m ∧ VModel w.cell? u k := by
  obtain ⟨v, u, rfl, h1, h2⟩ := pw2 hu
  exact ⟨v, u, rfl, vmodel_of h1 fun l hl => by have := hb.lens l hl; omega, vmodel_of h2 fun l hl => by have := hk.lens l hl; omega⟩
end
/-- a slice of ints that came in -/
theorem prel_li {w : World} {v : Value} {xs : List Int} (h : LI w v xs) : PRel (fun b => b < w.heap.size) w (.lst false (ints xs)) v := by
  obtain ⟨⟨A, c, rfl, h1, h2, h3⟩, -, -⟩ := h
  rw [i64s_length] at h1 h3 ⊢
  rcases Nat.eq_zero_or_pos xs.length with h0 | h0
  · obtain rfl : xs = [] := List.eq_nil_of_length_eq_zero h0
    exact .nil false A c ⟨by simp, h2⟩
  · obtain ⟨b, o, rfl, hc⟩ := h3 h0
    have cellI : ∀ i, i < xs.length → w.cell? ⟨b, o + i, none⟩ = some (.int .i64 (xs[i]?.getD 0)) := fun i hi => hc i _ (i64s_at hi)
    refine .lst false (ints xs) ⟨b, o, none⟩ xs.length c 1 (fun i _ => .int .i64 (xs[i]?.getD 0)) (by simp) ⟨h1, h2⟩ (by simp) rfl (World.block_lt_of_cell? w _ (cellI 0 h0)) ?_ ?_ ?_ ?_
    · intro i x hx
      obtain ⟨y, -, rfl⟩ := List.mem_map.1 (List.mem_of_getElem? hx)
      rfl
    · intro i x hx j y hy
      obtain ⟨z, -, rfl⟩ := List.mem_map.1 (List.mem_of_getElem? hx)
      simp at hy
      obtain ⟨-, rfl⟩ := List.getElem?_eq_some_iff.1 hy
      match j with
      | 0 => rfl
    · intro i x hx j y hy
      have hi : i < xs.length := by have := (List.getElem?_eq_some_iff.1 hx).1; simpa using this
      obtain ⟨z, -, rfl⟩ := List.mem_map.1 (List.mem_of_getElem? hx)
      match j, hy with
      | 0, _ => exact (by rw [Nat.mul_one, Nat.add_zero] : (⟨b, o + (i * 1 + 0), none⟩ : Addr) = ⟨b, o + i, none⟩) ▸ cellI i hi
    · intro i x hx j y hy
      have hi : i < xs.length := by have := (List.getElem?_eq_some_iff.1 hx).1; simpa using this
      have hx' : x = I (xs[i]?.getD 0) := by
        rw [ints_get (List.getElem?_eq_getElem hi)] at hx
        cases hx
        simp [hi]
      subst hx'
      match j, hy with
      | 0, hy => cases hy; exact .val _
/-- the first n operations, then the rest -/
theorem steps_cut {P : Program} {T : Tbl} {M rd : Nat → Nat → Bool} {st0 st : St} {Q : Post} {K : Fr → St → Prop} {D : List Nat} {fr : Fr} {ms : List MO} (n : Nat) (h : ∀ L, L = ms.drop n → stepsV P T M rd st0 Q K (ms.take n ++ L) D fr st) : stepsV P T M rd st0 Q K ms D fr st := by
  have := h _ rfl
  rwa [List.take_append_drop] at this
theorem seq_cut {P : Program} {T : Tbl} {M : Nat → Nat → Bool} {st : St} {Q : Post} {K : Fr → St → Prop} {fr : Fr} {ms : List MO} (n : Nat) (h : ∀ L, L = ms.drop n → seqV P T M Q K (ms.take n ++ L) fr st) : seqV P T M Q K ms fr st := by
  have := h _ rfl
  rwa [List.take_append_drop] at this
/-- the operations of a straight piece -/
def MC.ops : MC → List MO
  | .lst ms => ms
  | .flat ms => ms
  | _ => []
theorem frz_pair {n : Nat} {s : St} {x y : V} (hx : x.pl = true) (hy : y.pl = true) : Frz n s (.tup [x, y]) (.tup [x, y]) := by
  refine .tup _ _ rfl fun i a b ha hb => ?_
  rw [ha] at hb
  cases hb
  match i with
  | 0 => cases ha; exact .same _ (V.leaf_pure hx _)
  | 1 => cases ha; exact .same _ (V.leaf_pure hy _)
  | i + 2 => cases ha
end Go.Proofs.YtneabpgphjcbkaaGreatDoor.Vm
