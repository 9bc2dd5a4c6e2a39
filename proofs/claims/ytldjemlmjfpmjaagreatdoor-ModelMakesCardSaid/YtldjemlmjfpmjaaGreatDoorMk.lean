/-
  Making a model: the program's way and the reference's.
-/
import Derived.Test.YtldjemlmjfpmjaaGreatDoorMks
import Derived.Test.YtldjemlmjfpmjaaGreatDoorModd
namespace Go.Proofs.YtldjemlmjfpmjaaGreatDoor
open Go.RowKit

theorem Bk.ne_ty {w : World} {a b : Nat} {t t' : TypeId} {cs cs' : Array Value} (h : Bk w a t cs) (h' : Bk w b t' cs') (ht : t ≠ t') : a ≠ b := by
  rintro rfl
  unfold Bk at h h'
  rw [h] at h'
  injection h' with e
  injection e with _ e
  exact ht e
/-- what is known while a model is made -/
structure MkS (w W : World) (sb qb mb rk : Nat) (s : Int) (k : Nat) (cs : Array Value) (L : List (Value × List Int)) : Prop where
  below : Below w.heap.size w W
  seed : Bk W sb 3 #[.int .i64 s]
  ctr : Bk W qb 3 #[.int .i64 (k : Int)]
  mod : Bk W mb 24 cs
  res : Bk W rk 24 #[.int .i64 0, .int .i64 0, .int .i64 0, .int .i64 0, .slice none 0 0, .slice none 0 0, .slice none 0 0, .slice none 0 0, .slice none 0 0, .slice none 0 0, .slice none 0 0]
  hq : w.heap.size ≤ qb
  hm : w.heap.size ≤ mb
  hr : w.heap.size ≤ rk
  ne : sb ≠ qb
  nr : rk ≠ mb
  own : ∀ p ∈ L, p.1.ownBlock ≠ some qb ∧ Ow 1 EInt 3 W (fun _ => none) w.heap.size p.1 p.2
section
variable {w W w1 : World} {sb qb mb rk : Nat} {s : Int} {k k' : Nat} {cs : Array Value} {L : List (Value × List Int)}
theorem MkS.call (h : MkS w W sb qb mb rk s k cs L) (hF : Frm (isB qb) W w1) (hb : Bk w1 qb 3 #[.int .i64 (k' : Int)]) {v : Value} {l : List Int} (hO : Ow 1 EInt 3 w1 (fun _ => none) (qb + 1) v l) : MkS w w1 sb qb mb rk s k' cs (L ++ [(v, l)]) := by
  have hmq : mb ≠ qb := Bk.ne_ty h.mod h.ctr (by decide)
  have hrq : rk ≠ qb := Bk.ne_ty h.res h.ctr (by decide)
  refine ⟨h.below.trans (hF.below h.below.size (fun b hb => isB_false.2 (by have := h.hq; omega))), hF.bk h.seed (isB_false.2 h.ne), hb, hF.bk h.mod (isB_false.2 hmq), hF.bk h.res (isB_false.2 hrq), h.hq, h.hm, h.hr, h.ne, h.nr, fun p hp => ?_⟩
  rcases List.mem_append.1 hp with hp | hp
  · obtain ⟨hq, ho⟩ := h.own p hp
    exact ⟨hq, Frm.ow cellsInt hF ho (fun b hb2 => isB_false.2 (by rintro rfl; exact hq hb2)) (Keeps.refl _)⟩
  · have : p = (v, l) := by simpa using hp
    subst this
    exact ⟨fun e => by have := (hO.lt _ e).1; omega, hO.base (by have := h.hq; omega)⟩
theorem MkS.put (h : MkS w W sb qb mb rk s k cs L) (i : Nat) (u : Value) : MkS w (W.setCell ⟨mb, i, none⟩ u) sb qb mb rk s k (cs.setIfInBounds i u) L :=
  ⟨h.below.setCell (p := ⟨mb, i, none⟩) h.hm _, h.seed.far (p := ⟨mb, i, none⟩) (Bk.ne_ty h.seed h.mod (by decide)) _, h.ctr.far (p := ⟨mb, i, none⟩) (Bk.ne_ty h.ctr h.mod (by decide)) _, h.mod.set i u, h.res.far (p := ⟨mb, i, none⟩) h.nr _, h.hq, h.hm, h.hr, h.ne, h.nr,
    fun p hp => ⟨(h.own p hp).1, Ow.beside cellsInt (h.own p hp).2 (p := ⟨mb, i, none⟩) (Ow.ne_bk (h.own p hp).2 h.mod (by decide)) u⟩⟩
theorem MkS.putL (h : MkS w W sb qb mb rk s k cs L) (i : Nat) (u : Value) (cs' : Array Value) (hcs : cs.setIfInBounds i u = cs') : MkS w (W.setCell ⟨mb, i, none⟩ u) sb qb mb rk s k cs' L := hcs ▸ h.put i u
theorem MkS.lit (h : MkS w W sb qb mb rk s k cs L) {l : List Int} (n B : Nat) (o : Array Value) (hB : W.heap.size = B) (ho : o = (i64s l).toArray) (hn : l.length = n) (hl : n ≤ 1000000) : MkS w (W.alloc (.cells o 3)) sb qb mb rk s k cs (L ++ [(.slice (some ⟨B, 0, none⟩) n n, l)]) := by
  subst ho
  subst hB
  have hB : Below W.heap.size W (W.alloc (.cells (i64s l).toArray 3)) := laid (Below.refl _ _) _
  refine ⟨behind h.below hB, h.seed.alloc _, h.ctr.alloc _, h.mod.alloc _, h.res.alloc _, h.hq, h.hm, h.hr, h.ne, h.nr, fun p hp => ?_⟩
  rcases List.mem_append.1 hp with hp | hp
  · exact ⟨(h.own p hp).1, Ow.below cellsInt (h.own p hp).2 hB (Keeps.refl _)⟩
  · have : p = (.slice (some ⟨W.heap.size, 0, none⟩) n n, l) := by simpa using hp
    subst this
    have := h.ctr.lt
    exact ⟨fun e => by have e2 : W.heap.size = qb := Option.some.inj e; omega, own_ow (Bk.new _ _ _) h.below.size hn hl⟩
theorem MkS.rints (h : MkS w W sb qb mb rk s k cs L) {v : Value} {l : List Int} (hp : (v, l) ∈ L) : RInts W.cell? v l := by
  obtain ⟨-, ho⟩ := h.own _ hp
  exact Ow.rws cellsInt ho (fun _ _ e => by cases e)
end
theorem res_ct {fn : Func} {p u : Tmp} {ty : TypeId} (h : fn.results = #[.cell p ty, .tmp u]) (tmps : Array Value) (P : Program) (w : World) :
    (results fn tmps).run P w = ((asAddr (tmps.getD p undef)).run P w).andThen fun a w₁ => ((loadVar ty a).run P w₁).andThen fun v w₂ => .ok (.tuple #[v, tmps.getD u undef]) w₂ := by
  simp only [results, h]
  simp [Sem.run_bind, Result.andThen]
/-- what is known while the model is copied out -/
structure MkF (w W : World) (rk : Nat) (cs : Array Value) (L : List (Value × List Int)) : Prop where
  below : Below w.heap.size w W
  res : Bk W rk 24 cs
  hr : w.heap.size ≤ rk
  own : ∀ p ∈ L, Ow 1 EInt 3 W (fun _ => none) w.heap.size p.1 p.2
theorem MkF.put {w W : World} {rk : Nat} {cs : Array Value} {L : List (Value × List Int)} (h : MkF w W rk cs L) (i : Nat) (u : Value) (cs' : Array Value) (hcs : cs.setIfInBounds i u = cs') : MkF w (W.setCell ⟨rk, i, none⟩ u) rk cs' L := by
  exact hcs ▸ ⟨h.below.setCell (p := ⟨rk, i, none⟩) h.hr _, h.res.set i u, h.hr, fun p hp => Ow.beside cellsInt (h.own p hp) (p := ⟨rk, i, none⟩) (Ow.ne_bk (h.own p hp) h.res (by decide)) u⟩
/-- a model whose rows are owned, in blocks from B on -/
def OwM (B : Nat) (w : World) (v : Value) (m : LModel) : Prop := ∃ a b c d e f g, v = .agg #[.int .i64 m.kind, .int .i64 m.vocab, .int .i64 m.width, .int .i64 m.top, a, b, c, d, e, f, g] ∧ Ow 1 EInt 3 w (fun _ => none) B a m.cuts ∧ Ow 1 EInt 3 w (fun _ => none) B b m.embed ∧ Ow 1 EInt 3 w (fun _ => none) B c m.place ∧ Ow 1 EInt 3 w (fun _ => none) B d m.mix ∧ Ow 1 EInt 3 w (fun _ => none) B e m.out ∧ Ow 1 EInt 3 w (fun _ => none) B f m.soft ∧ Ow 1 EInt 3 w (fun _ => none) B g m.odds
theorem OwM.val {B : Nat} {w : World} {v : Value} {m : LModel} (h : OwM B w v m) : VModel w.cell? v m := by
  obtain ⟨a, b, c, d, e, f, g, hv, h1, h2, h3, h4, h5, h6, h7⟩ := h
  have K : Keeps (fun _ => none) w.cell? := fun _ _ e => by cases e
  exact ⟨a, b, c, d, e, f, g, hv, Ow.rws cellsInt h1 K, Ow.rws cellsInt h2 K, Ow.rws cellsInt h3 K, Ow.rws cellsInt h4 K, Ow.rws cellsInt h5 K, Ow.rws cellsInt h6 K, Ow.rws cellsInt h7 K⟩
theorem OwM.frm {B : Nat} {S : Nat → Bool} {w w' : World} {v : Value} {m : LModel} (h : OwM B w v m) (hF : Frm S w w') (hS : ∀ b, B ≤ b → S b = false) : OwM B w' v m := by
  obtain ⟨a, b, c, d, e, f, g, hv, h1, h2, h3, h4, h5, h6, h7⟩ := h
  exact ⟨a, b, c, d, e, f, g, hv, Frm.ow cellsInt hF h1 (fun b hb => hS b (h1.lt b hb).1) (Keeps.refl _), Frm.ow cellsInt hF h2 (fun b hb => hS b (h2.lt b hb).1) (Keeps.refl _), Frm.ow cellsInt hF h3 (fun b hb => hS b (h3.lt b hb).1) (Keeps.refl _), Frm.ow cellsInt hF h4 (fun b hb => hS b (h4.lt b hb).1) (Keeps.refl _), Frm.ow cellsInt hF h5 (fun b hb => hS b (h5.lt b hb).1) (Keeps.refl _), Frm.ow cellsInt hF h6 (fun b hb => hS b (h6.lt b hb).1) (Keeps.refl _), Frm.ow cellsInt hF h7 (fun b hb => hS b (h7.lt b hb).1) (Keeps.refl _)⟩
theorem MkF.rints {w W : World} {rk : Nat} {cs : Array Value} {L : List (Value × List Int)} (h : MkF w W rk cs L) {v : Value} {l : List Int} (hp : (v, l) ∈ L) : Ow 1 EInt 3 W (fun _ => none) w.heap.size v l := h.own _ hp
theorem MkS.fin {w W : World} {sb qb mb rk : Nat} {s : Int} {k : Nat} {cs : Array Value} {L : List (Value × List Int)} (h : MkS w W sb qb mb rk s k cs L) : MkF w W rk #[.int .i64 0, .int .i64 0, .int .i64 0, .int .i64 0, .slice none 0 0, .slice none 0 0, .slice none 0 0, .slice none 0 0, .slice none 0 0, .slice none 0 0, .slice none 0 0] L := ⟨h.below, h.res, h.hr, fun p hp => (h.own p hp).2⟩
theorem MkF.all {w W : World} {rk : Nat} {L : List (Value × List Int)} (h : MkF w W rk #[.int .i64 0, .int .i64 0, .int .i64 0, .int .i64 0, .slice none 0 0, .slice none 0 0, .slice none 0 0, .slice none 0 0, .slice none 0 0, .slice none 0 0, .slice none 0 0] L) (u0 u1 u2 u3 u4 u5 u6 u7 u8 u9 u10 : Value) :
    MkF w (((((((((((W.setCell ⟨rk, 0, none⟩ u0).setCell ⟨rk, 1, none⟩ u1).setCell ⟨rk, 2, none⟩ u2).setCell ⟨rk, 3, none⟩ u3).setCell ⟨rk, 4, none⟩ u4).setCell ⟨rk, 5, none⟩ u5).setCell ⟨rk, 6, none⟩ u6).setCell ⟨rk, 7, none⟩ u7).setCell ⟨rk, 8, none⟩ u8).setCell ⟨rk, 9, none⟩ u9).setCell ⟨rk, 10, none⟩ u10) rk #[u0, u1, u2, u3, u4, u5, u6, u7, u8, u9, u10] L := by
  have h0 := h.put 0 u0 #[u0, .int .i64 0, .int .i64 0, .int .i64 0, .slice none 0 0, .slice none 0 0, .slice none 0 0, .slice none 0 0, .slice none 0 0, .slice none 0 0, .slice none 0 0] rfl
  have h1 := h0.put 1 u1 #[u0, u1, .int .i64 0, .int .i64 0, .slice none 0 0, .slice none 0 0, .slice none 0 0, .slice none 0 0, .slice none 0 0, .slice none 0 0, .slice none 0 0] rfl
  have h2 := h1.put 2 u2 #[u0, u1, u2, .int .i64 0, .slice none 0 0, .slice none 0 0, .slice none 0 0, .slice none 0 0, .slice none 0 0, .slice none 0 0, .slice none 0 0] rfl
  have h3 := h2.put 3 u3 #[u0, u1, u2, u3, .slice none 0 0, .slice none 0 0, .slice none 0 0, .slice none 0 0, .slice none 0 0, .slice none 0 0, .slice none 0 0] rfl
  have h4 := h3.put 4 u4 #[u0, u1, u2, u3, u4, .slice none 0 0, .slice none 0 0, .slice none 0 0, .slice none 0 0, .slice none 0 0, .slice none 0 0] rfl
  have h5 := h4.put 5 u5 #[u0, u1, u2, u3, u4, u5, .slice none 0 0, .slice none 0 0, .slice none 0 0, .slice none 0 0, .slice none 0 0] rfl
  have h6 := h5.put 6 u6 #[u0, u1, u2, u3, u4, u5, u6, .slice none 0 0, .slice none 0 0, .slice none 0 0, .slice none 0 0] rfl
  have h7 := h6.put 7 u7 #[u0, u1, u2, u3, u4, u5, u6, u7, .slice none 0 0, .slice none 0 0, .slice none 0 0] rfl
  have h8 := h7.put 8 u8 #[u0, u1, u2, u3, u4, u5, u6, u7, u8, .slice none 0 0, .slice none 0 0] rfl
  have h9 := h8.put 9 u9 #[u0, u1, u2, u3, u4, u5, u6, u7, u8, u9, .slice none 0 0] rfl
  have h10 := h9.put 10 u10 #[u0, u1, u2, u3, u4, u5, u6, u7, u8, u9, u10] rfl
  exact h10
theorem mk_start (w : World) (s K V D : Int) : MkS w (((((w.alloc (.cells #[.int .i64 s] 3)).alloc (.cells #[.int .i64 0, .int .i64 0, .int .i64 0, .int .i64 0, .slice none 0 0, .slice none 0 0, .slice none 0 0, .slice none 0 0, .slice none 0 0, .slice none 0 0, .slice none 0 0] 24)).alloc (.cells #[.int .i64 0] 3)).alloc (.cells #[.int .i64 4, .int .i64 6, .int .i64 8, .int .i64 3] 3)).alloc (.cells #[.int .i64 K, .int .i64 V, .int .i64 D, .int .i64 V, .slice (some ⟨w.heap.size + 1 + 1 + 1, 0, none⟩) 4 4, .slice none 0 0, .slice none 0 0, .slice none 0 0, .slice none 0 0, .slice none 0 0, .slice none 0 0] 24))
    w.heap.size (w.heap.size + 1 + 1) (w.heap.size + 1 + 1 + 1 + 1) (w.heap.size + 1) s 0 #[.int .i64 K, .int .i64 V, .int .i64 D, .int .i64 V, .slice (some ⟨w.heap.size + 1 + 1 + 1, 0, none⟩) 4 4, .slice none 0 0, .slice none 0 0, .slice none 0 0, .slice none 0 0, .slice none 0 0, .slice none 0 0] [(.slice (some ⟨w.heap.size + 1 + 1 + 1, 0, none⟩) 4 4, [4, 6, 8, 3])] := by
  obtain ⟨W1, h1⟩ : ∃ W1, W1 = w.alloc (.cells #[.int .i64 s] 3) := ⟨_, rfl⟩
  have b1 : Bk W1 w.heap.size 3 #[.int .i64 s] := by rw [h1]; exact Bk.new _ _ _
  have z1 : W1.heap.size = w.heap.size + 1 := by rw [h1]; exact World.size_alloc _ _
  have l1 : Below w.heap.size w W1 := by rw [h1]; exact laid (Below.refl _ _) _
  rw [← h1]
  obtain ⟨W2, h2⟩ : ∃ W2, W2 = W1.alloc (.cells #[.int .i64 0, .int .i64 0, .int .i64 0, .int .i64 0, .slice none 0 0, .slice none 0 0, .slice none 0 0, .slice none 0 0, .slice none 0 0, .slice none 0 0, .slice none 0 0] 24) := ⟨_, rfl⟩
  have b2 : Bk W2 (w.heap.size + 1) 24 #[.int .i64 0, .int .i64 0, .int .i64 0, .int .i64 0, .slice none 0 0, .slice none 0 0, .slice none 0 0, .slice none 0 0, .slice none 0 0, .slice none 0 0, .slice none 0 0] := by rw [h2, ← z1]; exact Bk.new _ _ _
  have z2 : W2.heap.size = w.heap.size + 1 + 1 := by rw [h2, World.size_alloc, z1]
  have l2 : Below w.heap.size w W2 := by rw [h2]; exact laid l1 _
  replace b1 : Bk W2 w.heap.size 3 #[.int .i64 s] := by rw [h2]; exact b1.alloc _
  rw [← h2]
  obtain ⟨W3, h3⟩ : ∃ W3, W3 = W2.alloc (.cells #[.int .i64 0] 3) := ⟨_, rfl⟩
  have b3 : Bk W3 (w.heap.size + 1 + 1) 3 #[.int .i64 0] := by rw [h3, ← z2]; exact Bk.new _ _ _
  have z3 : W3.heap.size = w.heap.size + 1 + 1 + 1 := by rw [h3, World.size_alloc, z2]
  have l3 : Below w.heap.size w W3 := by rw [h3]; exact laid l2 _
  replace b1 : Bk W3 w.heap.size 3 #[.int .i64 s] := by rw [h3]; exact b1.alloc _
  replace b2 : Bk W3 (w.heap.size + 1) 24 #[.int .i64 0, .int .i64 0, .int .i64 0, .int .i64 0, .slice none 0 0, .slice none 0 0, .slice none 0 0, .slice none 0 0, .slice none 0 0, .slice none 0 0, .slice none 0 0] := by rw [h3]; exact b2.alloc _
  rw [← h3]
  obtain ⟨W4, h4⟩ : ∃ W4, W4 = W3.alloc (.cells #[.int .i64 4, .int .i64 6, .int .i64 8, .int .i64 3] 3) := ⟨_, rfl⟩
  have b4 : OwnI W4 (w.heap.size + 1 + 1 + 1) [4, 6, 8, 3] := by rw [h4, ← z3]; exact Bk.new _ _ _
  have z4 : W4.heap.size = w.heap.size + 1 + 1 + 1 + 1 := by rw [h4, World.size_alloc, z3]
  have l4 : Below w.heap.size w W4 := by rw [h4]; exact laid l3 _
  replace b1 : Bk W4 w.heap.size 3 #[.int .i64 s] := by rw [h4]; exact b1.alloc _
  replace b2 : Bk W4 (w.heap.size + 1) 24 #[.int .i64 0, .int .i64 0, .int .i64 0, .int .i64 0, .slice none 0 0, .slice none 0 0, .slice none 0 0, .slice none 0 0, .slice none 0 0, .slice none 0 0, .slice none 0 0] := by rw [h4]; exact b2.alloc _
  replace b3 : Bk W4 (w.heap.size + 1 + 1) 3 #[.int .i64 0] := by rw [h4]; exact b3.alloc _
  rw [← h4, ← z4]
  refine ⟨laid l4 _, b1.alloc _, b3.alloc _, Bk.new _ _ _, b2.alloc _, by omega, by omega, by omega, by omega, by omega, fun p hp => ?_⟩
  have : p = (.slice (some ⟨w.heap.size + 1 + 1 + 1, 0, none⟩) 4 4, [4, 6, 8, 3]) := by simpa using hp
  subst this
  exact ⟨fun e => by have e2 : w.heap.size + 1 + 1 + 1 = w.heap.size + 1 + 1 := Option.some.inj e; omega, own_ow (b4.alloc _) (by omega) rfl (by omega)⟩
/-- a model that is made: M matrices of mixing, p1, p2, p3: the lengths less one -/
def madeM (s K V D : Int) (p1 p2 p3 : Nat) : LModel := ⟨K, V, D, V, [4, 6, 8, 3], matL s (0 : Nat) (p1 + 1), matL s ((0 + (p1 + 1) : Nat) : Int) (p2 + 1), matL s ((0 + (p1 + 1) + (p2 + 1) : Nat) : Int) (p3 + 1), matL s ((0 + (p1 + 1) + (p2 + 1) + (p3 + 1) : Nat) : Int) (p1 + 1), [64, 32, 16, 8, 4, 2, 1], [32, 16, 8, 4, 2, 1]⟩
set_option maxHeartbeats 8000000 in
set_option maxRecDepth 100000 in
theorem make_err (s K V D : Int) (w : World) (hz : sizedM K V D ≠ 0) :
    Calls Tryz.prog 7 #[.int .i64 s, .int .i64 K, .int .i64 V, .int .i64 D] w fun e w' => e = .returned (.tuple #[.agg #[.int .i64 0, .int .i64 0, .int .i64 0, .int .i64 0, .slice none 0 0, .slice none 0 0, .slice none 0 0, .slice none 0 0, .slice none 0 0, .slice none 0 0, .slice none 0 0], .int .i64 (sizedM K V D)]) ∧ Below w.heap.size w w' := by
  have HZ := Lib.hid fun W => sized_any K V D W
  revert HZ
  generalize hc : sizedM K V D = c at hz ⊢
  intro HZ
  clear hc
  go_enter Tryz.func7, Tryz.ntmps7
  go_wp2_with fail
  go_at_call 39
  refine (HZ.out _).mono ?_
  rintro e w1 ⟨rfl, rfl⟩
  go_wp2_with fail
  refine bodyPost_ret (v := .tuple #[.agg #[.int .i64 0, .int .i64 0, .int .i64 0, .int .i64 0, .slice none 0 0, .slice none 0 0, .slice none 0 0, .slice none 0 0, .slice none 0 0, .slice none 0 0, .slice none 0 0], .int .i64 c]) (by rw [res_ct rfl]; go_simp) rfl ⟨rfl, ?_⟩
  repeat (first | exact Below.refl _ _ | refine Below.setCell ?_ (by go_simp) _ | refine Below.alloc ?_ (by go_simp) _)
set_option maxHeartbeats 8000000 in
set_option maxRecDepth 100000 in
theorem make_1 (s V D : Int) (p1 p2 p3 p0 : Nat) (w : World) (hV1 : 2 ≤ V) (hV2 : V ≤ 16) (hD1 : 1 ≤ D) (hD2 : D ≤ 5) (q1 : V * D = (p1 : Int) + 1) (q2 : 4 * D = (p2 : Int) + 1) (q0 : 3 * D = (p0 : Int)) (q3 : (p0 : Int) * D = (p3 : Int) + 1) :
    Calls Tryz.prog 7 #[.int .i64 s, .int .i64 1, .int .i64 V, .int .i64 D] w fun e w' => ∃ v, e = .returned (.tuple #[v, .int .i64 0]) ∧ Below w.heap.size w w' ∧ OwM w.heap.size w' v (madeM s 1 V D p1 p2 p3) := by
  have hp1 : p1 + 1 ≤ 80 := by
    rcases (show D = 1 ∨ D = 2 ∨ D = 3 ∨ D = 4 ∨ D = 5 by omega) with rfl | rfl | rfl | rfl | rfl <;> omega
  have hp2 : p2 + 1 ≤ 20 := by omega
  have hp0 : p0 ≤ 15 := by omega
  have hp3 : p3 + 1 ≤ 75 := by
    rcases (show D = 1 ∨ D = 2 ∨ D = 3 ∨ D = 4 ∨ D = 5 by omega) with rfl | rfl | rfl | rfl | rfl <;> omega
  have r1 : wrap64 (V * D) = (p1 : Int) + 1 := by rw [q1]; unfold wrap64; omega
  have r2 : wrap64 (4 * D) = (p2 : Int) + 1 := by rw [q2]; unfold wrap64; omega
  have r0 : wrap64 (3 * D) = (p0 : Int) := by rw [q0]; unfold wrap64; omega
  have r3 : wrap64 ((p0 : Int) * D) = (p3 : Int) + 1 := by rw [q3]; unfold wrap64; omega
  have hsz : sizedM 1 V D = 0 := by simp [sizedM, inB]; omega
  have HZ : Hid (∀ W, Calls Tryz.prog 39 #[.int .i64 1, .int .i64 V, .int .i64 D] W fun e w' => e = .returned (.int .i64 0) ∧ w' = W) := Lib.hid fun W => by have := sized_any 1 V D W; rw [hsz] at this; exact this
  have HMX := Lib.hid matrix_ow
  clear q1 q3 hsz
  go_enter Tryz.func7, Tryz.ntmps7
  go_wp2_with fail
  go_at_call 39
  refine (HZ.out _).mono ?_
  rintro e w1 ⟨rfl, rfl⟩
  go_wp2_with fail
  obtain ⟨W, hW⟩ : ∃ W, W = (((((w.alloc (.cells #[.int .i64 s] 3)).alloc (.cells #[.int .i64 0, .int .i64 0, .int .i64 0, .int .i64 0, .slice none 0 0, .slice none 0 0, .slice none 0 0, .slice none 0 0, .slice none 0 0, .slice none 0 0, .slice none 0 0] 24)).alloc (.cells #[.int .i64 0] 3)).alloc (.cells #[.int .i64 4, .int .i64 6, .int .i64 8, .int .i64 3] 3)).alloc (.cells #[.int .i64 1, .int .i64 V, .int .i64 D, .int .i64 V, .slice (some ⟨w.heap.size + 1 + 1 + 1, 0, none⟩) 4 4, .slice none 0 0, .slice none 0 0, .slice none 0 0, .slice none 0 0, .slice none 0 0, .slice none 0 0] 24)) := ⟨_, rfl⟩
  have HS : Hid (MkS w W w.heap.size (w.heap.size + 1 + 1) (w.heap.size + 1 + 1 + 1 + 1) (w.heap.size + 1) s 0 #[.int .i64 1, .int .i64 V, .int .i64 D, .int .i64 V, .slice (some ⟨w.heap.size + 1 + 1 + 1, 0, none⟩) 4 4, .slice none 0 0, .slice none 0 0, .slice none 0 0, .slice none 0 0, .slice none 0 0, .slice none 0 0] [(.slice (some ⟨w.heap.size + 1 + 1 + 1, 0, none⟩) 4 4, [4, 6, 8, 3])]) := Lib.hid (by rw [hW]; exact mk_start w s 1 V D)
  rw [← hW]
  clear hW
  refine (HMX.out p1 (by omega) s _ (by omega) _ _ (w.heap.size + 1 + 1 + 1) _ (HS.out.seed.cell 0) HS.out.ctr HS.out.ne HS.out.ctr.lt).mono ?_
  rintro e w2 ⟨v0, rfl, hF, hb, hO⟩
  have HS1 := Lib.hid (HS.out.call hF hb hO)
  obtain ⟨A0, n0, c0, rfl⟩ := hO.form
  have hc0 : w2.cell? ⟨w.heap.size + 1 + 1 + 1 + 1, 5, none⟩ = some (.slice none 0 0) := HS1.out.mod.cell 5
  have hf0 := HS1.out.mod.frozen 5
  clear hF hb hO HS
  have HS := Lib.hid (HS1.out.putL 5 (.slice A0 n0 c0) #[.int .i64 1, .int .i64 V, .int .i64 D, .int .i64 V, .slice (some ⟨w.heap.size + 1 + 1 + 1, 0, none⟩) 4 4, .slice A0 n0 c0, .slice none 0 0, .slice none 0 0, .slice none 0 0, .slice none 0 0, .slice none 0 0] rfl)
  clear HS1
  go_wp2_with fail
  clear hc0 hf0
  refine (HMX.out p2 (by omega) s _ (by omega) _ _ (w.heap.size + 1 + 1 + 1) _ (HS.out.seed.cell 0) HS.out.ctr HS.out.ne HS.out.ctr.lt).mono ?_
  rintro e w3 ⟨v1, rfl, hF, hb, hO⟩
  have HS1 := Lib.hid (HS.out.call hF hb hO)
  obtain ⟨A1, n1, c1, rfl⟩ := hO.form
  have hc1 : w3.cell? ⟨w.heap.size + 1 + 1 + 1 + 1, 6, none⟩ = some (.slice none 0 0) := HS1.out.mod.cell 6
  have hf1 := HS1.out.mod.frozen 6
  clear hF hb hO HS
  have HS := Lib.hid (HS1.out.putL 6 (.slice A1 n1 c1) #[.int .i64 1, .int .i64 V, .int .i64 D, .int .i64 V, .slice (some ⟨w.heap.size + 1 + 1 + 1, 0, none⟩) 4 4, .slice A0 n0 c0, .slice A1 n1 c1, .slice none 0 0, .slice none 0 0, .slice none 0 0, .slice none 0 0] rfl)
  clear HS1
  go_wp2_with fail
  clear hc1 hf1
  refine (HMX.out p3 (by omega) s _ (by omega) _ _ (w.heap.size + 1 + 1 + 1) _ (HS.out.seed.cell 0) HS.out.ctr HS.out.ne HS.out.ctr.lt).mono ?_
  rintro e w4 ⟨v2, rfl, hF, hb, hO⟩
  have HS1 := Lib.hid (HS.out.call hF hb hO)
  obtain ⟨A2, n2, c2, rfl⟩ := hO.form
  have hc2 : w4.cell? ⟨w.heap.size + 1 + 1 + 1 + 1, 7, none⟩ = some (.slice none 0 0) := HS1.out.mod.cell 7
  have hf2 := HS1.out.mod.frozen 7
  clear hF hb hO HS
  have HS := Lib.hid (HS1.out.putL 7 (.slice A2 n2 c2) #[.int .i64 1, .int .i64 V, .int .i64 D, .int .i64 V, .slice (some ⟨w.heap.size + 1 + 1 + 1, 0, none⟩) 4 4, .slice A0 n0 c0, .slice A1 n1 c1, .slice A2 n2 c2, .slice none 0 0, .slice none 0 0, .slice none 0 0] rfl)
  clear HS1
  go_wp2_with fail
  clear hc2 hf2
  refine (HMX.out p1 (by omega) s _ (by omega) _ _ (w.heap.size + 1 + 1 + 1) _ (HS.out.seed.cell 0) HS.out.ctr HS.out.ne HS.out.ctr.lt).mono ?_
  rintro e w5 ⟨v3, rfl, hF, hb, hO⟩
  have HS1 := Lib.hid (HS.out.call hF hb hO)
  obtain ⟨A3, n3, c3, rfl⟩ := hO.form
  have hc3 : w5.cell? ⟨w.heap.size + 1 + 1 + 1 + 1, 8, none⟩ = some (.slice none 0 0) := HS1.out.mod.cell 8
  have hf3 := HS1.out.mod.frozen 8
  clear hF hb hO HS
  have HS := Lib.hid (HS1.out.putL 8 (.slice A3 n3 c3) #[.int .i64 1, .int .i64 V, .int .i64 D, .int .i64 V, .slice (some ⟨w.heap.size + 1 + 1 + 1, 0, none⟩) 4 4, .slice A0 n0 c0, .slice A1 n1 c1, .slice A2 n2 c2, .slice A3 n3 c3, .slice none 0 0, .slice none 0 0] rfl)
  clear HS1
  obtain ⟨W6, hW6⟩ : ∃ W6, W6 = (w5.setCell ⟨w.heap.size + 1 + 1 + 1 + 1, 8, none⟩ (.slice A3 n3 c3)) := ⟨_, rfl⟩
  replace HS := Lib.hid (show MkS w W6 _ _ _ _ _ _ _ _ by rw [hW6]; exact HS.out)
  have HZ6 := Lib.hid (show W6.heap.size = w5.heap.size by rw [hW6, World.size_setCell])
  iterate 10 (first | go_values | go_skip | go_guarded | go_step | go_upon | go_back | (simp only at *; go_simp) | (go_values <;> (try go_simp)) | (go_ite <;> go_prune <;> (try go_simp)))
  rw [← hW6]
  clear hW6 hc3 hf3
  have HSb := Lib.hid (HS.out.lit (l := [64, 32, 16, 8, 4, 2, 1]) 7 w5.heap.size #[.int .i64 64, .int .i64 32, .int .i64 16, .int .i64 8, .int .i64 4, .int .i64 2, .int .i64 1] HZ6.out rfl rfl (by omega))
  have h9 : (W6.alloc (.cells #[.int .i64 64, .int .i64 32, .int .i64 16, .int .i64 8, .int .i64 4, .int .i64 2, .int .i64 1] 3)).cell? ⟨w.heap.size + 1 + 1 + 1 + 1, 9, none⟩ = some (.slice none 0 0) := HSb.out.mod.cell 9
  have f9 := HSb.out.mod.frozen 9
  have z6 := HZ6.out
  clear HS
  obtain ⟨W7, hW7⟩ : ∃ W7, W7 = ((W6.alloc (.cells #[.int .i64 64, .int .i64 32, .int .i64 16, .int .i64 8, .int .i64 4, .int .i64 2, .int .i64 1] 3)).setCell ⟨w.heap.size + 1 + 1 + 1 + 1, 9, none⟩ (.slice (some ⟨w5.heap.size, 0, none⟩) 7 7)) := ⟨_, rfl⟩
  have HS := Lib.hid (show MkS w W7 _ _ _ _ _ _ #[.int .i64 1, .int .i64 V, .int .i64 D, .int .i64 V, .slice (some ⟨w.heap.size + 1 + 1 + 1, 0, none⟩) 4 4, .slice A0 n0 c0, .slice A1 n1 c1, .slice A2 n2 c2, .slice A3 n3 c3, .slice (some ⟨w5.heap.size, 0, none⟩) 7 7, .slice none 0 0] _ by rw [hW7]; exact HSb.out.putL 9 (.slice (some ⟨w5.heap.size, 0, none⟩) 7 7) #[.int .i64 1, .int .i64 V, .int .i64 D, .int .i64 V, .slice (some ⟨w.heap.size + 1 + 1 + 1, 0, none⟩) 4 4, .slice A0 n0 c0, .slice A1 n1 c1, .slice A2 n2 c2, .slice A3 n3 c3, .slice (some ⟨w5.heap.size, 0, none⟩) 7 7, .slice none 0 0] rfl)
  have HZ7 := Lib.hid (show W7.heap.size = w5.heap.size + 1 by rw [hW7, World.size_setCell, World.size_alloc, HZ6.out])
  iterate 15 (first | go_values | go_skip | go_guarded | go_step | go_upon | go_back | (simp only at *; go_simp) | (go_values <;> (try go_simp)) | (go_ite <;> go_prune <;> (try go_simp)))
  rw [← hW7]
  clear hW7 h9 f9 z6 HSb HZ6
  have HSb := Lib.hid (HS.out.lit (l := [32, 16, 8, 4, 2, 1]) 6 (w5.heap.size + 1) #[.int .i64 32, .int .i64 16, .int .i64 8, .int .i64 4, .int .i64 2, .int .i64 1] HZ7.out rfl rfl (by omega))
  have h10 : (W7.alloc (.cells #[.int .i64 32, .int .i64 16, .int .i64 8, .int .i64 4, .int .i64 2, .int .i64 1] 3)).cell? ⟨w.heap.size + 1 + 1 + 1 + 1, 10, none⟩ = some (.slice none 0 0) := HSb.out.mod.cell 10
  have f10 := HSb.out.mod.frozen 10
  have z7 := HZ7.out
  clear HS
  obtain ⟨W8, hW8⟩ : ∃ W8, W8 = ((W7.alloc (.cells #[.int .i64 32, .int .i64 16, .int .i64 8, .int .i64 4, .int .i64 2, .int .i64 1] 3)).setCell ⟨w.heap.size + 1 + 1 + 1 + 1, 10, none⟩ (.slice (some ⟨w5.heap.size + 1, 0, none⟩) 6 6)) := ⟨_, rfl⟩
  have HS := Lib.hid (show MkS w W8 _ _ _ _ _ _ #[.int .i64 1, .int .i64 V, .int .i64 D, .int .i64 V, .slice (some ⟨w.heap.size + 1 + 1 + 1, 0, none⟩) 4 4, .slice A0 n0 c0, .slice A1 n1 c1, .slice A2 n2 c2, .slice A3 n3 c3, .slice (some ⟨w5.heap.size, 0, none⟩) 7 7, .slice (some ⟨w5.heap.size + 1, 0, none⟩) 6 6] _ by rw [hW8]; exact HSb.out.putL 10 (.slice (some ⟨w5.heap.size + 1, 0, none⟩) 6 6) #[.int .i64 1, .int .i64 V, .int .i64 D, .int .i64 V, .slice (some ⟨w.heap.size + 1 + 1 + 1, 0, none⟩) 4 4, .slice A0 n0 c0, .slice A1 n1 c1, .slice A2 n2 c2, .slice A3 n3 c3, .slice (some ⟨w5.heap.size, 0, none⟩) 7 7, .slice (some ⟨w5.heap.size + 1, 0, none⟩) 6 6] rfl)
  iterate 15 (first | go_values | go_skip | go_guarded | go_step | go_upon | go_back | (simp only at *; go_simp) | (go_values <;> (try go_simp)) | (go_ite <;> go_prune <;> (try go_simp)))
  rw [← hW8]
  clear hW8 h10 f10 z7 HSb HZ7
  have l0 : W8.cell? ⟨w.heap.size + 1 + 1 + 1 + 1, 0, none⟩ = some (.int .i64 1) := HS.out.mod.cell 0
  have l1 : W8.cell? ⟨w.heap.size + 1 + 1 + 1 + 1, 1, none⟩ = some (.int .i64 V) := HS.out.mod.cell 1
  have l2 : W8.cell? ⟨w.heap.size + 1 + 1 + 1 + 1, 2, none⟩ = some (.int .i64 D) := HS.out.mod.cell 2
  have l3 : W8.cell? ⟨w.heap.size + 1 + 1 + 1 + 1, 3, none⟩ = some (.int .i64 V) := HS.out.mod.cell 3
  have l4 : W8.cell? ⟨w.heap.size + 1 + 1 + 1 + 1, 4, none⟩ = some (.slice (some ⟨w.heap.size + 1 + 1 + 1, 0, none⟩) 4 4) := HS.out.mod.cell 4
  have l5 : W8.cell? ⟨w.heap.size + 1 + 1 + 1 + 1, 5, none⟩ = some (.slice A0 n0 c0) := HS.out.mod.cell 5
  have l6 : W8.cell? ⟨w.heap.size + 1 + 1 + 1 + 1, 6, none⟩ = some (.slice A1 n1 c1) := HS.out.mod.cell 6
  have l7 : W8.cell? ⟨w.heap.size + 1 + 1 + 1 + 1, 7, none⟩ = some (.slice A2 n2 c2) := HS.out.mod.cell 7
  have l8 : W8.cell? ⟨w.heap.size + 1 + 1 + 1 + 1, 8, none⟩ = some (.slice A3 n3 c3) := HS.out.mod.cell 8
  have l9 : W8.cell? ⟨w.heap.size + 1 + 1 + 1 + 1, 9, none⟩ = some (.slice (some ⟨w5.heap.size, 0, none⟩) 7 7) := HS.out.mod.cell 9
  have l10 : W8.cell? ⟨w.heap.size + 1 + 1 + 1 + 1, 10, none⟩ = some (.slice (some ⟨w5.heap.size + 1, 0, none⟩) 6 6) := HS.out.mod.cell 10
  have r0 : W8.cell? ⟨w.heap.size + 1, 0, none⟩ = some (.int .i64 0) := HS.out.res.cell 0
  have r1 : W8.cell? ⟨w.heap.size + 1, 1, none⟩ = some (.int .i64 0) := HS.out.res.cell 1
  have r2 : W8.cell? ⟨w.heap.size + 1, 2, none⟩ = some (.int .i64 0) := HS.out.res.cell 2
  have r3 : W8.cell? ⟨w.heap.size + 1, 3, none⟩ = some (.int .i64 0) := HS.out.res.cell 3
  have r4 : W8.cell? ⟨w.heap.size + 1, 4, none⟩ = some (.slice none 0 0) := HS.out.res.cell 4
  have r5 : W8.cell? ⟨w.heap.size + 1, 5, none⟩ = some (.slice none 0 0) := HS.out.res.cell 5
  have r6 : W8.cell? ⟨w.heap.size + 1, 6, none⟩ = some (.slice none 0 0) := HS.out.res.cell 6
  have r7 : W8.cell? ⟨w.heap.size + 1, 7, none⟩ = some (.slice none 0 0) := HS.out.res.cell 7
  have r8 : W8.cell? ⟨w.heap.size + 1, 8, none⟩ = some (.slice none 0 0) := HS.out.res.cell 8
  have r9 : W8.cell? ⟨w.heap.size + 1, 9, none⟩ = some (.slice none 0 0) := HS.out.res.cell 9
  have r10 : W8.cell? ⟨w.heap.size + 1, 10, none⟩ = some (.slice none 0 0) := HS.out.res.cell 10
  have q0 := HS.out.res.frozen 0
  have q1 := HS.out.res.frozen 1
  have q2 := HS.out.res.frozen 2
  have q3 := HS.out.res.frozen 3
  have q4 := HS.out.res.frozen 4
  have q5 := HS.out.res.frozen 5
  have q6 := HS.out.res.frozen 6
  have q7 := HS.out.res.frozen 7
  have q8 := HS.out.res.frozen 8
  have q9 := HS.out.res.frozen 9
  have q10 := HS.out.res.frozen 10
  go_wp2_with fail
  have HF := Lib.hid (HS.out.fin.all (.int .i64 1) (.int .i64 V) (.int .i64 D) (.int .i64 V) (.slice (some ⟨w.heap.size + 1 + 1 + 1, 0, none⟩) 4 4) (.slice A0 n0 c0) (.slice A1 n1 c1) (.slice A2 n2 c2) (.slice A3 n3 c3) (.slice (some ⟨w5.heap.size, 0, none⟩) 7 7) (.slice (some ⟨w5.heap.size + 1, 0, none⟩) 6 6))
  obtain ⟨W9, hW9⟩ : ∃ W9, W9 = (((((((((((W8.setCell ⟨w.heap.size + 1, 0, none⟩ (.int .i64 1)).setCell ⟨w.heap.size + 1, 1, none⟩ (.int .i64 V)).setCell ⟨w.heap.size + 1, 2, none⟩ (.int .i64 D)).setCell ⟨w.heap.size + 1, 3, none⟩ (.int .i64 V)).setCell ⟨w.heap.size + 1, 4, none⟩ (.slice (some ⟨w.heap.size + 1 + 1 + 1, 0, none⟩) 4 4)).setCell ⟨w.heap.size + 1, 5, none⟩ (.slice A0 n0 c0)).setCell ⟨w.heap.size + 1, 6, none⟩ (.slice A1 n1 c1)).setCell ⟨w.heap.size + 1, 7, none⟩ (.slice A2 n2 c2)).setCell ⟨w.heap.size + 1, 8, none⟩ (.slice A3 n3 c3)).setCell ⟨w.heap.size + 1, 9, none⟩ (.slice (some ⟨w5.heap.size, 0, none⟩) 7 7)).setCell ⟨w.heap.size + 1, 10, none⟩ (.slice (some ⟨w5.heap.size + 1, 0, none⟩) 6 6)) := ⟨_, rfl⟩
  rw [← hW9] at HF ⊢
  clear hW9 HS l0 r0 q0 l1 r1 q1 l2 r2 q2 l3 r3 q3 l4 r4 q4 l5 r5 q5 l6 r6 q6 l7 r7 q7 l8 r8 q8 l9 r9 q9 l10 r10 q10
  have m0 : W9.cell? ⟨w.heap.size + 1, 0, none⟩ = some (.int .i64 1) := HF.out.res.cell 0
  have m1 : W9.cell? ⟨w.heap.size + 1, 1, none⟩ = some (.int .i64 V) := HF.out.res.cell 1
  have m2 : W9.cell? ⟨w.heap.size + 1, 2, none⟩ = some (.int .i64 D) := HF.out.res.cell 2
  have m3 : W9.cell? ⟨w.heap.size + 1, 3, none⟩ = some (.int .i64 V) := HF.out.res.cell 3
  have m4 : W9.cell? ⟨w.heap.size + 1, 4, none⟩ = some (.slice (some ⟨w.heap.size + 1 + 1 + 1, 0, none⟩) 4 4) := HF.out.res.cell 4
  have m5 : W9.cell? ⟨w.heap.size + 1, 5, none⟩ = some (.slice A0 n0 c0) := HF.out.res.cell 5
  have m6 : W9.cell? ⟨w.heap.size + 1, 6, none⟩ = some (.slice A1 n1 c1) := HF.out.res.cell 6
  have m7 : W9.cell? ⟨w.heap.size + 1, 7, none⟩ = some (.slice A2 n2 c2) := HF.out.res.cell 7
  have m8 : W9.cell? ⟨w.heap.size + 1, 8, none⟩ = some (.slice A3 n3 c3) := HF.out.res.cell 8
  have m9 : W9.cell? ⟨w.heap.size + 1, 9, none⟩ = some (.slice (some ⟨w5.heap.size, 0, none⟩) 7 7) := HF.out.res.cell 9
  have m10 : W9.cell? ⟨w.heap.size + 1, 10, none⟩ = some (.slice (some ⟨w5.heap.size + 1, 0, none⟩) 6 6) := HF.out.res.cell 10
  refine bodyPost_ret (v := .tuple #[.agg #[.int .i64 1, .int .i64 V, .int .i64 D, .int .i64 V, .slice (some ⟨w.heap.size + 1 + 1 + 1, 0, none⟩) 4 4, .slice A0 n0 c0, .slice A1 n1 c1, .slice A2 n2 c2, .slice A3 n3 c3, .slice (some ⟨w5.heap.size, 0, none⟩) 7 7, .slice (some ⟨w5.heap.size + 1, 0, none⟩) 6 6], .int .i64 0]) (by rw [res_ct rfl]; go_simp) rfl ⟨_, rfl, HF.out.below, _, _, _, _, _, _, _, rfl, ?_, ?_, ?_, ?_, ?_, ?_, ?_⟩
  all_goals exact HF.out.rints (by simp [madeM])
set_option maxHeartbeats 8000000 in
set_option maxRecDepth 100000 in
theorem make_2 (s V D : Int) (p1 p2 p3 p0 : Nat) (w : World) (hV1 : 2 ≤ V) (hV2 : V ≤ 16) (hD1 : 1 ≤ D) (hD2 : D ≤ 5) (q1 : V * D = (p1 : Int) + 1) (q2 : 4 * D = (p2 : Int) + 1) (q0 : 2 * D = (p0 : Int)) (q3 : (p0 : Int) * D = (p3 : Int) + 1) :
    Calls Tryz.prog 7 #[.int .i64 s, .int .i64 2, .int .i64 V, .int .i64 D] w fun e w' => ∃ v, e = .returned (.tuple #[v, .int .i64 0]) ∧ Below w.heap.size w w' ∧ OwM w.heap.size w' v (madeM s 2 V D p1 p2 p3) := by
  have hp1 : p1 + 1 ≤ 80 := by
    rcases (show D = 1 ∨ D = 2 ∨ D = 3 ∨ D = 4 ∨ D = 5 by omega) with rfl | rfl | rfl | rfl | rfl <;> omega
  have hp2 : p2 + 1 ≤ 20 := by omega
  have hp0 : p0 ≤ 15 := by omega
  have hp3 : p3 + 1 ≤ 75 := by
    rcases (show D = 1 ∨ D = 2 ∨ D = 3 ∨ D = 4 ∨ D = 5 by omega) with rfl | rfl | rfl | rfl | rfl <;> omega
  have r1 : wrap64 (V * D) = (p1 : Int) + 1 := by rw [q1]; unfold wrap64; omega
  have r2 : wrap64 (4 * D) = (p2 : Int) + 1 := by rw [q2]; unfold wrap64; omega
  have r0 : wrap64 (2 * D) = (p0 : Int) := by rw [q0]; unfold wrap64; omega
  have r3 : wrap64 ((p0 : Int) * D) = (p3 : Int) + 1 := by rw [q3]; unfold wrap64; omega
  have hsz : sizedM 2 V D = 0 := by simp [sizedM, inB]; omega
  have HZ : Hid (∀ W, Calls Tryz.prog 39 #[.int .i64 2, .int .i64 V, .int .i64 D] W fun e w' => e = .returned (.int .i64 0) ∧ w' = W) := Lib.hid fun W => by have := sized_any 2 V D W; rw [hsz] at this; exact this
  have HMX := Lib.hid matrix_ow
  clear q1 q3 hsz
  go_enter Tryz.func7, Tryz.ntmps7
  go_wp2_with fail
  go_at_call 39
  refine (HZ.out _).mono ?_
  rintro e w1 ⟨rfl, rfl⟩
  go_wp2_with fail
  obtain ⟨W, hW⟩ : ∃ W, W = (((((w.alloc (.cells #[.int .i64 s] 3)).alloc (.cells #[.int .i64 0, .int .i64 0, .int .i64 0, .int .i64 0, .slice none 0 0, .slice none 0 0, .slice none 0 0, .slice none 0 0, .slice none 0 0, .slice none 0 0, .slice none 0 0] 24)).alloc (.cells #[.int .i64 0] 3)).alloc (.cells #[.int .i64 4, .int .i64 6, .int .i64 8, .int .i64 3] 3)).alloc (.cells #[.int .i64 2, .int .i64 V, .int .i64 D, .int .i64 V, .slice (some ⟨w.heap.size + 1 + 1 + 1, 0, none⟩) 4 4, .slice none 0 0, .slice none 0 0, .slice none 0 0, .slice none 0 0, .slice none 0 0, .slice none 0 0] 24)) := ⟨_, rfl⟩
  have HS : Hid (MkS w W w.heap.size (w.heap.size + 1 + 1) (w.heap.size + 1 + 1 + 1 + 1) (w.heap.size + 1) s 0 #[.int .i64 2, .int .i64 V, .int .i64 D, .int .i64 V, .slice (some ⟨w.heap.size + 1 + 1 + 1, 0, none⟩) 4 4, .slice none 0 0, .slice none 0 0, .slice none 0 0, .slice none 0 0, .slice none 0 0, .slice none 0 0] [(.slice (some ⟨w.heap.size + 1 + 1 + 1, 0, none⟩) 4 4, [4, 6, 8, 3])]) := Lib.hid (by rw [hW]; exact mk_start w s 2 V D)
  rw [← hW]
  clear hW
  refine (HMX.out p1 (by omega) s _ (by omega) _ _ (w.heap.size + 1 + 1 + 1) _ (HS.out.seed.cell 0) HS.out.ctr HS.out.ne HS.out.ctr.lt).mono ?_
  rintro e w2 ⟨v0, rfl, hF, hb, hO⟩
  have HS1 := Lib.hid (HS.out.call hF hb hO)
  obtain ⟨A0, n0, c0, rfl⟩ := hO.form
  have hc0 : w2.cell? ⟨w.heap.size + 1 + 1 + 1 + 1, 5, none⟩ = some (.slice none 0 0) := HS1.out.mod.cell 5
  have hf0 := HS1.out.mod.frozen 5
  clear hF hb hO HS
  have HS := Lib.hid (HS1.out.putL 5 (.slice A0 n0 c0) #[.int .i64 2, .int .i64 V, .int .i64 D, .int .i64 V, .slice (some ⟨w.heap.size + 1 + 1 + 1, 0, none⟩) 4 4, .slice A0 n0 c0, .slice none 0 0, .slice none 0 0, .slice none 0 0, .slice none 0 0, .slice none 0 0] rfl)
  clear HS1
  go_wp2_with fail
  clear hc0 hf0
  refine (HMX.out p2 (by omega) s _ (by omega) _ _ (w.heap.size + 1 + 1 + 1) _ (HS.out.seed.cell 0) HS.out.ctr HS.out.ne HS.out.ctr.lt).mono ?_
  rintro e w3 ⟨v1, rfl, hF, hb, hO⟩
  have HS1 := Lib.hid (HS.out.call hF hb hO)
  obtain ⟨A1, n1, c1, rfl⟩ := hO.form
  have hc1 : w3.cell? ⟨w.heap.size + 1 + 1 + 1 + 1, 6, none⟩ = some (.slice none 0 0) := HS1.out.mod.cell 6
  have hf1 := HS1.out.mod.frozen 6
  clear hF hb hO HS
  have HS := Lib.hid (HS1.out.putL 6 (.slice A1 n1 c1) #[.int .i64 2, .int .i64 V, .int .i64 D, .int .i64 V, .slice (some ⟨w.heap.size + 1 + 1 + 1, 0, none⟩) 4 4, .slice A0 n0 c0, .slice A1 n1 c1, .slice none 0 0, .slice none 0 0, .slice none 0 0, .slice none 0 0] rfl)
  clear HS1
  go_wp2_with fail
  clear hc1 hf1
  refine (HMX.out p3 (by omega) s _ (by omega) _ _ (w.heap.size + 1 + 1 + 1) _ (HS.out.seed.cell 0) HS.out.ctr HS.out.ne HS.out.ctr.lt).mono ?_
  rintro e w4 ⟨v2, rfl, hF, hb, hO⟩
  have HS1 := Lib.hid (HS.out.call hF hb hO)
  obtain ⟨A2, n2, c2, rfl⟩ := hO.form
  have hc2 : w4.cell? ⟨w.heap.size + 1 + 1 + 1 + 1, 7, none⟩ = some (.slice none 0 0) := HS1.out.mod.cell 7
  have hf2 := HS1.out.mod.frozen 7
  clear hF hb hO HS
  have HS := Lib.hid (HS1.out.putL 7 (.slice A2 n2 c2) #[.int .i64 2, .int .i64 V, .int .i64 D, .int .i64 V, .slice (some ⟨w.heap.size + 1 + 1 + 1, 0, none⟩) 4 4, .slice A0 n0 c0, .slice A1 n1 c1, .slice A2 n2 c2, .slice none 0 0, .slice none 0 0, .slice none 0 0] rfl)
  clear HS1
  go_wp2_with fail
  clear hc2 hf2
  refine (HMX.out p1 (by omega) s _ (by omega) _ _ (w.heap.size + 1 + 1 + 1) _ (HS.out.seed.cell 0) HS.out.ctr HS.out.ne HS.out.ctr.lt).mono ?_
  rintro e w5 ⟨v3, rfl, hF, hb, hO⟩
  have HS1 := Lib.hid (HS.out.call hF hb hO)
  obtain ⟨A3, n3, c3, rfl⟩ := hO.form
  have hc3 : w5.cell? ⟨w.heap.size + 1 + 1 + 1 + 1, 8, none⟩ = some (.slice none 0 0) := HS1.out.mod.cell 8
  have hf3 := HS1.out.mod.frozen 8
  clear hF hb hO HS
  have HS := Lib.hid (HS1.out.putL 8 (.slice A3 n3 c3) #[.int .i64 2, .int .i64 V, .int .i64 D, .int .i64 V, .slice (some ⟨w.heap.size + 1 + 1 + 1, 0, none⟩) 4 4, .slice A0 n0 c0, .slice A1 n1 c1, .slice A2 n2 c2, .slice A3 n3 c3, .slice none 0 0, .slice none 0 0] rfl)
  clear HS1
  obtain ⟨W6, hW6⟩ : ∃ W6, W6 = (w5.setCell ⟨w.heap.size + 1 + 1 + 1 + 1, 8, none⟩ (.slice A3 n3 c3)) := ⟨_, rfl⟩
  replace HS := Lib.hid (show MkS w W6 _ _ _ _ _ _ _ _ by rw [hW6]; exact HS.out)
  have HZ6 := Lib.hid (show W6.heap.size = w5.heap.size by rw [hW6, World.size_setCell])
  iterate 10 (first | go_values | go_skip | go_guarded | go_step | go_upon | go_back | (simp only at *; go_simp) | (go_values <;> (try go_simp)) | (go_ite <;> go_prune <;> (try go_simp)))
  rw [← hW6]
  clear hW6 hc3 hf3
  have HSb := Lib.hid (HS.out.lit (l := [64, 32, 16, 8, 4, 2, 1]) 7 w5.heap.size #[.int .i64 64, .int .i64 32, .int .i64 16, .int .i64 8, .int .i64 4, .int .i64 2, .int .i64 1] HZ6.out rfl rfl (by omega))
  have h9 : (W6.alloc (.cells #[.int .i64 64, .int .i64 32, .int .i64 16, .int .i64 8, .int .i64 4, .int .i64 2, .int .i64 1] 3)).cell? ⟨w.heap.size + 1 + 1 + 1 + 1, 9, none⟩ = some (.slice none 0 0) := HSb.out.mod.cell 9
  have f9 := HSb.out.mod.frozen 9
  have z6 := HZ6.out
  clear HS
  obtain ⟨W7, hW7⟩ : ∃ W7, W7 = ((W6.alloc (.cells #[.int .i64 64, .int .i64 32, .int .i64 16, .int .i64 8, .int .i64 4, .int .i64 2, .int .i64 1] 3)).setCell ⟨w.heap.size + 1 + 1 + 1 + 1, 9, none⟩ (.slice (some ⟨w5.heap.size, 0, none⟩) 7 7)) := ⟨_, rfl⟩
  have HS := Lib.hid (show MkS w W7 _ _ _ _ _ _ #[.int .i64 2, .int .i64 V, .int .i64 D, .int .i64 V, .slice (some ⟨w.heap.size + 1 + 1 + 1, 0, none⟩) 4 4, .slice A0 n0 c0, .slice A1 n1 c1, .slice A2 n2 c2, .slice A3 n3 c3, .slice (some ⟨w5.heap.size, 0, none⟩) 7 7, .slice none 0 0] _ by rw [hW7]; exact HSb.out.putL 9 (.slice (some ⟨w5.heap.size, 0, none⟩) 7 7) #[.int .i64 2, .int .i64 V, .int .i64 D, .int .i64 V, .slice (some ⟨w.heap.size + 1 + 1 + 1, 0, none⟩) 4 4, .slice A0 n0 c0, .slice A1 n1 c1, .slice A2 n2 c2, .slice A3 n3 c3, .slice (some ⟨w5.heap.size, 0, none⟩) 7 7, .slice none 0 0] rfl)
  have HZ7 := Lib.hid (show W7.heap.size = w5.heap.size + 1 by rw [hW7, World.size_setCell, World.size_alloc, HZ6.out])
  iterate 15 (first | go_values | go_skip | go_guarded | go_step | go_upon | go_back | (simp only at *; go_simp) | (go_values <;> (try go_simp)) | (go_ite <;> go_prune <;> (try go_simp)))
  rw [← hW7]
  clear hW7 h9 f9 z6 HSb HZ6
  have HSb := Lib.hid (HS.out.lit (l := [32, 16, 8, 4, 2, 1]) 6 (w5.heap.size + 1) #[.int .i64 32, .int .i64 16, .int .i64 8, .int .i64 4, .int .i64 2, .int .i64 1] HZ7.out rfl rfl (by omega))
  have h10 : (W7.alloc (.cells #[.int .i64 32, .int .i64 16, .int .i64 8, .int .i64 4, .int .i64 2, .int .i64 1] 3)).cell? ⟨w.heap.size + 1 + 1 + 1 + 1, 10, none⟩ = some (.slice none 0 0) := HSb.out.mod.cell 10
  have f10 := HSb.out.mod.frozen 10
  have z7 := HZ7.out
  clear HS
  obtain ⟨W8, hW8⟩ : ∃ W8, W8 = ((W7.alloc (.cells #[.int .i64 32, .int .i64 16, .int .i64 8, .int .i64 4, .int .i64 2, .int .i64 1] 3)).setCell ⟨w.heap.size + 1 + 1 + 1 + 1, 10, none⟩ (.slice (some ⟨w5.heap.size + 1, 0, none⟩) 6 6)) := ⟨_, rfl⟩
  have HS := Lib.hid (show MkS w W8 _ _ _ _ _ _ #[.int .i64 2, .int .i64 V, .int .i64 D, .int .i64 V, .slice (some ⟨w.heap.size + 1 + 1 + 1, 0, none⟩) 4 4, .slice A0 n0 c0, .slice A1 n1 c1, .slice A2 n2 c2, .slice A3 n3 c3, .slice (some ⟨w5.heap.size, 0, none⟩) 7 7, .slice (some ⟨w5.heap.size + 1, 0, none⟩) 6 6] _ by rw [hW8]; exact HSb.out.putL 10 (.slice (some ⟨w5.heap.size + 1, 0, none⟩) 6 6) #[.int .i64 2, .int .i64 V, .int .i64 D, .int .i64 V, .slice (some ⟨w.heap.size + 1 + 1 + 1, 0, none⟩) 4 4, .slice A0 n0 c0, .slice A1 n1 c1, .slice A2 n2 c2, .slice A3 n3 c3, .slice (some ⟨w5.heap.size, 0, none⟩) 7 7, .slice (some ⟨w5.heap.size + 1, 0, none⟩) 6 6] rfl)
  iterate 15 (first | go_values | go_skip | go_guarded | go_step | go_upon | go_back | (simp only at *; go_simp) | (go_values <;> (try go_simp)) | (go_ite <;> go_prune <;> (try go_simp)))
  rw [← hW8]
  clear hW8 h10 f10 z7 HSb HZ7
  have l0 : W8.cell? ⟨w.heap.size + 1 + 1 + 1 + 1, 0, none⟩ = some (.int .i64 2) := HS.out.mod.cell 0
  have l1 : W8.cell? ⟨w.heap.size + 1 + 1 + 1 + 1, 1, none⟩ = some (.int .i64 V) := HS.out.mod.cell 1
  have l2 : W8.cell? ⟨w.heap.size + 1 + 1 + 1 + 1, 2, none⟩ = some (.int .i64 D) := HS.out.mod.cell 2
  have l3 : W8.cell? ⟨w.heap.size + 1 + 1 + 1 + 1, 3, none⟩ = some (.int .i64 V) := HS.out.mod.cell 3
  have l4 : W8.cell? ⟨w.heap.size + 1 + 1 + 1 + 1, 4, none⟩ = some (.slice (some ⟨w.heap.size + 1 + 1 + 1, 0, none⟩) 4 4) := HS.out.mod.cell 4
  have l5 : W8.cell? ⟨w.heap.size + 1 + 1 + 1 + 1, 5, none⟩ = some (.slice A0 n0 c0) := HS.out.mod.cell 5
  have l6 : W8.cell? ⟨w.heap.size + 1 + 1 + 1 + 1, 6, none⟩ = some (.slice A1 n1 c1) := HS.out.mod.cell 6
  have l7 : W8.cell? ⟨w.heap.size + 1 + 1 + 1 + 1, 7, none⟩ = some (.slice A2 n2 c2) := HS.out.mod.cell 7
  have l8 : W8.cell? ⟨w.heap.size + 1 + 1 + 1 + 1, 8, none⟩ = some (.slice A3 n3 c3) := HS.out.mod.cell 8
  have l9 : W8.cell? ⟨w.heap.size + 1 + 1 + 1 + 1, 9, none⟩ = some (.slice (some ⟨w5.heap.size, 0, none⟩) 7 7) := HS.out.mod.cell 9
  have l10 : W8.cell? ⟨w.heap.size + 1 + 1 + 1 + 1, 10, none⟩ = some (.slice (some ⟨w5.heap.size + 1, 0, none⟩) 6 6) := HS.out.mod.cell 10
  have r0 : W8.cell? ⟨w.heap.size + 1, 0, none⟩ = some (.int .i64 0) := HS.out.res.cell 0
  have r1 : W8.cell? ⟨w.heap.size + 1, 1, none⟩ = some (.int .i64 0) := HS.out.res.cell 1
  have r2 : W8.cell? ⟨w.heap.size + 1, 2, none⟩ = some (.int .i64 0) := HS.out.res.cell 2
  have r3 : W8.cell? ⟨w.heap.size + 1, 3, none⟩ = some (.int .i64 0) := HS.out.res.cell 3
  have r4 : W8.cell? ⟨w.heap.size + 1, 4, none⟩ = some (.slice none 0 0) := HS.out.res.cell 4
  have r5 : W8.cell? ⟨w.heap.size + 1, 5, none⟩ = some (.slice none 0 0) := HS.out.res.cell 5
  have r6 : W8.cell? ⟨w.heap.size + 1, 6, none⟩ = some (.slice none 0 0) := HS.out.res.cell 6
  have r7 : W8.cell? ⟨w.heap.size + 1, 7, none⟩ = some (.slice none 0 0) := HS.out.res.cell 7
  have r8 : W8.cell? ⟨w.heap.size + 1, 8, none⟩ = some (.slice none 0 0) := HS.out.res.cell 8
  have r9 : W8.cell? ⟨w.heap.size + 1, 9, none⟩ = some (.slice none 0 0) := HS.out.res.cell 9
  have r10 : W8.cell? ⟨w.heap.size + 1, 10, none⟩ = some (.slice none 0 0) := HS.out.res.cell 10
  have q0 := HS.out.res.frozen 0
  have q1 := HS.out.res.frozen 1
  have q2 := HS.out.res.frozen 2
  have q3 := HS.out.res.frozen 3
  have q4 := HS.out.res.frozen 4
  have q5 := HS.out.res.frozen 5
  have q6 := HS.out.res.frozen 6
  have q7 := HS.out.res.frozen 7
  have q8 := HS.out.res.frozen 8
  have q9 := HS.out.res.frozen 9
  have q10 := HS.out.res.frozen 10
  go_wp2_with fail
  have HF := Lib.hid (HS.out.fin.all (.int .i64 2) (.int .i64 V) (.int .i64 D) (.int .i64 V) (.slice (some ⟨w.heap.size + 1 + 1 + 1, 0, none⟩) 4 4) (.slice A0 n0 c0) (.slice A1 n1 c1) (.slice A2 n2 c2) (.slice A3 n3 c3) (.slice (some ⟨w5.heap.size, 0, none⟩) 7 7) (.slice (some ⟨w5.heap.size + 1, 0, none⟩) 6 6))
  obtain ⟨W9, hW9⟩ : ∃ W9, W9 = (((((((((((W8.setCell ⟨w.heap.size + 1, 0, none⟩ (.int .i64 2)).setCell ⟨w.heap.size + 1, 1, none⟩ (.int .i64 V)).setCell ⟨w.heap.size + 1, 2, none⟩ (.int .i64 D)).setCell ⟨w.heap.size + 1, 3, none⟩ (.int .i64 V)).setCell ⟨w.heap.size + 1, 4, none⟩ (.slice (some ⟨w.heap.size + 1 + 1 + 1, 0, none⟩) 4 4)).setCell ⟨w.heap.size + 1, 5, none⟩ (.slice A0 n0 c0)).setCell ⟨w.heap.size + 1, 6, none⟩ (.slice A1 n1 c1)).setCell ⟨w.heap.size + 1, 7, none⟩ (.slice A2 n2 c2)).setCell ⟨w.heap.size + 1, 8, none⟩ (.slice A3 n3 c3)).setCell ⟨w.heap.size + 1, 9, none⟩ (.slice (some ⟨w5.heap.size, 0, none⟩) 7 7)).setCell ⟨w.heap.size + 1, 10, none⟩ (.slice (some ⟨w5.heap.size + 1, 0, none⟩) 6 6)) := ⟨_, rfl⟩
  rw [← hW9] at HF ⊢
  clear hW9 HS l0 r0 q0 l1 r1 q1 l2 r2 q2 l3 r3 q3 l4 r4 q4 l5 r5 q5 l6 r6 q6 l7 r7 q7 l8 r8 q8 l9 r9 q9 l10 r10 q10
  have m0 : W9.cell? ⟨w.heap.size + 1, 0, none⟩ = some (.int .i64 2) := HF.out.res.cell 0
  have m1 : W9.cell? ⟨w.heap.size + 1, 1, none⟩ = some (.int .i64 V) := HF.out.res.cell 1
  have m2 : W9.cell? ⟨w.heap.size + 1, 2, none⟩ = some (.int .i64 D) := HF.out.res.cell 2
  have m3 : W9.cell? ⟨w.heap.size + 1, 3, none⟩ = some (.int .i64 V) := HF.out.res.cell 3
  have m4 : W9.cell? ⟨w.heap.size + 1, 4, none⟩ = some (.slice (some ⟨w.heap.size + 1 + 1 + 1, 0, none⟩) 4 4) := HF.out.res.cell 4
  have m5 : W9.cell? ⟨w.heap.size + 1, 5, none⟩ = some (.slice A0 n0 c0) := HF.out.res.cell 5
  have m6 : W9.cell? ⟨w.heap.size + 1, 6, none⟩ = some (.slice A1 n1 c1) := HF.out.res.cell 6
  have m7 : W9.cell? ⟨w.heap.size + 1, 7, none⟩ = some (.slice A2 n2 c2) := HF.out.res.cell 7
  have m8 : W9.cell? ⟨w.heap.size + 1, 8, none⟩ = some (.slice A3 n3 c3) := HF.out.res.cell 8
  have m9 : W9.cell? ⟨w.heap.size + 1, 9, none⟩ = some (.slice (some ⟨w5.heap.size, 0, none⟩) 7 7) := HF.out.res.cell 9
  have m10 : W9.cell? ⟨w.heap.size + 1, 10, none⟩ = some (.slice (some ⟨w5.heap.size + 1, 0, none⟩) 6 6) := HF.out.res.cell 10
  refine bodyPost_ret (v := .tuple #[.agg #[.int .i64 2, .int .i64 V, .int .i64 D, .int .i64 V, .slice (some ⟨w.heap.size + 1 + 1 + 1, 0, none⟩) 4 4, .slice A0 n0 c0, .slice A1 n1 c1, .slice A2 n2 c2, .slice A3 n3 c3, .slice (some ⟨w5.heap.size, 0, none⟩) 7 7, .slice (some ⟨w5.heap.size + 1, 0, none⟩) 6 6], .int .i64 0]) (by rw [res_ct rfl]; go_simp) rfl ⟨_, rfl, HF.out.below, _, _, _, _, _, _, _, rfl, ?_, ?_, ?_, ?_, ?_, ?_, ?_⟩
  all_goals exact HF.out.rints (by simp [madeM])
set_option maxHeartbeats 8000000 in
set_option maxRecDepth 100000 in
theorem make_3 (s V D : Int) (p1 p2 p3 p0 : Nat) (w : World) (hV1 : 2 ≤ V) (hV2 : V ≤ 16) (hD1 : 1 ≤ D) (hD2 : D ≤ 5) (q1 : V * D = (p1 : Int) + 1) (q2 : 4 * D = (p2 : Int) + 1) (q0 : 2 * D = (p0 : Int)) (q3 : (p0 : Int) * D = (p3 : Int) + 1) :
    Calls Tryz.prog 7 #[.int .i64 s, .int .i64 3, .int .i64 V, .int .i64 D] w fun e w' => ∃ v, e = .returned (.tuple #[v, .int .i64 0]) ∧ Below w.heap.size w w' ∧ OwM w.heap.size w' v (madeM s 3 V D p1 p2 p3) := by
  have hp1 : p1 + 1 ≤ 80 := by
    rcases (show D = 1 ∨ D = 2 ∨ D = 3 ∨ D = 4 ∨ D = 5 by omega) with rfl | rfl | rfl | rfl | rfl <;> omega
  have hp2 : p2 + 1 ≤ 20 := by omega
  have hp0 : p0 ≤ 15 := by omega
  have hp3 : p3 + 1 ≤ 75 := by
    rcases (show D = 1 ∨ D = 2 ∨ D = 3 ∨ D = 4 ∨ D = 5 by omega) with rfl | rfl | rfl | rfl | rfl <;> omega
  have r1 : wrap64 (V * D) = (p1 : Int) + 1 := by rw [q1]; unfold wrap64; omega
  have r2 : wrap64 (4 * D) = (p2 : Int) + 1 := by rw [q2]; unfold wrap64; omega
  have r0 : wrap64 (2 * D) = (p0 : Int) := by rw [q0]; unfold wrap64; omega
  have r3 : wrap64 ((p0 : Int) * D) = (p3 : Int) + 1 := by rw [q3]; unfold wrap64; omega
  have hsz : sizedM 3 V D = 0 := by simp [sizedM, inB]; omega
  have HZ : Hid (∀ W, Calls Tryz.prog 39 #[.int .i64 3, .int .i64 V, .int .i64 D] W fun e w' => e = .returned (.int .i64 0) ∧ w' = W) := Lib.hid fun W => by have := sized_any 3 V D W; rw [hsz] at this; exact this
  have HMX := Lib.hid matrix_ow
  clear q1 q3 hsz
  go_enter Tryz.func7, Tryz.ntmps7
  go_wp2_with fail
  go_at_call 39
  refine (HZ.out _).mono ?_
  rintro e w1 ⟨rfl, rfl⟩
  go_wp2_with fail
  obtain ⟨W, hW⟩ : ∃ W, W = (((((w.alloc (.cells #[.int .i64 s] 3)).alloc (.cells #[.int .i64 0, .int .i64 0, .int .i64 0, .int .i64 0, .slice none 0 0, .slice none 0 0, .slice none 0 0, .slice none 0 0, .slice none 0 0, .slice none 0 0, .slice none 0 0] 24)).alloc (.cells #[.int .i64 0] 3)).alloc (.cells #[.int .i64 4, .int .i64 6, .int .i64 8, .int .i64 3] 3)).alloc (.cells #[.int .i64 3, .int .i64 V, .int .i64 D, .int .i64 V, .slice (some ⟨w.heap.size + 1 + 1 + 1, 0, none⟩) 4 4, .slice none 0 0, .slice none 0 0, .slice none 0 0, .slice none 0 0, .slice none 0 0, .slice none 0 0] 24)) := ⟨_, rfl⟩
  have HS : Hid (MkS w W w.heap.size (w.heap.size + 1 + 1) (w.heap.size + 1 + 1 + 1 + 1) (w.heap.size + 1) s 0 #[.int .i64 3, .int .i64 V, .int .i64 D, .int .i64 V, .slice (some ⟨w.heap.size + 1 + 1 + 1, 0, none⟩) 4 4, .slice none 0 0, .slice none 0 0, .slice none 0 0, .slice none 0 0, .slice none 0 0, .slice none 0 0] [(.slice (some ⟨w.heap.size + 1 + 1 + 1, 0, none⟩) 4 4, [4, 6, 8, 3])]) := Lib.hid (by rw [hW]; exact mk_start w s 3 V D)
  rw [← hW]
  clear hW
  refine (HMX.out p1 (by omega) s _ (by omega) _ _ (w.heap.size + 1 + 1 + 1) _ (HS.out.seed.cell 0) HS.out.ctr HS.out.ne HS.out.ctr.lt).mono ?_
  rintro e w2 ⟨v0, rfl, hF, hb, hO⟩
  have HS1 := Lib.hid (HS.out.call hF hb hO)
  obtain ⟨A0, n0, c0, rfl⟩ := hO.form
  have hc0 : w2.cell? ⟨w.heap.size + 1 + 1 + 1 + 1, 5, none⟩ = some (.slice none 0 0) := HS1.out.mod.cell 5
  have hf0 := HS1.out.mod.frozen 5
  clear hF hb hO HS
  have HS := Lib.hid (HS1.out.putL 5 (.slice A0 n0 c0) #[.int .i64 3, .int .i64 V, .int .i64 D, .int .i64 V, .slice (some ⟨w.heap.size + 1 + 1 + 1, 0, none⟩) 4 4, .slice A0 n0 c0, .slice none 0 0, .slice none 0 0, .slice none 0 0, .slice none 0 0, .slice none 0 0] rfl)
  clear HS1
  go_wp2_with fail
  clear hc0 hf0
  refine (HMX.out p2 (by omega) s _ (by omega) _ _ (w.heap.size + 1 + 1 + 1) _ (HS.out.seed.cell 0) HS.out.ctr HS.out.ne HS.out.ctr.lt).mono ?_
  rintro e w3 ⟨v1, rfl, hF, hb, hO⟩
  have HS1 := Lib.hid (HS.out.call hF hb hO)
  obtain ⟨A1, n1, c1, rfl⟩ := hO.form
  have hc1 : w3.cell? ⟨w.heap.size + 1 + 1 + 1 + 1, 6, none⟩ = some (.slice none 0 0) := HS1.out.mod.cell 6
  have hf1 := HS1.out.mod.frozen 6
  clear hF hb hO HS
  have HS := Lib.hid (HS1.out.putL 6 (.slice A1 n1 c1) #[.int .i64 3, .int .i64 V, .int .i64 D, .int .i64 V, .slice (some ⟨w.heap.size + 1 + 1 + 1, 0, none⟩) 4 4, .slice A0 n0 c0, .slice A1 n1 c1, .slice none 0 0, .slice none 0 0, .slice none 0 0, .slice none 0 0] rfl)
  clear HS1
  go_wp2_with fail
  clear hc1 hf1
  refine (HMX.out p3 (by omega) s _ (by omega) _ _ (w.heap.size + 1 + 1 + 1) _ (HS.out.seed.cell 0) HS.out.ctr HS.out.ne HS.out.ctr.lt).mono ?_
  rintro e w4 ⟨v2, rfl, hF, hb, hO⟩
  have HS1 := Lib.hid (HS.out.call hF hb hO)
  obtain ⟨A2, n2, c2, rfl⟩ := hO.form
  have hc2 : w4.cell? ⟨w.heap.size + 1 + 1 + 1 + 1, 7, none⟩ = some (.slice none 0 0) := HS1.out.mod.cell 7
  have hf2 := HS1.out.mod.frozen 7
  clear hF hb hO HS
  have HS := Lib.hid (HS1.out.putL 7 (.slice A2 n2 c2) #[.int .i64 3, .int .i64 V, .int .i64 D, .int .i64 V, .slice (some ⟨w.heap.size + 1 + 1 + 1, 0, none⟩) 4 4, .slice A0 n0 c0, .slice A1 n1 c1, .slice A2 n2 c2, .slice none 0 0, .slice none 0 0, .slice none 0 0] rfl)
  clear HS1
  go_wp2_with fail
  clear hc2 hf2
  refine (HMX.out p1 (by omega) s _ (by omega) _ _ (w.heap.size + 1 + 1 + 1) _ (HS.out.seed.cell 0) HS.out.ctr HS.out.ne HS.out.ctr.lt).mono ?_
  rintro e w5 ⟨v3, rfl, hF, hb, hO⟩
  have HS1 := Lib.hid (HS.out.call hF hb hO)
  obtain ⟨A3, n3, c3, rfl⟩ := hO.form
  have hc3 : w5.cell? ⟨w.heap.size + 1 + 1 + 1 + 1, 8, none⟩ = some (.slice none 0 0) := HS1.out.mod.cell 8
  have hf3 := HS1.out.mod.frozen 8
  clear hF hb hO HS
  have HS := Lib.hid (HS1.out.putL 8 (.slice A3 n3 c3) #[.int .i64 3, .int .i64 V, .int .i64 D, .int .i64 V, .slice (some ⟨w.heap.size + 1 + 1 + 1, 0, none⟩) 4 4, .slice A0 n0 c0, .slice A1 n1 c1, .slice A2 n2 c2, .slice A3 n3 c3, .slice none 0 0, .slice none 0 0] rfl)
  clear HS1
  obtain ⟨W6, hW6⟩ : ∃ W6, W6 = (w5.setCell ⟨w.heap.size + 1 + 1 + 1 + 1, 8, none⟩ (.slice A3 n3 c3)) := ⟨_, rfl⟩
  replace HS := Lib.hid (show MkS w W6 _ _ _ _ _ _ _ _ by rw [hW6]; exact HS.out)
  have HZ6 := Lib.hid (show W6.heap.size = w5.heap.size by rw [hW6, World.size_setCell])
  iterate 10 (first | go_values | go_skip | go_guarded | go_step | go_upon | go_back | (simp only at *; go_simp) | (go_values <;> (try go_simp)) | (go_ite <;> go_prune <;> (try go_simp)))
  rw [← hW6]
  clear hW6 hc3 hf3
  have HSb := Lib.hid (HS.out.lit (l := [64, 32, 16, 8, 4, 2, 1]) 7 w5.heap.size #[.int .i64 64, .int .i64 32, .int .i64 16, .int .i64 8, .int .i64 4, .int .i64 2, .int .i64 1] HZ6.out rfl rfl (by omega))
  have h9 : (W6.alloc (.cells #[.int .i64 64, .int .i64 32, .int .i64 16, .int .i64 8, .int .i64 4, .int .i64 2, .int .i64 1] 3)).cell? ⟨w.heap.size + 1 + 1 + 1 + 1, 9, none⟩ = some (.slice none 0 0) := HSb.out.mod.cell 9
  have f9 := HSb.out.mod.frozen 9
  have z6 := HZ6.out
  clear HS
  obtain ⟨W7, hW7⟩ : ∃ W7, W7 = ((W6.alloc (.cells #[.int .i64 64, .int .i64 32, .int .i64 16, .int .i64 8, .int .i64 4, .int .i64 2, .int .i64 1] 3)).setCell ⟨w.heap.size + 1 + 1 + 1 + 1, 9, none⟩ (.slice (some ⟨w5.heap.size, 0, none⟩) 7 7)) := ⟨_, rfl⟩
  have HS := Lib.hid (show MkS w W7 _ _ _ _ _ _ #[.int .i64 3, .int .i64 V, .int .i64 D, .int .i64 V, .slice (some ⟨w.heap.size + 1 + 1 + 1, 0, none⟩) 4 4, .slice A0 n0 c0, .slice A1 n1 c1, .slice A2 n2 c2, .slice A3 n3 c3, .slice (some ⟨w5.heap.size, 0, none⟩) 7 7, .slice none 0 0] _ by rw [hW7]; exact HSb.out.putL 9 (.slice (some ⟨w5.heap.size, 0, none⟩) 7 7) #[.int .i64 3, .int .i64 V, .int .i64 D, .int .i64 V, .slice (some ⟨w.heap.size + 1 + 1 + 1, 0, none⟩) 4 4, .slice A0 n0 c0, .slice A1 n1 c1, .slice A2 n2 c2, .slice A3 n3 c3, .slice (some ⟨w5.heap.size, 0, none⟩) 7 7, .slice none 0 0] rfl)
  have HZ7 := Lib.hid (show W7.heap.size = w5.heap.size + 1 by rw [hW7, World.size_setCell, World.size_alloc, HZ6.out])
  iterate 15 (first | go_values | go_skip | go_guarded | go_step | go_upon | go_back | (simp only at *; go_simp) | (go_values <;> (try go_simp)) | (go_ite <;> go_prune <;> (try go_simp)))
  rw [← hW7]
  clear hW7 h9 f9 z6 HSb HZ6
  have HSb := Lib.hid (HS.out.lit (l := [32, 16, 8, 4, 2, 1]) 6 (w5.heap.size + 1) #[.int .i64 32, .int .i64 16, .int .i64 8, .int .i64 4, .int .i64 2, .int .i64 1] HZ7.out rfl rfl (by omega))
  have h10 : (W7.alloc (.cells #[.int .i64 32, .int .i64 16, .int .i64 8, .int .i64 4, .int .i64 2, .int .i64 1] 3)).cell? ⟨w.heap.size + 1 + 1 + 1 + 1, 10, none⟩ = some (.slice none 0 0) := HSb.out.mod.cell 10
  have f10 := HSb.out.mod.frozen 10
  have z7 := HZ7.out
  clear HS
  obtain ⟨W8, hW8⟩ : ∃ W8, W8 = ((W7.alloc (.cells #[.int .i64 32, .int .i64 16, .int .i64 8, .int .i64 4, .int .i64 2, .int .i64 1] 3)).setCell ⟨w.heap.size + 1 + 1 + 1 + 1, 10, none⟩ (.slice (some ⟨w5.heap.size + 1, 0, none⟩) 6 6)) := ⟨_, rfl⟩
  have HS := Lib.hid (show MkS w W8 _ _ _ _ _ _ #[.int .i64 3, .int .i64 V, .int .i64 D, .int .i64 V, .slice (some ⟨w.heap.size + 1 + 1 + 1, 0, none⟩) 4 4, .slice A0 n0 c0, .slice A1 n1 c1, .slice A2 n2 c2, .slice A3 n3 c3, .slice (some ⟨w5.heap.size, 0, none⟩) 7 7, .slice (some ⟨w5.heap.size + 1, 0, none⟩) 6 6] _ by rw [hW8]; exact HSb.out.putL 10 (.slice (some ⟨w5.heap.size + 1, 0, none⟩) 6 6) #[.int .i64 3, .int .i64 V, .int .i64 D, .int .i64 V, .slice (some ⟨w.heap.size + 1 + 1 + 1, 0, none⟩) 4 4, .slice A0 n0 c0, .slice A1 n1 c1, .slice A2 n2 c2, .slice A3 n3 c3, .slice (some ⟨w5.heap.size, 0, none⟩) 7 7, .slice (some ⟨w5.heap.size + 1, 0, none⟩) 6 6] rfl)
  iterate 15 (first | go_values | go_skip | go_guarded | go_step | go_upon | go_back | (simp only at *; go_simp) | (go_values <;> (try go_simp)) | (go_ite <;> go_prune <;> (try go_simp)))
  rw [← hW8]
  clear hW8 h10 f10 z7 HSb HZ7
  have l0 : W8.cell? ⟨w.heap.size + 1 + 1 + 1 + 1, 0, none⟩ = some (.int .i64 3) := HS.out.mod.cell 0
  have l1 : W8.cell? ⟨w.heap.size + 1 + 1 + 1 + 1, 1, none⟩ = some (.int .i64 V) := HS.out.mod.cell 1
  have l2 : W8.cell? ⟨w.heap.size + 1 + 1 + 1 + 1, 2, none⟩ = some (.int .i64 D) := HS.out.mod.cell 2
  have l3 : W8.cell? ⟨w.heap.size + 1 + 1 + 1 + 1, 3, none⟩ = some (.int .i64 V) := HS.out.mod.cell 3
  have l4 : W8.cell? ⟨w.heap.size + 1 + 1 + 1 + 1, 4, none⟩ = some (.slice (some ⟨w.heap.size + 1 + 1 + 1, 0, none⟩) 4 4) := HS.out.mod.cell 4
  have l5 : W8.cell? ⟨w.heap.size + 1 + 1 + 1 + 1, 5, none⟩ = some (.slice A0 n0 c0) := HS.out.mod.cell 5
  have l6 : W8.cell? ⟨w.heap.size + 1 + 1 + 1 + 1, 6, none⟩ = some (.slice A1 n1 c1) := HS.out.mod.cell 6
  have l7 : W8.cell? ⟨w.heap.size + 1 + 1 + 1 + 1, 7, none⟩ = some (.slice A2 n2 c2) := HS.out.mod.cell 7
  have l8 : W8.cell? ⟨w.heap.size + 1 + 1 + 1 + 1, 8, none⟩ = some (.slice A3 n3 c3) := HS.out.mod.cell 8
  have l9 : W8.cell? ⟨w.heap.size + 1 + 1 + 1 + 1, 9, none⟩ = some (.slice (some ⟨w5.heap.size, 0, none⟩) 7 7) := HS.out.mod.cell 9
  have l10 : W8.cell? ⟨w.heap.size + 1 + 1 + 1 + 1, 10, none⟩ = some (.slice (some ⟨w5.heap.size + 1, 0, none⟩) 6 6) := HS.out.mod.cell 10
  have r0 : W8.cell? ⟨w.heap.size + 1, 0, none⟩ = some (.int .i64 0) := HS.out.res.cell 0
  have r1 : W8.cell? ⟨w.heap.size + 1, 1, none⟩ = some (.int .i64 0) := HS.out.res.cell 1
  have r2 : W8.cell? ⟨w.heap.size + 1, 2, none⟩ = some (.int .i64 0) := HS.out.res.cell 2
  have r3 : W8.cell? ⟨w.heap.size + 1, 3, none⟩ = some (.int .i64 0) := HS.out.res.cell 3
  have r4 : W8.cell? ⟨w.heap.size + 1, 4, none⟩ = some (.slice none 0 0) := HS.out.res.cell 4
  have r5 : W8.cell? ⟨w.heap.size + 1, 5, none⟩ = some (.slice none 0 0) := HS.out.res.cell 5
  have r6 : W8.cell? ⟨w.heap.size + 1, 6, none⟩ = some (.slice none 0 0) := HS.out.res.cell 6
  have r7 : W8.cell? ⟨w.heap.size + 1, 7, none⟩ = some (.slice none 0 0) := HS.out.res.cell 7
  have r8 : W8.cell? ⟨w.heap.size + 1, 8, none⟩ = some (.slice none 0 0) := HS.out.res.cell 8
  have r9 : W8.cell? ⟨w.heap.size + 1, 9, none⟩ = some (.slice none 0 0) := HS.out.res.cell 9
  have r10 : W8.cell? ⟨w.heap.size + 1, 10, none⟩ = some (.slice none 0 0) := HS.out.res.cell 10
  have q0 := HS.out.res.frozen 0
  have q1 := HS.out.res.frozen 1
  have q2 := HS.out.res.frozen 2
  have q3 := HS.out.res.frozen 3
  have q4 := HS.out.res.frozen 4
  have q5 := HS.out.res.frozen 5
  have q6 := HS.out.res.frozen 6
  have q7 := HS.out.res.frozen 7
  have q8 := HS.out.res.frozen 8
  have q9 := HS.out.res.frozen 9
  have q10 := HS.out.res.frozen 10
  go_wp2_with fail
  have HF := Lib.hid (HS.out.fin.all (.int .i64 3) (.int .i64 V) (.int .i64 D) (.int .i64 V) (.slice (some ⟨w.heap.size + 1 + 1 + 1, 0, none⟩) 4 4) (.slice A0 n0 c0) (.slice A1 n1 c1) (.slice A2 n2 c2) (.slice A3 n3 c3) (.slice (some ⟨w5.heap.size, 0, none⟩) 7 7) (.slice (some ⟨w5.heap.size + 1, 0, none⟩) 6 6))
  obtain ⟨W9, hW9⟩ : ∃ W9, W9 = (((((((((((W8.setCell ⟨w.heap.size + 1, 0, none⟩ (.int .i64 3)).setCell ⟨w.heap.size + 1, 1, none⟩ (.int .i64 V)).setCell ⟨w.heap.size + 1, 2, none⟩ (.int .i64 D)).setCell ⟨w.heap.size + 1, 3, none⟩ (.int .i64 V)).setCell ⟨w.heap.size + 1, 4, none⟩ (.slice (some ⟨w.heap.size + 1 + 1 + 1, 0, none⟩) 4 4)).setCell ⟨w.heap.size + 1, 5, none⟩ (.slice A0 n0 c0)).setCell ⟨w.heap.size + 1, 6, none⟩ (.slice A1 n1 c1)).setCell ⟨w.heap.size + 1, 7, none⟩ (.slice A2 n2 c2)).setCell ⟨w.heap.size + 1, 8, none⟩ (.slice A3 n3 c3)).setCell ⟨w.heap.size + 1, 9, none⟩ (.slice (some ⟨w5.heap.size, 0, none⟩) 7 7)).setCell ⟨w.heap.size + 1, 10, none⟩ (.slice (some ⟨w5.heap.size + 1, 0, none⟩) 6 6)) := ⟨_, rfl⟩
  rw [← hW9] at HF ⊢
  clear hW9 HS l0 r0 q0 l1 r1 q1 l2 r2 q2 l3 r3 q3 l4 r4 q4 l5 r5 q5 l6 r6 q6 l7 r7 q7 l8 r8 q8 l9 r9 q9 l10 r10 q10
  have m0 : W9.cell? ⟨w.heap.size + 1, 0, none⟩ = some (.int .i64 3) := HF.out.res.cell 0
  have m1 : W9.cell? ⟨w.heap.size + 1, 1, none⟩ = some (.int .i64 V) := HF.out.res.cell 1
  have m2 : W9.cell? ⟨w.heap.size + 1, 2, none⟩ = some (.int .i64 D) := HF.out.res.cell 2
  have m3 : W9.cell? ⟨w.heap.size + 1, 3, none⟩ = some (.int .i64 V) := HF.out.res.cell 3
  have m4 : W9.cell? ⟨w.heap.size + 1, 4, none⟩ = some (.slice (some ⟨w.heap.size + 1 + 1 + 1, 0, none⟩) 4 4) := HF.out.res.cell 4
  have m5 : W9.cell? ⟨w.heap.size + 1, 5, none⟩ = some (.slice A0 n0 c0) := HF.out.res.cell 5
  have m6 : W9.cell? ⟨w.heap.size + 1, 6, none⟩ = some (.slice A1 n1 c1) := HF.out.res.cell 6
  have m7 : W9.cell? ⟨w.heap.size + 1, 7, none⟩ = some (.slice A2 n2 c2) := HF.out.res.cell 7
  have m8 : W9.cell? ⟨w.heap.size + 1, 8, none⟩ = some (.slice A3 n3 c3) := HF.out.res.cell 8
  have m9 : W9.cell? ⟨w.heap.size + 1, 9, none⟩ = some (.slice (some ⟨w5.heap.size, 0, none⟩) 7 7) := HF.out.res.cell 9
  have m10 : W9.cell? ⟨w.heap.size + 1, 10, none⟩ = some (.slice (some ⟨w5.heap.size + 1, 0, none⟩) 6 6) := HF.out.res.cell 10
  refine bodyPost_ret (v := .tuple #[.agg #[.int .i64 3, .int .i64 V, .int .i64 D, .int .i64 V, .slice (some ⟨w.heap.size + 1 + 1 + 1, 0, none⟩) 4 4, .slice A0 n0 c0, .slice A1 n1 c1, .slice A2 n2 c2, .slice A3 n3 c3, .slice (some ⟨w5.heap.size, 0, none⟩) 7 7, .slice (some ⟨w5.heap.size + 1, 0, none⟩) 6 6], .int .i64 0]) (by rw [res_ct rfl]; go_simp) rfl ⟨_, rfl, HF.out.below, _, _, _, _, _, _, _, rfl, ?_, ?_, ?_, ?_, ?_, ?_, ?_⟩
  all_goals exact HF.out.rints (by simp [madeM])
end Go.Proofs.YtldjemlmjfpmjaaGreatDoor