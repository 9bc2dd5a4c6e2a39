/-
  The value machine: abstract values, blocks, operands, quiet operations, stores.
-/
import Derived.Test.YtkcdgaijklhnaaaGreatDoorK02
import Derived.Laws.CopyRow
import Derived.Laws.AppendOwn
import Derived.Laws.MakeOwn
import Derived.Deep.MidRow
import Derived.Scope
import Derived.Recover
namespace Go.Proofs.YtkcdgaijklhnaaaGreatDoor.Vm
open Go.RowKit
inductive V where
 | val (v : Value)
 | lst (f : Bool) (xs : List V)
 | agg (l : List V)
 | cref (x : V) (j : Nat)
 | ptr (b L i j : Nat)
 | own (b L lo n : Nat)
 | fn (f : Nat) (caps : List V)
 | met (f : Nat) (first : List V)
 | tup (l : List V)
 | mp (b : Nat)
 | cell
 | any
def V.cells : V → List V
 | .agg l => l
 | x => [x]
def V.leaf : V → Bool
 | .val v => v.oneCell'
 | .agg _ => false
 | .tup _ => false
 | .any => false
 | _ => true
def V.pl : V → Bool
 | .val _ => true
 | .lst _ _ => true
 | .cref _ _ => true
 | .cell => true
 | _ => false
def V.pure (x : V) : Bool := x.cells.all V.pl
inductive Blk where
 | dead
 | row (t k : Nat) (xs : List V)
 | map (es : List (Value × V))
abbrev St := List Blk
structure Env where
 φ : Nat → Nat
 κ : Nat → Nat
 Z : Nat → Prop
inductive PRel (Z : Nat → Prop) (w : World) : V → Value → Prop
 | val (v : Value) : PRel Z w (.val v) v
 | cell (u : Value) (h : u.oneCell' = true) : PRel Z w .cell u
 | nil (f : Bool) (A : Option Addr) (c : Nat) (h : (f = true → c = 0) ∧ c ≤ maxLen) : PRel Z w (.lst f []) (.slice A 0 c)
 | lst (f : Bool) (xs : List V) (p : Addr) (n c k : Nat) (us : Nat → Nat → Value) (hn : xs.length = n) (hc : n ≤ c ∧ c ≤ maxLen) (hf : f = true → c = n) (hs : p.spot = none) (hZ : Z p.block)
   (hk : ∀ (i : Nat) (x : V), xs[i]? = some x → x.cells.length = k) (hl : ∀ (i : Nat) (x : V), xs[i]? = some x → ∀ (j : Nat) (y : V), x.cells[j]? = some y → y.leaf = true)
   (hw : ∀ (i : Nat) (x : V), xs[i]? = some x → ∀ (j : Nat) (y : V), x.cells[j]? = some y → w.cell? ⟨p.block, p.off + (i * k + j), none⟩ = some (us i j))
   (hr : ∀ (i : Nat) (x : V), xs[i]? = some x → ∀ (j : Nat) (y : V), x.cells[j]? = some y → PRel Z w y (us i j)) : PRel Z w (.lst f xs) (.slice (some p) n c)
 | cref (x : V) (j g o : Nat) (us : Nat → Value) (hZ : Z g) (hl : ∀ (i : Nat) (y : V), x.cells[i]? = some y → y.leaf = true)
   (hw : ∀ (i : Nat) (y : V), x.cells[i]? = some y → w.cell? ⟨g, o + i, none⟩ = some (us i))
   (hr : ∀ (i : Nat) (y : V), x.cells[i]? = some y → PRel Z w y (us i)) : PRel Z w (.cref x j) (.pointer (some ⟨g, o + j, none⟩))
theorem PRel.pl {Z : Nat → Prop} {w : World} {v : V} {u : Value} (h : PRel Z w v u) : v.pl = true := by cases h <;> rfl
theorem PRel.mono {Z Z' : Nat → Prop} {w w' : World} (hZ : ∀ b, Z b → Z' b) (hw : ∀ (p : Addr) u, Z p.block → w.cell? p = some u → w'.cell? p = some u) {v : V} {u : Value} (h : PRel Z w v u) : PRel Z' w' v u := by
 induction h with
 | val v => exact .val v
 | cell u h => exact .cell u h
 | nil f A c h => exact .nil f A c h
 | lst f xs p n c k us hn hc hf hs hz hk hl hc' hr ih => exact .lst f xs p n c k us hn hc hf hs (hZ _ hz) hk hl (fun i x hx j y hy => hw _ _ hz (hc' i x hx j y hy)) ih
 | cref x j g o us hz hl hc hr ih => exact .cref x j g o us (hZ _ hz) hl (fun i y hy => hw _ _ hz (hc i y hy)) ih
inductive Rel (E : Env) (st : St) (w : World) : V → Value → Prop
 | any (u : Value) : Rel E st w .any u
 | pure {v : V} {u : Value} (h : PRel E.Z w v u) : Rel E st w v u
 | agg (l : List V) (us : List Value) (hn : us.length = l.length) (hr : ∀ (i : Nat) (y : V) (u : Value), l[i]? = some y → us[i]? = some u → Rel E st w y u) : Rel E st w (.agg l) (.agg us.toArray)
 | tup (l : List V) (us : List Value) (hn : us.length = l.length) (hr : ∀ (i : Nat) (y : V) (u : Value), l[i]? = some y → us[i]? = some u → Rel E st w y u) : Rel E st w (.tup l) (.tuple us.toArray)
 | fn (f : Nat) (l : List V) (us : List Value) (hn : us.length = l.length) (hr : ∀ (i : Nat) (y : V) (u : Value), l[i]? = some y → us[i]? = some u → Rel E st w y u) : Rel E st w (.fn f l) (.func (.func f) #[] us.toArray)
 | met (f : Nat) (l : List V) (us : List Value) (hn : us.length = l.length) (hr : ∀ (i : Nat) (y : V) (u : Value), l[i]? = some y → us[i]? = some u → Rel E st w y u) : Rel E st w (.met f l) (.func (.func f) us.toArray #[])
 | mp (b : Nat) (u : Value) (hb : b < st.length) (h1 : u.oneCell' = true) (h : ∀ es : List (Value × V), st[b]? = some (.map es) → u = .map (some (E.φ b))) : Rel E st w (.mp b) u
 | ptr (b L i j : Nat) (u : Value) (hb : b < st.length) (h1 : u.oneCell' = true)
   (h : ∀ (t k : Nat) (xs : List V), st[b]? = some (.row t k xs) → L ≤ xs.length ∧ (L = xs.length → i < L ∧ 0 < E.κ b ∧ u = .pointer (some ⟨E.φ b, i * k + j, none⟩))) : Rel E st w (.ptr b L i j) u
 | own (b L lo n : Nat) (u : Value) (hb : b < st.length) (h1 : u.oneCell' = true)
   (h : ∀ (t k : Nat) (xs : List V), st[b]? = some (.row t k xs) → L ≤ xs.length ∧ (L = xs.length → lo + n ≤ L ∧ ∃ A, u = .slice A n (E.κ b - lo) ∧ (0 < E.κ b - lo → A = some ⟨E.φ b, lo * k, none⟩))) : Rel E st w (.own b L lo n) u
def RowOk (E : Env) (st : St) (w : World) (b t k : Nat) (xs : List V) : Prop :=
 0 < k ∧ E.κ b ≤ maxLen ∧ xs.length ≤ E.κ b ∧ (∀ (i : Nat) (x : V), xs[i]? = some x → x.cells.length = k ∧ ∀ (j : Nat) (y : V), x.cells[j]? = some y → y.leaf = true) ∧
 (0 < E.κ b → ¬ E.Z (E.φ b) ∧ ∃ cur : Array Value, w.heap[E.φ b]? = some (.cells cur t (0, 0)) ∧ cur.size = E.κ b * k ∧
  ∀ (i : Nat) (x : V), xs[i]? = some x → ∀ (j : Nat) (y : V), x.cells[j]? = some y → ∃ u, cur[i * k + j]? = some u ∧ Rel E st w y u)
def PR (Z : Nat → Prop) (w : World) (v : V) (u : Value) : Prop := PRel Z w v u ∨ ∃ (l : List V) (us : List Value), v = .agg l ∧ u = .agg us.toArray ∧ us.length = l.length ∧ ∀ (i : Nat) (y : V) (z : Value), l[i]? = some y → us[i]? = some z → PRel Z w y z
def MapOk (Z : Nat → Prop) (w : World) (g : Nat) (es : List (Value × V)) : Prop :=
 ∃ (ents : Array MapEntry) (ck : Nat), w.heap[g]? = some (.map ents ck) ∧ ents.size = es.length ∧ ∀ (i : Nat) (kv : Value × V) (e : MapEntry), es[i]? = some kv → ents[i]? = some e → e.key = kv.1 ∧ PR Z w kv.2 e.val
structure Rep (B : Nat) (w0 : World) (E : Env) (st : St) (w : World) : Prop where
 base : B ≤ w0.heap.size
 below : Below B w0 w
 zlt : ∀ b, E.Z b → b < w.heap.size
 ok : ∀ (b t k : Nat) (xs : List V), st[b]? = some (.row t k xs) → RowOk E st w b t k xs ∧ (0 < E.κ b → B ≤ E.φ b)
 inj : ∀ (a b t k : Nat) (xs : List V) (t' k' : Nat) (xs' : List V), st[a]? = some (.row t k xs) → st[b]? = some (.row t' k' xs') → 0 < E.κ a → 0 < E.κ b → E.φ a = E.φ b → a = b
 maps : ∀ (b : Nat) (es : List (Value × V)), st[b]? = some (.map es) → B ≤ E.φ b ∧ MapOk E.Z w (E.φ b) es
 minj : ∀ (a b : Nat) (es es' : List (Value × V)), st[a]? = some (.map es) → st[b]? = some (.map es') → E.φ a = E.φ b → a = b
structure Ext (E : Env) (st : St) (w : World) (E' : Env) (st' : St) (w' : World) : Prop where
 len : st.length ≤ st'.length
 z : ∀ b, E.Z b → E'.Z b
 cell : ∀ (p : Addr) u, E.Z p.block → w.cell? p = some u → w'.cell? p = some u
 blk : ∀ (b t k : Nat) (xs' : List V), b < st.length → st'[b]? = some (.row t k xs') → ∃ xs, st[b]? = some (.row t k xs) ∧ xs.length ≤ xs'.length ∧ (xs.length = xs'.length → E'.φ b = E.φ b ∧ E'.κ b = E.κ b)
 mblk : ∀ (b : Nat) (es' : List (Value × V)), b < st.length → st'[b]? = some (.map es') → (∃ es, st[b]? = some (.map es)) ∧ E'.φ b = E.φ b
theorem Ext.refl (E : Env) (st : St) (w : World) : Ext E st w E st w := ⟨Nat.le_refl _, fun _ h => h, fun _ _ _ h => h, fun _ _ _ xs _ h => ⟨xs, h, Nat.le_refl _, fun _ => ⟨rfl, rfl⟩⟩, fun _ es _ h => ⟨⟨es, h⟩, rfl⟩⟩
theorem Ext.trans {E E1 E2 : Env} {st st1 st2 : St} {w w1 w2 : World} (h : Ext E st w E1 st1 w1) (k : Ext E1 st1 w1 E2 st2 w2) : Ext E st w E2 st2 w2 :=
 ⟨Nat.le_trans h.len k.len, fun b hb => k.z b (h.z b hb), fun p u hz hu => k.cell p u (h.z _ hz) (h.cell p u hz hu), fun b t q xs' hb hx => by
  obtain ⟨xs1, g1, g2, g3⟩ := k.blk b t q xs' (Nat.lt_of_lt_of_le hb h.len) hx
  obtain ⟨xs, f1, f2, f3⟩ := h.blk b t q xs1 hb g1
  refine ⟨xs, f1, Nat.le_trans f2 g2, fun e => ?_⟩
  obtain ⟨a1, a2⟩ := g3 (by omega)
  obtain ⟨b1, b2⟩ := f3 (by omega)
  exact ⟨a1.trans b1, a2.trans b2⟩, fun b es' hb hx => by
  obtain ⟨⟨es1, g1⟩, g2⟩ := k.mblk b es' (Nat.lt_of_lt_of_le hb h.len) hx
  obtain ⟨f1, f2⟩ := h.mblk b es1 hb g1
  exact ⟨f1, g2.trans f2⟩⟩
theorem Rel.mono {E E' : Env} {st st' : St} {w w' : World} (hE : Ext E st w E' st' w') {v : V} {u : Value} (h : Rel E st w v u) : Rel E' st' w' v u := by
 induction h with
 | any u => exact .any u
 | pure h => exact .pure (h.mono hE.z hE.cell)
 | agg l us hn _ ih => exact .agg l us hn ih
 | tup l us hn _ ih => exact .tup l us hn ih
 | fn f l us hn _ ih => exact .fn f l us hn ih
 | met f l us hn _ ih => exact .met f l us hn ih
 | mp b u hb h1 h =>
  refine .mp b u (Nat.lt_of_lt_of_le hb hE.len) h1 fun es' hx => ?_
  obtain ⟨⟨es, f1⟩, f2⟩ := hE.mblk b es' hb hx
  rw [f2]
  exact h es f1
 | ptr b L i j u hb h1 h =>
  refine .ptr b L i j u (Nat.lt_of_lt_of_le hb hE.len) h1 fun t k xs' hx => ?_
  obtain ⟨xs, f1, f2, f3⟩ := hE.blk b t k xs' hb hx
  obtain ⟨g1, g2⟩ := h t k xs f1
  refine ⟨Nat.le_trans g1 f2, fun e => ?_⟩
  obtain ⟨q1, q2, q3⟩ := g2 (by omega)
  obtain ⟨e1, e2⟩ := f3 (by omega)
  rw [e1, e2]
  exact ⟨q1, q2, q3⟩
 | own b L lo n u hb h1 h =>
  refine .own b L lo n u (Nat.lt_of_lt_of_le hb hE.len) h1 fun t k xs' hx => ?_
  obtain ⟨xs, f1, f2, f3⟩ := hE.blk b t k xs' hb hx
  obtain ⟨g1, g2⟩ := h t k xs f1
  refine ⟨Nat.le_trans g1 f2, fun e => ?_⟩
  obtain ⟨q1, q2⟩ := g2 (by omega)
  obtain ⟨e1, e2⟩ := f3 (by omega)
  rw [e1, e2]
  exact ⟨q1, q2⟩
theorem PRel.one {Z : Nat → Prop} {w : World} {v : V} {u : Value} (h : PRel Z w v u) (hl : v.leaf = true) : u.oneCell' = true := by
 cases h <;> first | exact hl | rfl | assumption
theorem Rel.one {E : Env} {st : St} {w : World} {v : V} {u : Value} (h : Rel E st w v u) (hl : v.leaf = true) : u.oneCell' = true := by
 cases h with
 | any => cases hl
 | pure h => exact h.one hl
 | agg => cases hl
 | tup => cases hl
 | fn => rfl
 | met => rfl
 | mp _ _ _ h1 => exact h1
 | ptr _ _ _ _ _ _ h1 => exact h1
 | own _ _ _ _ _ _ h1 => exact h1
theorem Rel.plain {E : Env} {st : St} {w : World} {v : V} {u : Value} (h : Rel E st w v u) (hp : v.pl = true) : PRel E.Z w v u := by
 cases h <;> first | assumption | cases hp
theorem Rel.lit {E : Env} {st : St} {w : World} {x u : Value} (h : Rel E st w (.val x) u) : u = x := by
 cases h with
 | pure h => cases h; rfl
theorem PR.mono {Z Z' : Nat → Prop} {w w' : World} (hZ : ∀ b, Z b → Z' b) (hw : ∀ (p : Addr) u, Z p.block → w.cell? p = some u → w'.cell? p = some u) {v : V} {u : Value} (h : PR Z w v u) : PR Z' w' v u := by
 rcases h with h | ⟨l, us, h1, h2, h3, h4⟩
 ·exact Or.inl (h.mono hZ hw)
 ·exact Or.inr ⟨l, us, h1, h2, h3, fun i y z hy hz => (h4 i y z hy hz).mono hZ hw⟩
theorem PR.rel {E : Env} {st : St} {w : World} {v : V} {u : Value} (h : PR E.Z w v u) : Rel E st w v u := by
 rcases h with h | ⟨l, us, rfl, rfl, h3, h4⟩
 ·exact .pure h
 ·exact .agg l us h3 fun i y z hy hz => .pure (h4 i y z hy hz)
theorem Rel.pr {E : Env} {st : St} {w : World} {v : V} {u : Value} (h : Rel E st w v u) (hv : v.pure = true) : PR E.Z w v u := by
 cases h with
 | pure h => exact Or.inl h
 | agg l us hn hr =>
  refine Or.inr ⟨l, us, rfl, rfl, hn, fun i y z hy hz => (hr i y z hy hz).plain ?_⟩
  exact List.all_eq_true.1 hv y (List.mem_of_getElem? hy)
 | _ => simp [V.pure, V.cells, V.pl] at hv
theorem MapOk.mono {Z Z' : Nat → Prop} {w w' : World} {g : Nat} {es : List (Value × V)} (h : MapOk Z w g es) (hZ : ∀ b, Z b → Z' b) (hw : ∀ (p : Addr) u, Z p.block → w.cell? p = some u → w'.cell? p = some u) (hg : w'.heap[g]? = w.heap[g]?) : MapOk Z' w' g es := by
 obtain ⟨ents, ck, h1, h2, h3⟩ := h
 exact ⟨ents, ck, hg.trans h1, h2, fun i kv e hi he => ⟨(h3 i kv e hi he).1, (h3 i kv e hi he).2.mono hZ hw⟩⟩
theorem MapOk.lt {Z : Nat → Prop} {w : World} {g : Nat} {es : List (Value × V)} (h : MapOk Z w g es) : g < w.heap.size := by
 obtain ⟨ents, ck, h1, -⟩ := h
 exact (Array.getElem?_eq_some_iff.1 h1).1
theorem MapOk.ne {Z : Nat → Prop} {w : World} {g g' : Nat} {es : List (Value × V)} {cur : Array Value} {t : Nat} {q : Nat × Nat} (h : MapOk Z w g es) (h' : w.heap[g']? = some (.cells cur t q)) : g ≠ g' := fun e => by
 obtain ⟨ents, ck, h1, -⟩ := h
 rw [e, h'] at h1
 cases h1
structure Stp (M : Nat → Nat → Bool) (E : Env) (st : St) (w : World) (E' : Env) (st' : St) (w' : World) : Prop extends Ext E st w E' st' w' where
 far : ∀ (b t k : Nat) (xs : List V), st'[b]? = some (.row t k xs) → 0 < E'.κ b → (b < st.length ∧ E'.φ b = E.φ b ∧ 0 < E.κ b) ∨ w.heap.size ≤ E'.φ b
 phys : ∀ p : Addr, p.block < w.heap.size → (∀ (b t k : Nat) (xs : List V), st[b]? = some (.row t k xs) → 0 < E.κ b → E.φ b = p.block → M b (p.off % k) = false) → w'.cell? p = w.cell? p
 size : w.heap.size ≤ w'.heap.size
theorem Stp.refl (M : Nat → Nat → Bool) (E : Env) (st : St) (w : World) : Stp M E st w E st w := ⟨Ext.refl _ _ _, fun _ _ _ _ h hk => Or.inl ⟨(List.getElem?_eq_some_iff.1 h).1, rfl, hk⟩, fun _ _ _ => rfl, Nat.le_refl _⟩
theorem Stp.trans {M : Nat → Nat → Bool} {E E1 E2 : Env} {st st1 st2 : St} {w w1 w2 : World} (h : Stp M E st w E1 st1 w1) (k : Stp M E1 st1 w1 E2 st2 w2) : Stp M E st w E2 st2 w2 := by
 refine ⟨h.toExt.trans k.toExt, fun b t q xs hx hk => ?_, fun p hg hM => ?_, Nat.le_trans h.size k.size⟩
 ·rcases k.far b t q xs hx hk with ⟨a1, a2, a3⟩ | a
  ·obtain ⟨xs1, g1, -⟩ := k.blk b t q xs a1 hx
   rcases h.far b t q xs1 g1 a3 with ⟨c1, c2, c3⟩ | c
   ·exact Or.inl ⟨c1, a2.trans c2, c3⟩
   ·exact Or.inr (by rw [a2]; exact c)
  ·exact Or.inr (Nat.le_trans h.size a)
 ·refine (k.phys p (Nat.lt_of_lt_of_le hg h.size) fun b t q xs hx hk he => ?_).trans (h.phys p hg hM)
  rcases h.far b t q xs hx hk with ⟨c1, c2, c3⟩ | c
  ·obtain ⟨xs0, g1, -⟩ := h.blk b t q xs c1 hx
   exact hM b t q xs0 g1 c3 (c2.symm.trans he)
  ·omega
theorem off_of {a b : Bool} (h : a = true → b = true) (hb : b = false) : a = false := by
 cases a with
 | false => rfl
 | true => rw [h rfl] at hb; cases hb
theorem Stp.mono {M M' : Nat → Nat → Bool} {E E' : Env} {st st' : St} {w w' : World} (h : Stp M E st w E' st' w') (hM : ∀ b j, b < st.length → M b j = true → M' b j = true) : Stp M' E st w E' st' w' :=
 ⟨h.toExt, h.far, fun p hg hh => h.phys p hg fun b t k xs hx hk he => off_of (hM b _ (List.getElem?_eq_some_iff.1 hx).1) (hh b t k xs hx hk he), h.size⟩
theorem Rep.drew {B : Nat} {w0 : World} {E : Env} {st : St} {w : World} (h : Rep B w0 E st w) : Rep B w0 E st w.drew :=
 ⟨h.base, h.below.drew, h.zlt, fun b t k xs hx => by
  obtain ⟨⟨k0, k1, k2, k3, k4⟩, k5⟩ := h.ok b t k xs hx
  refine ⟨⟨k0, k1, k2, k3, fun hk => ?_⟩, k5⟩
  obtain ⟨g1, cur, g2, g3, g4⟩ := k4 hk
  refine ⟨g1, cur, g2, g3, fun i x hi j y hy => ?_⟩
  obtain ⟨u, f1, f2⟩ := g4 i x hi j y hy
  exact ⟨u, f1, Rel.mono (E := E) (st := st) (w := w) (E' := E) (st' := st) (w' := w.drew) ⟨Nat.le_refl _, fun _ h => h, fun _ _ _ h => h, fun _ _ _ xs _ h => ⟨xs, h, Nat.le_refl _, fun _ => ⟨rfl, rfl⟩⟩, fun _ es _ h => ⟨⟨es, h⟩, rfl⟩⟩ f2⟩, h.inj, fun b es hb => ⟨(h.maps b es hb).1, (h.maps b es hb).2.mono (fun _ h => h) (fun _ _ _ h => h) rfl⟩, h.minj⟩
theorem Stp.drew (M : Nat → Nat → Bool) (E : Env) (st : St) (w : World) : Stp M E st w E st w.drew :=
 ⟨⟨Nat.le_refl _, fun _ h => h, fun _ _ _ h => h, fun _ _ _ xs _ h => ⟨xs, h, Nat.le_refl _, fun _ => ⟨rfl, rfl⟩⟩, fun _ es _ h => ⟨⟨es, h⟩, rfl⟩⟩, fun _ _ _ _ h hk => Or.inl ⟨(List.getElem?_eq_some_iff.1 h).1, rfl, hk⟩, fun _ _ _ => rfl, Nat.le_refl _⟩
theorem Rep.mem {B : Nat} {w0 : World} {E : Env} {st : St} {w : World} (h : Rep B w0 E st w) {b t k : Nat} {xs : List V} (hb : st[b]? = some (.row t k xs)) (hk : 0 < E.κ b) : E.φ b < w.heap.size := by
 obtain ⟨-, cur, hg, -⟩ := (h.ok b t k xs hb).1.2.2.2.2 hk
 exact (Array.getElem?_eq_some_iff.1 hg).1
end Go.Proofs.YtkcdgaijklhnaaaGreatDoor.Vm
namespace Go.Proofs.YtkcdgaijklhnaaaGreatDoor.Vm
open Go.RowKit
def Env.put (E : Env) (n g c : Nat) : Env := ⟨fun b => if b = n then g else E.φ b, fun b => if b = n then c else E.κ b, E.Z⟩
section
variable {B : Nat} {w0 : World} {E : Env} {st st' : St} {w w' : World} {M : Nat → Nat → Bool}
theorem Rep.one_name (h : Rep B w0 E st w) {n g c t k : Nat} {xs : List V} {cur : Array Value} {row : Option Nat}
  (hold : (n = st.length ∧ st' = st ++ [.row t k xs] ∧ row = none) ∨
   (∃ xs0, st[n]? = some (.row t k xs0) ∧ xs0.length ≤ xs.length ∧ (xs0.length = xs.length → g = E.φ n ∧ c = E.κ n) ∧ st' = st.set n (.row t k xs) ∧ (row = none ∨ (row = some (E.φ n) ∧ 0 < E.κ n ∧ ∀ p : Addr, p.block = E.φ n → M n (p.off % k) = false → w'.cell? p = w.cell? p))))
  (hw : w.grownBy w' row) (hg : w'.heap[g]? = some (.cells cur t (0, 0))) (hat : some g = row ∨ w.heap.size ≤ g)
  (hk : 0 < k) (hm : c ≤ maxLen) (hl : xs.length ≤ c) (hz : cur.size = c * k)
  (hcl : ∀ (i : Nat) (x : V), xs[i]? = some x → x.cells.length = k ∧ ∀ (j : Nat) (y : V), x.cells[j]? = some y → y.leaf = true)
  (hr : ∀ (i : Nat) (x : V), xs[i]? = some x → ∀ (j : Nat) (y : V), x.cells[j]? = some y → ∃ u, cur[i * k + j]? = some u ∧ Rel E st w y u) :
  Rep B w0 (E.put n g c) st' w' ∧ Stp M E st w (E.put n g c) st' w' := by
 have hrowZ : ∀ q, row = some q → q = E.φ n ∧ 0 < E.κ n ∧ (∀ p : Addr, p.block = E.φ n → M n (p.off % k) = false → w'.cell? p = w.cell? p) ∧ ∃ xs0, st[n]? = some (.row t k xs0) := fun q hq => by
  rcases hold with ⟨-, -, h3⟩ | ⟨xs0, h1, -, -, -, h5 | ⟨h5, h6, h7⟩⟩
  ·rw [h3] at hq; cases hq
  ·rw [h5] at hq; cases hq
  ·rw [h5] at hq; cases hq; exact ⟨rfl, h6, h7, xs0, h1⟩
 have hBw : B ≤ w.heap.size := Nat.le_trans h.base h.below.size
 have hsame : ∀ b, b ≠ n → b < st.length → st'[b]? = st[b]? := fun b hb hlt => by
  rcases hold with ⟨h1, h2, -⟩ | ⟨xs0, -, -, -, h5, -⟩
  ·rw [h2, List.getElem?_append_left hlt]
  ·rw [h5, List.getElem?_set_ne (Ne.symm hb)]
 have hlen : st.length ≤ st'.length := by
  rcases hold with ⟨-, h2, -⟩ | ⟨xs0, -, -, -, h5, -⟩
  ·rw [h2]; simp
  ·rw [h5]; simp
 have hsmall : ∀ b t2 k2 xs2, st'[b]? = some (.row t2 k2 xs2) → b ≠ n → b < st.length := fun b t2 k2 xs2 hb hne => by
  have hlt := (List.getElem?_eq_some_iff.1 hb).1
  rcases hold with ⟨h1, h2, -⟩ | ⟨xs0, -, -, -, h5, -⟩
  ·rw [h2] at hlt; simp at hlt; omega
  ·rw [h5] at hlt; simpa using hlt
 have hn : st'[n]? = some (.row t k xs) := by
  rcases hold with ⟨h1, h2, -⟩ | ⟨xs0, h1, -, -, h5, -⟩
  ·rw [h2, h1]; simp
  ·rw [h5, List.getElem?_set_self (List.getElem?_eq_some_iff.1 h1).1]
 have hcell : ∀ (p : Addr) u, E.Z p.block → w.cell? p = some u → w'.cell? p = some u := fun p u hzp hu => by
  have := hw.block p.block (h.zlt _ hzp) fun e => by
   obtain ⟨q1, q2, q3, xs0, q4⟩ := hrowZ _ e.symm
   rw [q1] at hzp
   exact ((h.ok _ _ _ _ q4).1.2.2.2.2 q2).1 hzp
  rw [World.cell?_of_block this]
  exact hu
 have hmap : ∀ b es, st'[b]? = some (.map es) → b ≠ n ∧ b < st.length ∧ st[b]? = some (.map es) := fun b es hb => by
  have hbn : b ≠ n := fun e => by rw [e, hn] at hb; cases hb
  have hlt := (List.getElem?_eq_some_iff.1 hb).1
  have hlt2 : b < st.length := by
   rcases hold with ⟨h1, h2, -⟩ | ⟨xs0, -, -, -, h5, -⟩
   ·rw [h2] at hlt; simp at hlt; omega
   ·rw [h5] at hlt; simpa using hlt
  exact ⟨hbn, hlt2, by rw [← hsame b hbn hlt2]; exact hb⟩
 have hext : Ext E st w (E.put n g c) st' w' := by
  refine ⟨hlen, fun _ h => h, hcell, fun b t2 k2 xs2 hb hx => ?_, fun b es hb hx => ?_⟩
  rotate_left
  ·obtain ⟨h1, h2, h3⟩ := hmap b es hx
   exact ⟨⟨es, h3⟩, by simp [Env.put, h1]⟩
  by_cases hbn : b = n
  ·subst hbn
   rcases hold with ⟨h1, h2, -⟩ | ⟨xs0, h1, h2, h3, h5, -⟩
   ·omega
   ·rw [hn] at hx
    cases hx
    exact ⟨xs0, h1, h2, fun e => by obtain ⟨e1, e2⟩ := h3 e; simp [Env.put, e1, e2]⟩
  ·rw [hsame b hbn hb] at hx
   exact ⟨xs2, hx, Nat.le_refl _, fun _ => by simp [Env.put, hbn]⟩
 have hgB : B ≤ g := by
  rcases hat with hat | hat
  ·obtain ⟨q1, q2, q3, xs0, q4⟩ := hrowZ g hat.symm
   rw [q1]; exact (h.ok _ _ _ _ q4).2 q2
  ·omega
 have hgZ : ¬ E.Z g := by
  rcases hat with hat | hat
  ·obtain ⟨q1, q2, q3, xs0, q4⟩ := hrowZ g hat.symm
   rw [q1]; exact ((h.ok _ _ _ _ q4).1.2.2.2.2 q2).1
  ·intro hh; have := h.zlt _ hh; omega
 have hapart : ∀ b t2 k2 xs2, st'[b]? = some (.row t2 k2 xs2) → b ≠ n → 0 < E.κ b → E.φ b ≠ g := fun b t2 k2 xs2 hb hne hkb e => by
  have hlt := hsmall b t2 k2 xs2 hb hne
  rw [hsame b hne hlt] at hb
  rcases hat with hat | hat
  ·obtain ⟨q1, q2, q3, xs0, q4⟩ := hrowZ g hat.symm
   exact hne (h.inj _ _ _ _ _ _ _ _ hb q4 hkb q2 (by rw [e, q1]))
  ·have := h.mem hb hkb; omega
 refine ⟨⟨h.base, h.below.grown hw hBw (fun q hq => by
  obtain ⟨q1, q2, q3, xs0, q4⟩ := hrowZ q hq
  rw [q1]; exact (h.ok _ _ _ _ q4).2 q2), fun b hb => Nat.lt_of_lt_of_le (h.zlt b hb) hw.size, fun b t2 k2 xs2 hb => ?_, fun a b t1 k1 x1 t2 k2 x2 ha hb ka kb e => ?_, fun b es hb => by
   obtain ⟨h1, h2, h3⟩ := hmap b es hb
   obtain ⟨g1, g2⟩ := h.maps b es h3
   refine ⟨by simpa [Env.put, h1] using g1, ?_⟩
   have : (E.put n g c).φ b = E.φ b := by simp [Env.put, h1]
   rw [this]
   refine g2.mono (fun _ h => h) hcell (hw.block _ g2.lt fun e => ?_)
   obtain ⟨q1, q2, q3, xs0, q4⟩ := hrowZ _ e.symm
   obtain ⟨-, cur2, f2, -⟩ := (h.ok _ _ _ _ q4).1.2.2.2.2 q2
   exact g2.ne f2 q1, fun a b es es' ha hb e => by
   obtain ⟨h1, h2, h3⟩ := hmap a es ha
   obtain ⟨i1, i2, i3⟩ := hmap b es' hb
   simp only [Env.put, h1, i1, if_false] at e
   exact h.minj a b es es' h3 i3 e⟩,
  ⟨hext, fun b t2 k2 xs2 hb hkb => ?_, fun p hg' hM => ?_, hw.size⟩⟩
 ·by_cases hbn : b = n
  ·subst hbn
   rw [hn] at hb
   cases hb
   refine ⟨⟨hk, by simp [Env.put, hm], by simp [Env.put, hl], hcl, fun _ => ⟨by simp [Env.put, hgZ], cur, by simp [Env.put, hg], by simp [Env.put, hz], fun i x hi j y hy => ?_⟩⟩, fun _ => by simp [Env.put, hgB]⟩
   obtain ⟨u, f1, f2⟩ := hr i x hi j y hy
   exact ⟨u, f1, f2.mono hext⟩
  ·have hlt := hsmall b t2 k2 xs2 hb hbn
   have hb' := hb
   rw [hsame b hbn hlt] at hb
   obtain ⟨⟨k0, k1, k2', k3, k4⟩, k5⟩ := h.ok b t2 k2 xs2 hb
   refine ⟨⟨k0, by simp [Env.put, hbn, k1], by simp [Env.put, hbn, k2'], k3, fun hkb => ?_⟩, fun hkb => by simp only [Env.put, hbn, if_false] at hkb ⊢; exact k5 hkb⟩
   simp only [Env.put, hbn, if_false] at hkb ⊢
   obtain ⟨g1, cur2, g2, g3, g4⟩ := k4 hkb
   refine ⟨g1, cur2, ?_, g3, fun i x hi j y hy => ?_⟩
   ·rw [hw.block _ (h.mem hb hkb) (fun e => by
     obtain ⟨q1, q2, q3, xs0, q4⟩ := hrowZ _ e.symm
     exact hbn (h.inj _ _ _ _ _ _ _ _ hb q4 hkb q2 q1))]
    exact g2
   ·obtain ⟨u, f1, f2⟩ := g4 i x hi j y hy
    exact ⟨u, f1, f2.mono hext⟩
 ·by_cases han : a = n <;> by_cases hbn : b = n
  ·rw [han, hbn]
  ·subst han
   simp only [Env.put, hbn, if_true, if_false] at e kb
   exact absurd e.symm (hapart b _ _ _ hb hbn kb)
  ·subst hbn
   simp only [Env.put, han, if_true, if_false] at e ka
   exact absurd e (hapart a _ _ _ ha han ka)
  ·simp only [Env.put, han, hbn, if_false] at e ka kb
   rw [hsame a han (hsmall a _ _ _ ha han)] at ha
   rw [hsame b hbn (hsmall b _ _ _ hb hbn)] at hb
   exact h.inj _ _ _ _ _ _ _ _ ha hb ka kb e
 ·by_cases hbn : b = n
  ·subst hbn
   simp only [Env.put, if_true]
   rcases hat with hat | hat
   ·obtain ⟨q1, q2, q3, xs0, q4⟩ := hrowZ g hat.symm
    exact Or.inl ⟨(List.getElem?_eq_some_iff.1 q4).1, q1, q2⟩
   ·exact Or.inr hat
  ·simp only [Env.put, hbn, if_false] at hkb ⊢
   exact Or.inl ⟨hsmall b _ _ _ hb hbn, trivial, hkb⟩
 ·by_cases hp : some p.block = row
  ·obtain ⟨q1, q2, q3, xs0, q4⟩ := hrowZ p.block hp.symm
   exact q3 p q1 (hM n _ _ _ q4 q2 q1.symm)
  ·exact World.cell?_of_block (hw.block p.block hg' hp)
end
inductive Wk : V → V → Prop
 | refl (v : V) : Wk v v
 | lst (f : Bool) (xs ys : List V) (hl : ys.length = xs.length) (h : ∀ (i : Nat) (x y : V), xs[i]? = some x → ys[i]? = some y → Wk x y) : Wk (.lst f xs) (.lst false ys)
 | agg (xs ys : List V) (hl : ys.length = xs.length) (h : ∀ (i : Nat) (x y : V), xs[i]? = some x → ys[i]? = some y → Wk x y) : Wk (.agg xs) (.agg ys)
 | tup (xs ys : List V) (hl : ys.length = xs.length) (h : ∀ (i : Nat) (x y : V), xs[i]? = some x → ys[i]? = some y → Wk x y) : Wk (.tup xs) (.tup ys)
 | cref (x y : V) (j : Nat) (h : Wk x y) : Wk (.cref x j) (.cref y j)
theorem Wk.leaf {x y : V} (h : Wk x y) (hl : x.leaf = true) : y.leaf = true := by
 cases h <;> first | exact hl | rfl | cases hl
theorem Wk.cells {x y : V} (h : Wk x y) : y.cells.length = x.cells.length ∧ ∀ (i : Nat) (a b : V), x.cells[i]? = some a → y.cells[i]? = some b → Wk a b := by
 have one : ∀ {x y : V}, Wk x y → ∀ (i : Nat) (a b : V), [x][i]? = some a → [y][i]? = some b → Wk a b := fun h i a b ha hb => by
  match i with
  | 0 => cases ha; cases hb; exact h
  | i + 1 => simp at ha
 cases h with
 | refl => exact ⟨rfl, fun i a b ha hb => by rw [ha] at hb; cases hb; exact .refl _⟩
 | lst f xs ys hl h => exact ⟨rfl, one (.lst f xs ys hl h)⟩
 | agg xs ys hl h => exact ⟨hl, h⟩
 | tup xs ys hl h => exact ⟨rfl, one (.tup xs ys hl h)⟩
 | cref x y j h => exact ⟨rfl, one (.cref x y j h)⟩
theorem PRel.wk {Z : Nat → Prop} {w : World} {v : V} {u : Value} (h : PRel Z w v u) : ∀ {v' : V}, Wk v v' → PRel Z w v' u := by
 induction h with
 | val v => intro v' k; cases k; exact .val v
 | cell u h => intro v' k; cases k; exact .cell u h
 | nil f A c h =>
  intro v' k
  cases k with
  | refl => exact .nil f A c h
  | lst _ _ ys hl _ =>
   obtain rfl : ys = [] := List.eq_nil_of_length_eq_zero hl
   exact .nil false A c ⟨fun e => (by cases e), h.2⟩
 | lst f xs p n c k us hn hc hf hs hz hk hl hcl hr ih =>
  intro v' kk
  cases kk with
  | refl => exact .lst f xs p n c k us hn hc hf hs hz hk hl hcl hr
  | lst _ _ ys hyl hy =>
   have hex : ∀ (i : Nat) (y : V), ys[i]? = some y → ∃ x, xs[i]? = some x ∧ Wk x y := fun i y hi => by
    have hlt : i < xs.length := by rw [← hyl]; exact (List.getElem?_eq_some_iff.1 hi).1
    exact ⟨_, List.getElem?_eq_getElem hlt, hy i _ y (List.getElem?_eq_getElem hlt) hi⟩
   refine .lst false ys p n c k us (by omega) hc (fun e => by cases e) hs hz (fun i y hi => ?_) (fun i y hi j b hb => ?_) (fun i y hi j b hb => ?_) (fun i y hi j b hb => ?_)
   ·obtain ⟨x, hx, hw⟩ := hex i y hi
    rw [hw.cells.1]; exact hk i x hx
   all_goals
    obtain ⟨x, hx, hw⟩ := hex i y hi
    obtain ⟨q1, q2⟩ := hw.cells
    have hj : j < x.cells.length := by rw [← q1]; exact (List.getElem?_eq_some_iff.1 hb).1
    have ha := List.getElem?_eq_getElem hj
   ·exact (q2 j _ b ha hb).leaf (hl i x hx j _ ha)
   ·exact hcl i x hx j _ ha
   ·exact ih i x hx j _ ha (q2 j _ b ha hb)
 | cref x j g o us hz hl hc hr ih =>
  intro v' kk
  cases kk with
  | refl => exact .cref x j g o us hz hl hc hr
  | cref _ y _ hw =>
   obtain ⟨q1, q2⟩ := hw.cells
   have hex : ∀ (i : Nat) (b : V), y.cells[i]? = some b → ∃ a, x.cells[i]? = some a ∧ Wk a b := fun i b hb => by
    have hj : i < x.cells.length := by rw [← q1]; exact (List.getElem?_eq_some_iff.1 hb).1
    exact ⟨_, List.getElem?_eq_getElem hj, q2 i _ b (List.getElem?_eq_getElem hj) hb⟩
   refine .cref y j g o us hz (fun i b hb => ?_) (fun i b hb => ?_) (fun i b hb => ?_)
   ·obtain ⟨a, ha, hab⟩ := hex i b hb
    exact hab.leaf (hl i a ha)
   ·obtain ⟨a, ha, hab⟩ := hex i b hb
    exact hc i a ha
   ·obtain ⟨a, ha, hab⟩ := hex i b hb
    exact ih i a ha hab
theorem Rel.wk {E : Env} {st : St} {w : World} {v : V} {u : Value} (h : Rel E st w v u) : ∀ {v' : V}, Wk v v' → Rel E st w v' u := by
 induction h with
 | any u => intro v' k; cases k; exact .any u
 | pure h => intro v' k; exact .pure (h.wk k)
 | agg l us hn hr ih =>
  intro v' k
  cases k with
  | refl => exact .agg l us hn hr
  | agg _ ys hl hy =>
   refine .agg ys us (by omega) fun i y u hi hu => ?_
   have hlt : i < l.length := by rw [← hl]; exact (List.getElem?_eq_some_iff.1 hi).1
   exact ih i _ u (List.getElem?_eq_getElem hlt) hu (hy i _ y (List.getElem?_eq_getElem hlt) hi)
 | tup l us hn hr ih =>
  intro v' k
  cases k with
  | refl => exact .tup l us hn hr
  | tup _ ys hl hy =>
   refine .tup ys us (by omega) fun i y u hi hu => ?_
   have hlt : i < l.length := by rw [← hl]; exact (List.getElem?_eq_some_iff.1 hi).1
   exact ih i _ u (List.getElem?_eq_getElem hlt) hu (hy i _ y (List.getElem?_eq_getElem hlt) hi)
 | fn f l us hn hr _ => intro v' k; cases k; exact .fn f l us hn hr
 | met f l us hn hr _ => intro v' k; cases k; exact .met f l us hn hr
 | mp b u hb h1 h => intro v' k; cases k; exact .mp b u hb h1 h
 | ptr b L i j u hb h1 h => intro v' k; cases k; exact .ptr b L i j u hb h1 h
 | own b L lo n u hb h1 h => intro v' k; cases k; exact .own b L lo n u hb h1 h
def V.low (n : Nat) : V → Bool
 | .val _ => true
 | .lst _ _ => true
 | .cref _ _ => true
 | .ptr b _ _ _ => Nat.blt b n
 | .own b _ _ _ => Nat.blt b n
 | .mp b => Nat.blt b n
 | .cell => true
 | _ => false
inductive Frz (n : Nat) (st : St) : V → V → Prop
 | same (v : V) (h : v.low n = true) : Frz n st v v
 | cell (v : V) (h : v.leaf = true) : Frz n st v .cell
 | wk (v a b : V) (h : Frz n st v a) (h2 : Wk a b) : Frz n st v b
 | ptr (b L i j t k : Nat) (xs : List V) (x y : V) (hb : n ≤ b) (hst : st[b]? = some (.row t k xs)) (hL : xs.length = L) (hx : xs[i]? = some x) (hc : x.cells.length = y.cells.length)
   (hf : ∀ (j : Nat) (a b : V), x.cells[j]? = some a → y.cells[j]? = some b → b.leaf = true ∧ b.pl = true)
   (hr : ∀ (j : Nat) (a b : V), x.cells[j]? = some a → y.cells[j]? = some b → Frz n st a b) : Frz n st (.ptr b L i j) (.cref y j)
 | own (b L lo m t k : Nat) (xs ys : List V) (hb : n ≤ b) (hst : st[b]? = some (.row t k xs)) (hL : xs.length = L) (hy : ys.length = xs.length)
   (hc : ∀ (i : Nat) (x y : V), xs[i]? = some x → ys[i]? = some y → x.cells.length = y.cells.length)
   (hf : ∀ (i : Nat) (x y : V), xs[i]? = some x → ys[i]? = some y → ∀ (j : Nat) (a b : V), x.cells[j]? = some a → y.cells[j]? = some b → b.leaf = true ∧ b.pl = true)
   (hr : ∀ (i : Nat) (x y : V), xs[i]? = some x → ys[i]? = some y → ∀ (j : Nat) (a b : V), x.cells[j]? = some a → y.cells[j]? = some b → Frz n st a b) : Frz n st (.own b L lo m) (.lst false ((ys.drop lo).take m))
 | agg (l r : List V) (hn : r.length = l.length) (hr : ∀ (i : Nat) (a b : V), l[i]? = some a → r[i]? = some b → Frz n st a b) : Frz n st (.agg l) (.agg r)
 | tup (l r : List V) (hn : r.length = l.length) (hr : ∀ (i : Nat) (a b : V), l[i]? = some a → r[i]? = some b → Frz n st a b) : Frz n st (.tup l) (.tup r)
theorem V.leaf_pure {y : V} (h : y.pl = true) (n : Nat) : y.low n = true := by cases y <;> first | rfl | cases h
theorem Frz.row {n : Nat} {st : St} (b L lo m t k : Nat) (xs : List V) (hb : n ≤ b) (hst : st[b]? = some (.row t k xs)) (hL : xs.length = L) (hp : ∀ x ∈ xs, ∀ y ∈ x.cells, y.leaf = true ∧ y.pl = true) : Frz n st (.own b L lo m) (.lst false ((xs.drop lo).take m)) := by
 refine .own b L lo m t k xs xs hb hst hL rfl (fun i x y hx hy => ?_) (fun i x y hx hy j a c ha hc => ?_) (fun i x y hx hy j a c ha hc => ?_)
 ·rw [hx] at hy; cases hy; rfl
 ·exact hp y (List.mem_of_getElem? hy) c (List.mem_of_getElem? hc)
 ·rw [hx] at hy; cases hy; rw [ha] at hc; cases hc
  exact .same _ (V.leaf_pure (hp x (List.mem_of_getElem? hx) a (List.mem_of_getElem? ha)).2 n)
def LowSt (st0 st : St) : Prop := ∀ b : Nat, b < st0.length → st[b]? = st0[b]? ∨ ∀ (t k : Nat) (xs : List V), st[b]? = some (.row t k xs) → ∀ x ∈ xs, ∀ y ∈ x.cells, y.low st0.length = true
theorem LowSt.same {st0 st : St} (h : st.take st0.length = st0) : LowSt st0 st := fun b hb => Or.inl (by
 have : (st.take st0.length)[b]? = st0[b]? := by rw [h]
 rwa [List.getElem?_take_of_lt hb] at this)
def Env.froze (E : Env) (n : Nat) (st : St) : Env := ⟨E.φ, E.κ, fun g => E.Z g ∨ ∃ b t k xs, n ≤ b ∧ st[b]? = some (.row t k xs) ∧ 0 < E.κ b ∧ E.φ b = g⟩
section
variable {B : Nat} {w0 : World} {E E0 : Env} {st st0 : St} {w w' : World} {M : Nat → Nat → Bool}
theorem froze_pure {n : Nat} {v : V} {u : Value} (h : PRel E.Z w v u) : PRel (E.froze n st).Z w v u := h.mono (fun _ hb => Or.inl hb) (fun _ _ _ h => h)
theorem Rel.trunc_low {n : Nat} {v : V} {u : Value} (h : Rel E st w v u) (hn : n ≤ st.length) (hv : v.low n = true) : Rel (E.froze n st) (st.take n) w v u := by
 cases h with
 | any => cases hv
 | pure h => exact .pure (froze_pure h)
 | agg => cases hv
 | tup => cases hv
 | fn => cases hv
 | met => cases hv
 | mp b u hb h1 h =>
  have hlt : b < n := Nat.le_of_ble_eq_true hv
  refine .mp b u (by rw [List.length_take]; omega) h1 fun es hx => h es ?_
  rwa [List.getElem?_take_of_lt hlt] at hx
 | ptr b L i j u hb h1 h =>
  have hlt : b < n := Nat.le_of_ble_eq_true hv
  refine .ptr b L i j u (by rw [List.length_take]; omega) h1 fun t k xs hx => h t k xs ?_
  rwa [List.getElem?_take_of_lt hlt] at hx
 | own b L lo m u hb h1 h =>
  have hlt : b < n := Nat.le_of_ble_eq_true hv
  refine .own b L lo m u (by rw [List.length_take]; omega) h1 fun t k xs hx => h t k xs ?_
  rwa [List.getElem?_take_of_lt hlt] at hx
theorem Rel.trunc_old {n : Nat} {v : V} {u : Value} (h : Rel E st w v u) (hn : n = st0.length) (hn' : n ≤ st.length) : ∀ {u0 : Value} {wx : World}, Rel E0 st0 wx v u0 → Rel (E.froze n st) (st.take n) w v u := by
 induction h with
 | any u => intro u0 wx _; exact .any u
 | pure h => intro u0 wx _; exact .pure (froze_pure h)
 | agg l us hl _ ih =>
  intro u0 wx k
  cases k with
  | pure k => cases k
  | agg _ us0 hl0 hr0 =>
   refine .agg l us hl fun i y u hy hu => ?_
   have hi : i < us0.length := by rw [hl0]; exact (List.getElem?_eq_some_iff.1 hy).1
   exact ih i y u hy hu (hr0 i y us0[i] hy (List.getElem?_eq_getElem hi))
 | tup l us hl _ ih =>
  intro u0 wx k
  cases k with
  | pure k => cases k
  | tup _ us0 hl0 hr0 =>
   refine .tup l us hl fun i y u hy hu => ?_
   have hi : i < us0.length := by rw [hl0]; exact (List.getElem?_eq_some_iff.1 hy).1
   exact ih i y u hy hu (hr0 i y us0[i] hy (List.getElem?_eq_getElem hi))
 | fn f l us hl _ ih =>
  intro u0 wx k
  cases k with
  | pure k => cases k
  | fn _ _ us0 hl0 hr0 =>
   refine .fn f l us hl fun i y u hy hu => ?_
   have hi : i < us0.length := by rw [hl0]; exact (List.getElem?_eq_some_iff.1 hy).1
   exact ih i y u hy hu (hr0 i y us0[i] hy (List.getElem?_eq_getElem hi))
 | met f l us hl _ ih =>
  intro u0 wx k
  cases k with
  | pure k => cases k
  | met _ _ us0 hl0 hr0 =>
   refine .met f l us hl fun i y u hy hu => ?_
   have hi : i < us0.length := by rw [hl0]; exact (List.getElem?_eq_some_iff.1 hy).1
   exact ih i y u hy hu (hr0 i y us0[i] hy (List.getElem?_eq_getElem hi))
 | mp b u hb h1 h =>
  intro u0 wx k
  have hb0 : b < n := by
   cases k with
   | pure k => cases k
   | mp _ _ hb0 => omega
  refine .mp b u (by rw [List.length_take]; omega) h1 fun es hx => h es ?_
  rwa [List.getElem?_take_of_lt hb0] at hx
 | ptr b L i j u hb h1 h =>
  intro u0 wx k
  have hb0 : b < n := by
   cases k with
   | pure k => cases k
   | ptr _ _ _ _ _ hb0 => omega
  refine .ptr b L i j u (by rw [List.length_take]; omega) h1 fun t k xs hx => h t k xs ?_
  rwa [List.getElem?_take_of_lt hb0] at hx
 | own b L lo m u hb h1 h =>
  intro u0 wx k
  have hb0 : b < n := by
   cases k with
   | pure k => cases k
   | own _ _ _ _ _ hb0 => omega
  refine .own b L lo m u (by rw [List.length_take]; omega) h1 fun t k xs hx => h t k xs ?_
  rwa [List.getElem?_take_of_lt hb0] at hx
theorem Rel.frz {n : Nat} (hrep : Rep B w0 E st w) (hn : n ≤ st.length) {v v' : V} (hf : Frz n st v v') : ∀ {u : Value}, Rel E st w v u → Rel (E.froze n st) (st.take n) w v' u := by
 induction hf with
 | same v hv => intro u h; exact h.trunc_low hn hv
 | cell v hv => intro u h; exact .pure (.cell u (h.one hv))
 | wk v a b _ h2 ih => intro u h; exact (ih h).wk h2
 | ptr b L i j t k xs x y hb hst hL hx hc hf _ ih =>
  intro u h
  cases h with
  | pure h => cases h
  | ptr _ _ _ _ _ hbl h1 h =>
   obtain ⟨g1, g2⟩ := h t k xs hst
   obtain ⟨e1, e2, rfl⟩ := g2 hL.symm
   obtain ⟨⟨k0, k1, k2, k3, k4⟩, k5⟩ := hrep.ok b t k xs hst
   obtain ⟨f1, cur, f2, f3, f4⟩ := k4 e2
   refine .pure (.cref y j (E.φ b) (i * k) (fun q => (cur[i * k + q]?).getD undef) (Or.inr ⟨b, t, k, xs, hb, hst, e2, rfl⟩) (fun q a ha => ?_) (fun q a ha => ?_) (fun q a ha => ?_))
   ·have hj : q < x.cells.length := by rw [hc]; exact (List.getElem?_eq_some_iff.1 ha).1
    exact (hf q _ a (List.getElem?_eq_getElem hj) ha).1
   ·have hj : q < x.cells.length := by rw [hc]; exact (List.getElem?_eq_some_iff.1 ha).1
    obtain ⟨u, q1, q2⟩ := f4 i x hx q _ (List.getElem?_eq_getElem hj)
    rw [cell_of_row w _ _ _ _ _ f2, q1]
    rfl
   ·have hj : q < x.cells.length := by rw [hc]; exact (List.getElem?_eq_some_iff.1 ha).1
    obtain ⟨u, q1, q2⟩ := f4 i x hx q _ (List.getElem?_eq_getElem hj)
    have := ih q _ a (List.getElem?_eq_getElem hj) ha q2
    simp only [q1, Option.getD_some]
    exact this.plain (hf q _ a (List.getElem?_eq_getElem hj) ha).2
 | agg l r hl _ ih =>
  intro u h
  cases h with
  | pure h => cases h
  | agg _ us hus hr =>
   refine .agg r us (by omega) fun i y u hy hu => ?_
   have hi : i < l.length := by rw [← hl]; exact (List.getElem?_eq_some_iff.1 hy).1
   exact ih i _ y (List.getElem?_eq_getElem hi) hy (hr i _ u (List.getElem?_eq_getElem hi) hu)
 | tup l r hl _ ih =>
  intro u h
  cases h with
  | pure h => cases h
  | tup _ us hus hr =>
   refine .tup r us (by omega) fun i y u hy hu => ?_
   have hi : i < l.length := by rw [← hl]; exact (List.getElem?_eq_some_iff.1 hy).1
   exact ih i _ y (List.getElem?_eq_getElem hi) hy (hr i _ u (List.getElem?_eq_getElem hi) hu)
 | own b L lo m t k xs ys hb hst hL hy hc hf _ ih =>
  intro u h
  cases h with
  | pure h => cases h
  | own _ _ _ _ _ hbl h1 h =>
   obtain ⟨g1, g2⟩ := h t k xs hst
   obtain ⟨e1, A, rfl, e2⟩ := g2 hL.symm
   obtain ⟨⟨k0, k1, k2, k3, k4⟩, k5⟩ := hrep.ok b t k xs hst
   refine .pure ?_
   by_cases hm : m = 0
   ·subst hm
    simp only [List.take_zero]
    exact .nil _ _ _ ⟨fun h => (by cases h), by omega⟩
   ·have hκ : 0 < E.κ b - lo := by omega
    obtain rfl := e2 hκ
    obtain ⟨f1, cur, f2, f3, f4⟩ := k4 (by omega)
    have hlen : ((ys.drop lo).take m).length = m := by rw [List.length_take, List.length_drop]; omega
    have hel : ∀ i y, ((ys.drop lo).take m)[i]? = some y → ys[lo + i]? = some y := fun i y hi => by
     rw [List.getElem?_take] at hi
     split at hi
     ·rwa [List.getElem?_drop] at hi
     ·cases hi
    have hex : ∀ i y, ys[i]? = some y → ∃ x, xs[i]? = some x := fun i y hi => by
     have : i < xs.length := by rw [← hy]; exact (List.getElem?_eq_some_iff.1 hi).1
     exact ⟨_, List.getElem?_eq_getElem this⟩
    refine .lst false _ ⟨E.φ b, lo * k, none⟩ m (E.κ b - lo) k (fun i j => (cur[(lo + i) * k + j]?).getD undef) hlen (by omega) (fun h => by cases h) rfl (Or.inr ⟨b, t, k, xs, hb, hst, by omega, rfl⟩) (fun i y hi => ?_) (fun i y hi j a ha => ?_) (fun i y hi j a ha => ?_) (fun i y hi j a ha => ?_)
    ·obtain ⟨x, hx⟩ := hex _ _ (hel i y hi)
     rw [← hc _ x y hx (hel i y hi)]
     exact (k3 _ x hx).1
    ·obtain ⟨x, hx⟩ := hex _ _ (hel i y hi)
     have hj : j < x.cells.length := by rw [hc _ x y hx (hel i y hi)]; exact (List.getElem?_eq_some_iff.1 ha).1
     exact (hf _ x y hx (hel i y hi) j _ a (List.getElem?_eq_getElem hj) ha).1
    ·obtain ⟨x, hx⟩ := hex _ _ (hel i y hi)
     have hj : j < x.cells.length := by rw [hc _ x y hx (hel i y hi)]; exact (List.getElem?_eq_some_iff.1 ha).1
     obtain ⟨u, q1, q2⟩ := f4 _ x hx j _ (List.getElem?_eq_getElem hj)
     rw [cell_of_row w _ _ _ _ _ f2]
     rw [show lo * k + (i * k + j) = (lo + i) * k + j by rw [Nat.add_mul]; omega, q1]
     rfl
    ·obtain ⟨x, hx⟩ := hex _ _ (hel i y hi)
     have hj : j < x.cells.length := by rw [hc _ x y hx (hel i y hi)]; exact (List.getElem?_eq_some_iff.1 ha).1
     obtain ⟨u, q1, q2⟩ := f4 _ x hx j _ (List.getElem?_eq_getElem hj)
     have := ih _ x y hx (hel i y hi) j _ a (List.getElem?_eq_getElem hj) ha q2
     simp only [q1, Option.getD_some]
     exact this.plain (hf _ x y hx (hel i y hi) j _ a (List.getElem?_eq_getElem hj) ha).2
theorem Rep.trunc (h0 : Rep B w0 E0 st0 w) (h : Rep B w0 E st w') (hs : Stp M E0 st0 w E st w') (hl : LowSt st0 st) :
  Rep B w0 (E.froze st0.length st) (st.take st0.length) w' ∧ Stp M E0 st0 w (E.froze st0.length st) (st.take st0.length) w' := by
 have hlen : (st.take st0.length).length = st0.length := by rw [List.length_take]; have := hs.len; omega
 have hget : ∀ b t k xs, (st.take st0.length)[b]? = some (.row t k xs) → b < st0.length ∧ st[b]? = some (.row t k xs) := fun b t k xs hx => by
  rw [List.getElem?_take] at hx
  split at hx
  ·exact ⟨by assumption, hx⟩
  ·cases hx
 have hgm : ∀ b es, (st.take st0.length)[b]? = some (.map es) → b < st0.length ∧ st[b]? = some (.map es) := fun b es hx => by
  rw [List.getElem?_take] at hx
  split at hx
  ·exact ⟨by assumption, hx⟩
  ·cases hx
 refine ⟨⟨h.base, h.below, fun g hg => ?_, fun b t k xs hx => ?_, fun a b t k xs t' k' xs' ha hb => h.inj a b t k xs t' k' xs' (hget a t k xs ha).2 (hget b t' k' xs' hb).2, fun b es hb => ?_, fun a b es es' ha hb => h.minj a b es es' (hgm a es ha).2 (hgm b es' hb).2⟩, ⟨⟨by omega, fun g hg => Or.inl (hs.z g hg), hs.cell, fun b t k xs' hb hx => ?_, fun b es hb hx => ?_⟩, fun b t k xs hx hk => ?_, hs.phys, hs.size⟩⟩
 ·rcases hg with hg | ⟨b, t, k, xs, -, hb, hk, rfl⟩
  ·exact h.zlt g hg
  ·exact h.mem hb hk
 ·obtain ⟨hlt, hx⟩ := hget b t k xs hx
  obtain ⟨⟨k0, k1, k2, k3, k4⟩, k5⟩ := h.ok b t k xs hx
  refine ⟨⟨k0, k1, k2, k3, fun hk => ?_⟩, k5⟩
  obtain ⟨g1, cur, g2, g3, g4⟩ := k4 hk
  refine ⟨fun hz => ?_, cur, g2, g3, fun i x hi j y hy => ?_⟩
  ·rcases hz with hz | ⟨b', t', k', xs', hb', hx', hk', e⟩
   ·exact g1 hz
   ·have := h.inj _ _ _ _ _ _ _ _ hx' hx hk' hk e; omega
  ·obtain ⟨u, f1, f2⟩ := g4 i x hi j y hy
   refine ⟨u, f1, ?_⟩
   rcases hl b hlt with e | e
   ·rw [hx] at e
    obtain ⟨⟨-, -, -, -, q4⟩, -⟩ := h0.ok b t k xs e.symm
    obtain ⟨-, -, -, o1⟩ := hs.blk b t k xs hlt hx
    by_cases hk0 : 0 < E0.κ b
    ·obtain ⟨-, cur0, -, -, p4⟩ := q4 hk0
     obtain ⟨u0, -, f3⟩ := p4 i x hi j y hy
     exact f2.trunc_old rfl hs.len f3
    ·exfalso
     have hx0 : xs.length ≤ E0.κ b := (h0.ok b t k xs e.symm).1.2.2.1
     have : i < xs.length := (List.getElem?_eq_some_iff.1 hi).1
     omega
   ·exact f2.trunc_low hs.len (e t k xs hx x (List.mem_of_getElem? hi) y (List.mem_of_getElem? hy))
 ·obtain ⟨hlt, hx⟩ := hgm b es hb
  obtain ⟨g1, g2⟩ := h.maps b es hx
  exact ⟨g1, g2.mono (fun _ hb => Or.inl hb) (fun _ _ _ h => h) rfl⟩
 ·obtain ⟨hlt, hx⟩ := hget b t k xs' hx
  exact hs.blk b t k xs' hb hx
 ·exact hs.mblk b es hb (hgm b es hx).2
 ·exact hs.far b t k xs (hget b t k xs hx).2 hk
end
end Go.Proofs.YtkcdgaijklhnaaaGreatDoor.Vm
namespace Go.Proofs.YtkcdgaijklhnaaaGreatDoor.Vm
open Go.RowKit
inductive Od where
 | t (n : Nat)
 | c (v : V)
 | g (n : Nat)
structure Fr where
 g : Nat → V
 df : List (Nat × List V)
def nval : Value → V
 | .slice none 0 0 => .lst true []
 | v => .val v
def cval : Value → V
 | .agg cs => .agg (cs.toList.map nval)
 | .func (.func f) first caps => cond (first.isEmpty && caps.isEmpty) (.fn f []) (.val (.func (.func f) first caps))
 | v => nval v
def cOd : Operand → Od
 | .tmp n => .t n
 | .const v => .c (cval v)
 | .global g => .g g
 | .func f => .c (.fn f [])
structure Tbl where
 t : Nat → Option V
 pin : Nat → World → Prop
def Od.ev (T : Tbl) (fr : Fr) : Od → Option V
 | .t n => some (fr.g n)
 | .c v => some v
 | .g n => match T.t n with
  | some x => some (.cref x 0)
  | none => none
theorem nval_ok (Z : Nat → Prop) (w : World) (v : Value) : PRel Z w (nval v) v := by
 unfold nval
 split
 ·exact .nil _ _ _ ⟨fun _ => rfl, Nat.zero_le _⟩
 ·exact .val _
theorem cval_ok (E : Env) (st : St) (w : World) (v : Value) : Rel E st w (cval v) v := by
 unfold cval
 split
 ·rename_i cs
  have := Rel.agg (E := E) (st := st) (w := w) (cs.toList.map nval) cs.toList (by simp) fun i y u hy hu => by
   rw [List.getElem?_map, hu] at hy
   cases hy
   exact .pure (nval_ok _ _ _)
  simpa using this
 ·rename_i f first caps
  cases h : (first.isEmpty && caps.isEmpty) with
  | true =>
   simp only [Bool.and_eq_true, Array.isEmpty_iff] at h
   rw [h.1, h.2]
   exact .fn f [] [] rfl fun i y u hy => by simp at hy
  | false => exact .pure (.val _)
 ·exact .pure (nval_ok _ _ _)
def TblOk (T : Tbl) (B : Nat) (w0 : World) (E : Env) (w : World) : Prop := (∀ g x, T.t g = some x → PRel E.Z w (.cref x 0) (.pointer (some ⟨g, 0, none⟩))) ∧ T.pin B w0
theorem TblOk.mono {T : Tbl} {B : Nat} {w0 : World} {E E' : Env} {st st' : St} {w w' : World} (h : TblOk T B w0 E w) (hE : Ext E st w E' st' w') : TblOk T B w0 E' w' := ⟨fun g x hx => (h.1 g x hx).mono hE.z hE.cell, h.2⟩
def DefOk (E : Env) (st : St) (w : World) (d : Nat × List V) (x : Deferred) : Prop := ∃ us : List Value, x = { target := .fn (.func d.1) us.toArray, args := #[] } ∧ us.length = d.2.length ∧ ∀ (i : Nat) (y : V) (u : Value), d.2[i]? = some y → us[i]? = some u → Rel E st w y u
structure FrOk (nt : Nat) (E : Env) (st : St) (w : World) (fr : Fr) (a : Act) : Prop where
 size : a.tmps.size = nt
 tm : ∀ t, Rel E st w (fr.g t) (a.tmps.getD t undef)
 dl : a.defers.length = fr.df.length
 df : ∀ (i : Nat) (d : Nat × List V) (x : Deferred), fr.df[i]? = some d → a.defers[i]? = some x → DefOk E st w d x
theorem FrOk.mono {nt : Nat} {E E' : Env} {st st' : St} {w w' : World} {fr : Fr} {a : Act} (h : FrOk nt E st w fr a) (hE : Ext E st w E' st' w') : FrOk nt E' st' w' fr a :=
 ⟨h.size, fun t => (h.tm t).mono hE, h.dl, fun i d x hd hx => by
  obtain ⟨us, h1, h2, h3⟩ := h.df i d x hd hx
  exact ⟨us, h1, h2, fun i y u hy hu => (h3 i y u hy hu).mono hE⟩⟩
theorem ev_ok {T : Tbl} {B : Nat} {w0 : World} {nt : Nat} {E : Env} {st : St} {w : World} {fr : Fr} {a : Act} (hT : TblOk T B w0 E w) (h : FrOk nt E st w fr a) {x : Operand} {v : V} (hx : (cOd x).ev T fr = some v) : Rel E st w v (a.eval x) := by
 cases x with
 | tmp n => simp only [cOd, Od.ev, Option.some.injEq] at hx; subst hx; exact h.tm n
 | const c => simp only [cOd, Od.ev, Option.some.injEq] at hx; subst hx; exact cval_ok _ _ _ _
 | func f => simp only [cOd, Od.ev, Option.some.injEq] at hx; subst hx; exact .fn f [] [] rfl fun i y u hy => by simp at hy
 | global g =>
  simp only [cOd, Od.ev] at hx
  split at hx
  ·rename_i x hg
   cases hx
   exact .pure (hT.1 g x hg)
  ·cases hx
def Fr.put (fr : Fr) (d : Option Nat) (v : V) : Fr := match d with
 | none => fr
 | some d => { fr with g := fun t => if t = d then v else fr.g t }
theorem FrOk.put {nt : Nat} {E : Env} {st : St} {w : World} {fr : Fr} {a : Act} (h : FrOk nt E st w fr a) {d : Option Nat} (hd : ∀ x, d = some x → x < nt) {v : V} {u : Value} (hv : Rel E st w v u) : FrOk nt E st w (fr.put d v) (a.put d u) := by
 cases d with
 | none => exact h
 | some d =>
  have hlt := hd d rfl
  refine ⟨by simp [Act.put, h.size], fun t => ?_, h.dl, h.df⟩
  simp only [Fr.put, Act.put]
  by_cases ht : t = d
  ·subst ht
   rw [if_pos rfl, Array.getD_eq_getD_getElem?, Array.getElem?_setIfInBounds_self_of_lt (by rw [h.size]; exact hlt)]
   exact hv
  ·rw [if_neg ht, Array.getD_eq_getD_getElem?, Array.getElem?_setIfInBounds_ne (Ne.symm ht), ← Array.getD_eq_getD_getElem?]
   exact h.tm t
def Fr.mask (fr : Fr) (D : List Nat) : Fr := ⟨fun t => if t ∈ D then .any else fr.g t, []⟩
inductive MOp where
 | mv (x : Od)
 | nilck (x : Od)
 | pick (c a b : Od)
 | bin (op : BinOp) (x y : Od)
 | beq (neg : Bool) (x y : Od)
 | snil (neg : Bool) (x : Od)
 | bad
 | un (op : UnOp) (x : Od)
 | conv (k : IntKind) (x : Od)
 | same (x : Od)
 | load (row : Bool) (n : Nat) (x : Od)
 | fadr (off : Nat) (x : Od)
 | iadr (k : Nat) (x i : Od)
 | aadr (len k : Nat) (x i : Od)
 | fld (row : Bool) (off n : Nat) (x : Od)
 | aidx (row : Bool) (len k : Nat) (x i : Od)
 | sidx (x i : Od)
 | ext (x : Od) (i : Nat)
 | mkfn (f : Nat) (caps : List Od)
 | mkmet (f : Nat) (first : List Od)
 | mkif (t : Nat) (x : Od)
 | tas (t : Nat) (x : Od)
 | inil (neg : Bool) (x : Od)
 | bld (zs : List V) (parts : List (Nat × Nat × Od))
 | sl (k : Nat) (x : Od) (lo hi : Option Od)
 | slf (k : Nat) (x : Od) (lo : Option Od) (hi mx : Od)
 | ssl (x : Od) (lo hi : Option Od)
 | len (x : Od)
 | cap (x : Od)
 | slen (x : Od)
 | mm (big : Bool) (xs : List Od)
 -- operations that change something
 | store (n : Nat) (x v : Od)
 | alloc (t : Nat) (z : V)
 | box (t : Nat) (x : Od)
 | bsl (t k len : Nat) (z : V) (parts : List (Nat × Od))
 | flit (k : Nat) (v : V)
 | emp
 | mksl (t k bytes : Nat) (z : V) (x y : Od)
 | app (t k bytes : Nat) (s x : Od)
 | apz (t k bytes : Nat) (z : V) (s x : Od)
 | copy (t k : Nat) (d s : Od)
 | mkmap
 | mlk (kd : TypeDesc) (z : V) (ok : Bool) (x i : Od)
 | mup (kd : TypeDesc) (x k v : Od)
 | call (f : Nat) (args : List Od)
 | callv (f : Od) (args : List Od)
 | dfr (f : Od)
 | pan (x : Od)
def evs (T : Tbl) (fr : Fr) : List Od → Option (List V)
 | [] => some []
 | x :: l => match x.ev T fr, evs T fr l with
  | some v, some r => some (v :: r)
  | _, _ => none
def intV (op : BinOp) (k : IntKind) (a : Int) (k' : IntKind) (b : Int) : Option V :=
 match op with
 | .shl => if 0 ≤ b then some (.val (.int k (k.wrap (a * 2 ^ (min b.toNat k.bits))))) else none
 | .shr => if 0 ≤ b then some (.val (.int k (a.fdiv (2 ^ (min b.toNat k.bits))))) else none
 | .add => if k = k' then some (.val (.int k (k.wrap (a + b)))) else none
 | .sub => if k = k' then some (.val (.int k (k.wrap (a - b)))) else none
 | .mul => if k = k' then some (.val (.int k (k.wrap (a * b)))) else none
 | .quo => if k = k' ∧ b ≠ 0 then some (.val (.int k (k.wrap (a.tdiv b)))) else none
 | .rem => if k = k' ∧ b ≠ 0 then some (.val (.int k (a.tmod b))) else none
 | .and => if k = k' then some (.val (.int k (k.wrap (BitVec.ofInt k.bits a &&& BitVec.ofInt k.bits b).toNat))) else none
 | .or => if k = k' then some (.val (.int k (k.wrap (BitVec.ofInt k.bits a ||| BitVec.ofInt k.bits b).toNat))) else none
 | .xor => if k = k' then some (.val (.int k (k.wrap (BitVec.ofInt k.bits a ^^^ BitVec.ofInt k.bits b).toNat))) else none
 | .andNot => if k = k' then some (.val (.int k (k.wrap (BitVec.ofInt k.bits a &&& ~~~BitVec.ofInt k.bits b).toNat))) else none
 | .eql => if k = k' then some (.val (.bool (a == b))) else none
 | .neq => if k = k' then some (.val (.bool (a != b))) else none
 | .lss => if k = k' then some (.val (.bool (decide (a < b)))) else none
 | .leq => if k = k' then some (.val (.bool (decide (a ≤ b)))) else none
 | .gtr => if k = k' then some (.val (.bool (decide (a > b)))) else none
 | .geq => if k = k' then some (.val (.bool (decide (a ≥ b)))) else none
def strV (op : BinOp) (a b : ByteArray) : Option V :=
 match op with
 | .add => if ((a.size + b.size : Nat) : Int) ≤ 9223372036854775807 then some (.val (.string (a ++ b))) else none
 | .eql => some (.val (.bool (a.toList == b.toList)))
 | .neq => some (.val (.bool (!(a.toList == b.toList))))
 | .lss => some (.val (.bool (Op.bytesLess a.toList b.toList)))
 | .leq => some (.val (.bool (Op.bytesLess a.toList b.toList || a.toList == b.toList)))
 | .gtr => some (.val (.bool (!(Op.bytesLess a.toList b.toList || a.toList == b.toList))))
 | .geq => some (.val (.bool (!Op.bytesLess a.toList b.toList)))
 | _ => none
def binV (op : BinOp) : V → V → Option V
 | .val (.int k a), .val (.int k' b) => intV op k a k' b
 | .val (.string a), .val (.string b) => strV op a b
 | _, _ => none
def unV (op : UnOp) : V → Option V
 | .val (.int k a) => match op with
  | .neg => some (.val (.int k (k.wrap (0 - a))))
  | .xor => some (.val (.int k (k.wrap (BitVec.ofInt k.bits (if k.signed then -1 else k.max) ^^^ BitVec.ofInt k.bits a).toNat)))
  | _ => none
 | .val (.bool b) => match op with
  | .not => some (.val (.bool !b))
  | _ => none
 | _ => none
def part (row : Bool) (n : Nat) (x : V) (j : Nat) : Option V :=
 match row with
 | true => if j + n ≤ x.cells.length then some (.agg ((x.cells.drop j).take n)) else none
 | false => x.cells[j]?
def rdOk (rd : Nat → Nat → Bool) (b : Nat) : Nat → Nat → Bool
 | _, 0 => true
 | j, n + 1 => rd b j && rdOk rd b (j + 1) n
def mLoad (rd : Nat → Nat → Bool) (row : Bool) (n : Nat) (st : St) : V → Option V
 | .cref x j => part row n x j
 | .ptr b L i j => if rdOk rd b j (cond row n 1) = true then (match st[b]? with
  | some (.row _ _ xs) => if xs.length = L then (match xs[i]? with
   | some x => part row n x j
   | none => none) else none
  | _ => none) else none
 | _ => none
def live (st : St) : V → Bool
 | .cref _ _ => true
 | .fn _ _ => true
 | .ptr b L _ _ => match st[b]? with
  | some (.row _ _ xs) => decide (xs.length = L)
  | _ => false
 | _ => false
def shift (o : Nat) : V → Option V
 | .cref x j => some (.cref x (j + o))
 | .ptr b L i j => some (.ptr b L i (j + o))
 | _ => none
def elemAt (k : Nat) (st : St) (n : Int) : V → Option V
 | .lst _ xs => if 0 ≤ n then (match xs[n.toNat]? with
  | some x => if x.cells.length = k then some (.cref x 0) else none
  | none => none) else none
 | .own b L lo m => match st[b]? with
  | some (.row _ k' xs) => if xs.length = L ∧ k' = k ∧ 0 ≤ n ∧ n < m then some (.ptr b L (lo + n.toNat) 0) else none
  | _ => none
 | _ => none
def lenV (st : St) : V → Option V
 | .lst _ xs => some (.val (.int .i64 (xs.length : Int)))
 | .own b L _ n => match st[b]? with
  | some (.row _ _ xs) => if xs.length = L then some (.val (.int .i64 (n : Int))) else none
  | _ => none
 | _ => none
def capV : V → Option V
 | .lst true xs => some (.val (.int .i64 (xs.length : Int)))
 | _ => none
def winV (k : Nat) (st : St) (l h : Nat) : V → Option V
 | .lst f xs => if l ≤ h ∧ h ≤ xs.length ∧ (∀ x ∈ xs, x.cells.length = k) then some (.lst (f && decide (h = xs.length)) ((xs.drop l).take (h - l))) else none
 | .own b L lo n => match st[b]? with
  | some (.row _ k' xs) => if xs.length = L ∧ k' = k ∧ l ≤ h ∧ h ≤ n then some (.own b L (lo + l) (h - l)) else none
  | _ => none
 | _ => none
def natV : V → Option Nat
 | .val (.int _ n) => if 0 ≤ n then some n.toNat else none
 | _ => none
def lenN : V → Option Nat
 | .lst _ xs => some xs.length
 | .own _ _ _ n => some n
 | _ => none
end Go.Proofs.YtkcdgaijklhnaaaGreatDoor.Vm
namespace Go.Proofs.YtkcdgaijklhnaaaGreatDoor.Vm
open Go.RowKit
def Pw (E : Env) (st : St) (w : World) (l : List V) (us : List Value) : Prop := us.length = l.length ∧ ∀ (i : Nat) (y : V) (u : Value), l[i]? = some y → us[i]? = some u → Rel E st w y u
structure Agree (rd : Nat → Nat → Bool) (E : Env) (st : St) (w w' : World) : Prop where
 z : ∀ (p : Addr) u, E.Z p.block → w.cell? p = some u → w'.cell? p = some u
 r : ∀ (b t k : Nat) (xs : List V), st[b]? = some (.row t k xs) → 0 < E.κ b → ∀ p : Addr, p.block = E.φ b → rd b (p.off % k) = true → w'.cell? p = w.cell? p
theorem Agree.refl (rd : Nat → Nat → Bool) (E : Env) (st : St) (w : World) : Agree rd E st w w := ⟨fun _ _ _ h => h, fun _ _ _ _ _ _ _ _ _ => rfl⟩
theorem rdOk_get {rd : Nat → Nat → Bool} {b : Nat} : ∀ {n j : Nat}, rdOk rd b j n = true → ∀ q, q < n → rd b (j + q) = true
 | 0, _, _, q, h => by omega
 | n + 1, j, h, q, hq => by
  simp only [rdOk, Bool.and_eq_true] at h
  cases q with
  | zero => exact h.1
  | succ q => have := rdOk_get h.2 q (by omega); rwa [show j + 1 + q = j + (q + 1) by omega] at this
def Rows (E : Env) (st : St) (w : World) : Prop := ∀ (b t k : Nat) (xs : List V), st[b]? = some (.row t k xs) → RowOk E st w b t k xs
def Yld (P : Program) (rd : Nat → Nat → Bool) (E : Env) (st : St) (w : World) (v : V) (m : Sem Value) : Prop := ∃ u, Rel E st w v u ∧ ∀ w', Agree rd E st w w' → m.run P w' = .ok u w'
def V.cok : V → Bool
 | .agg _ => true
 | v => v.leaf
def sizeX (P : Program) (t : Nat) : Option Nat := match P.info? t with | some i => some i.size | none => none
theorem sizeX_ok {P : Program} {t n : Nat} (h : sizeX P t = some n) : ∃ i, P.info? t = some i ∧ i.size = n := by
 unfold sizeX at h
 split at h
 ·rename_i i hi; cases h; exact ⟨i, hi, rfl⟩
 ·cases h
theorem cells_one {v : Value} (h : v.oneCell' = true) : v.cells = #[v] := by cases v <;> first | rfl | cases h
section
variable {P : Program} {rd : Nat → Nat → Bool} {E : Env} {st : St} {w : World}
theorem Pw.nil : Pw E st w [] [] := ⟨rfl, fun i y u h => by simp at h⟩
theorem Pw.cons {y : V} {u : Value} {l : List V} {us : List Value} (h : Rel E st w y u) (k : Pw E st w l us) : Pw E st w (y :: l) (u :: us) := by
 refine ⟨by simp [k.1], fun i y' u' h1 h2 => ?_⟩
 cases i with
 | zero => simp at h1 h2; subst h1 h2; exact h
 | succ i => simp at h1 h2; exact k.2 i y' u' h1 h2
theorem Pw.take {l : List V} {us : List Value} (h : Pw E st w l us) (n : Nat) : Pw E st w (l.take n) (us.take n) :=
 ⟨by simp [h.1], fun i y u h1 h2 => by
  rw [List.getElem?_take] at h1 h2
  split at h1
  ·rw [if_pos (by assumption)] at h2; exact h.2 i y u h1 h2
  ·cases h1⟩
theorem Pw.drop {l : List V} {us : List Value} (h : Pw E st w l us) (n : Nat) : Pw E st w (l.drop n) (us.drop n) :=
 ⟨by simp [h.1], fun i y u h1 h2 => by rw [List.getElem?_drop] at h1 h2; exact h.2 _ y u h1 h2⟩
theorem Pw.append {l m : List V} {us vs : List Value} (h : Pw E st w l us) (k : Pw E st w m vs) : Pw E st w (l ++ m) (us ++ vs) := by
 refine ⟨by simp [h.1, k.1], fun i y u h1 h2 => ?_⟩
 rw [List.getElem?_append] at h1 h2
 rw [h.1] at h2
 split at h1
 ·rw [if_pos (by assumption)] at h2; exact h.2 i y u h1 h2
 ·rw [if_neg (by assumption)] at h2; exact k.2 _ y u h1 h2
theorem Pw.nvals (l : List Value) : Pw E st w (l.map nval) l := ⟨by simp, fun i y u h1 h2 => by
 rw [List.getElem?_map, h2] at h1; cases h1; exact .pure (nval_ok _ _ _)⟩
theorem Rel.tocells {v : V} {u : Value} (h : Rel E st w v u) (hc : v.cok = true) : ∃ us : List Value, u.cells = us.toArray ∧ Pw E st w v.cells us := by
 have one : ∀ {v : V} {u : Value}, Rel E st w v u → v.leaf = true → v.cells = [v] → ∃ us : List Value, u.cells = us.toArray ∧ Pw E st w v.cells us := fun {v u} h hl hv => ⟨[u], cells_one (h.one hl), by rw [hv]; exact Pw.cons h Pw.nil⟩
 cases v with
 | agg l =>
  cases h with
  | pure h => cases h
  | agg _ us hn hr => exact ⟨us, rfl, hn, hr⟩
 | _ => exact one h hc rfl
theorem load_cells {t d n} {row : Bool} (hd : P.underlying t = some d) (hn : sizeX P t = some n) (hrow : d.isRow = row) {x v : V} {j : Nat} {us : Nat → Value} (hp : part row n x j = some v)
  (hr : ∀ (i : Nat) (y : V), x.cells[i]? = some y → Rel E st w y (us i)) (g o : Nat) :
  ∃ u, Rel E st w v u ∧ ∀ w' : World, (∀ (i : Nat) (y : V), j ≤ i → i < j + cond row n 1 → x.cells[i]? = some y → w'.cell? ⟨g, o + i, none⟩ = some (us i)) → (Instr.loadAt t (.pointer (some ⟨g, o + j, none⟩))).run P w' = .ok u w' := by
 obtain ⟨i, hi, rfl⟩ := sizeX_ok hn
 cases row with
 | true =>
  simp only [part] at hp
  split at hp
  ·rename_i hle
   cases hp
   refine ⟨.agg ((List.range i.size).map fun q => us (j + q)).toArray, .agg _ _ (by simp; omega) fun q y u hy hu => ?_, fun w' hw => ?_⟩
   ·rw [List.getElem?_take] at hy
    split at hy
    ·rename_i hq
     rw [List.getElem?_drop] at hy
     rw [List.getElem?_map, List.getElem?_range hq] at hu
     cases hu
     exact hr _ y hy
    ·cases hy
   ·refine run_loadAt_mid (P := P) w' g (o + j) t _ d (fun q u hu => ?_) hd hrow (by simp [hi])
    rw [List.getElem?_map] at hu
    have hq : q < i.size := by
     apply Nat.lt_of_not_le
     intro hge
     rw [List.getElem?_eq_none (by simpa using hge)] at hu
     cases hu
    rw [List.getElem?_range hq] at hu
    cases hu
    have hlt : j + q < x.cells.length := by omega
    have := hw (j + q) _ (by omega) (by simp only [cond]; omega) (List.getElem?_eq_getElem hlt)
    rw [Nat.add_assoc]
    exact this
  ·cases hp
 | false =>
  simp only [part] at hp
  refine ⟨us j, hr j v hp, fun w' hw => ?_⟩
  have hagg : (isAgg t).run P w' = .ok false w' := by
   unfold isAgg; rw [Sem.run_bind, run_underlying hd w']; cases d <;> simp_all
  have hc := hw j v (Nat.le_refl _) (by simp) hp
  simp [Instr.loadAt, Instr.sureAddr, loadVar, hagg, hc]
theorem mLoad_ok (hR : Rows E st w) {t d n} {row : Bool} (hd : P.underlying t = some d) (hn : sizeX P t = some n) (hrow : d.isRow = row) {p v : V} {up : Value} (hp : Rel E st w p up) (h : mLoad rd row n st p = some v) :
  Yld P rd E st w v (Instr.loadAt t up) := by
 cases p with
 | cref x j =>
  simp only [mLoad] at h
  cases hp with
  | pure hp =>
   cases hp with
   | cref _ _ g o us hZ hl hw hr =>
    obtain ⟨u, h1, h2⟩ := load_cells (E := E) (st := st) (w := w) hd hn hrow (us := us) h (fun i y hy => .pure (hr i y hy)) g o
    exact ⟨u, h1, fun w' hA => h2 w' fun i y _ _ hy => hA.z _ _ hZ (hw i y hy)⟩
 | ptr b L i j =>
  simp only [mLoad] at h
  split at h
  ·rename_i hrd
   split at h
   ·rename_i t' k xs hb
    split at h
    ·rename_i hL
     split at h
     ·rename_i x hx
      cases hp with
      | pure hp => cases hp
      | ptr _ _ _ _ _ hbl h1 hh =>
       obtain ⟨-, g2⟩ := hh t' k xs hb
       obtain ⟨g3, g4, rfl⟩ := g2 hL.symm
       obtain ⟨k0, k1, k2, k3, k4⟩ := hR b t' k xs hb
       obtain ⟨-, cur, f2, f3, f4⟩ := k4 g4
       obtain ⟨u, h1, h2⟩ := load_cells (E := E) (st := st) (w := w) hd hn hrow (us := fun j => (cur[i * k + j]?).getD undef) h (fun q y hy => by
        obtain ⟨u, q1, q2⟩ := f4 i x hx q y hy
        simp only [q1, Option.getD_some]
        exact q2) (E.φ b) (i * k)
       refine ⟨u, h1, fun w' hA => h2 w' fun q y hq1 hq2 hy => ?_⟩
       obtain ⟨u, q1, q2⟩ := f4 i x hx q y hy
       have hqk : q < k := by rw [← (k3 i x hx).1]; exact (List.getElem?_eq_some_iff.1 hy).1
       have hrdq := rdOk_get hrd (q - j) (by omega)
       rw [hA.r b t' k xs hb g4 ⟨E.φ b, i * k + q, none⟩ rfl (by
        simp only []
        rw [Nat.add_comm, Nat.mul_comm, Nat.add_mul_mod_self_left, Nat.mod_eq_of_lt hqk]
        rwa [show j + (q - j) = q by omega] at hrdq), cell_of_row w _ _ _ _ _ f2, q1]
       rfl
     ·cases h
    ·cases h
   ·cases h
  ·cases h
 | _ => cases h
theorem live_ptr {v : V} {u : Value} (h : Rel E st w v u) (hl : live st v = true) : (∃ p : Addr, u = .pointer (some p)) ∨ ∃ f us, u = .func (.func f) #[] us := by
 cases v with
 | cref x j =>
  cases h with
  | pure h => cases h with
   | cref => exact Or.inl ⟨_, rfl⟩
 | fn f caps =>
  cases h with
  | pure h => cases h
  | fn => exact Or.inr ⟨_, _, rfl⟩
 | ptr b L i j =>
  simp only [live] at hl
  split at hl
  ·rename_i t k xs hb
   cases h with
   | pure h => cases h
   | ptr _ _ _ _ _ hbl h1 hh =>
    obtain ⟨-, g2⟩ := hh t k xs hb
    obtain ⟨-, -, rfl⟩ := g2 (of_decide_eq_true hl).symm
    exact Or.inl ⟨_, rfl⟩
  ·cases hl
 | _ => cases hl
theorem shift_ok {v r : V} {p : Addr} (h : Rel E st w v (.pointer (some p))) (hl : live st v = true) {o : Nat} (hs : shift o v = some r) : Rel E st w r (.pointer (some ⟨p.block, p.off + o, none⟩)) ∧ p.spot = none := by
 cases v with
 | cref x j =>
  cases hs
  cases h with
  | pure h => cases h with
   | cref _ _ g o' us hZ hcl hw hr =>
    refine ⟨.pure ?_, rfl⟩
    have := PRel.cref x (j + o) g o' us hZ hcl hw hr
    rwa [← Nat.add_assoc] at this
 | ptr b L i j =>
  cases hs
  simp only [live] at hl
  split at hl
  ·rename_i t k xs hb
   cases h with
   | pure h => cases h
   | ptr _ _ _ _ _ hbl h1 hh =>
    obtain ⟨-, g2⟩ := hh t k xs hb
    obtain ⟨g3, g4, g5⟩ := g2 (of_decide_eq_true hl).symm
    cases g5
    refine ⟨.ptr b L i (j + o) _ hbl rfl fun t' k' xs' hb' => ?_, rfl⟩
    rw [hb] at hb'
    cases hb'
    have hL : xs.length = L := of_decide_eq_true hl
    exact ⟨by omega, fun _ => ⟨g3, g4, by simp [Nat.add_assoc]⟩⟩
  ·cases hl
 | _ => cases hs
theorem shift_ptr {v r : V} {u : Value} {o : Nat} (h : Rel E st w v u) (hl : live st v = true) (hs : shift o v = some r) : ∃ p : Addr, u = .pointer (some p) := by
 cases v with
 | cref x j =>
  cases h with
  | pure h => cases h with
   | cref => exact ⟨_, rfl⟩
 | ptr b L i j =>
  simp only [live] at hl
  split at hl
  ·rename_i t k xs hb
   cases h with
   | pure h => cases h
   | ptr _ _ _ _ _ hbl h1 hh =>
    obtain ⟨-, g2⟩ := hh t k xs hb
    obtain ⟨-, -, rfl⟩ := g2 (of_decide_eq_true hl).symm
    exact ⟨_, rfl⟩
  ·cases hl
 | _ => cases hs
theorem fadr_ok {s f : Nat} {fields : Array Field} {fd : Field} {n : Nat} (hu : P.underlying s = some (.struct fields)) (hf : fields[f]? = some fd) (hn : sizeX P fd.type = some n) (hn0 : n ≠ 0) {v r : V} {u : Value} (h : Rel E st w v u) (hl : live st v = true)
  (hs : shift fd.offset v = some r) : Yld P rd E st w r (Instr.fieldAt s u f) := by
 obtain ⟨p, rfl⟩ := shift_ptr h hl hs
 ·obtain ⟨h1, h2⟩ := shift_ok h hl hs
  obtain ⟨i, hi, rfl⟩ := sizeX_ok hn
  obtain ⟨b, o, sp⟩ := p
  simp only at h2
  subst h2
  refine ⟨_, h1, fun w' _ => ?_⟩
  simp [Instr.fieldAt, run_underlying hu, hf, Instr.sureAddr, fieldPlace, sizeOf, typeInfo, hi, hn0, Addr.add_lit]
theorem aadr_ok {t e len k : Nat} (hu : P.underlying t = some (.array len e)) (hk : sizeX P e = some k) {v r : V} {u : Value} (h : Rel E st w v u) (hl : live st v = true) {kn : IntKind} {n : Int} (h0 : 0 ≤ n) (h1 : n < len)
  (hs : shift (n.toNat * k) v = some r) : Yld P rd E st w r (Instr.indexAt t u (.int kn n)) := by
 obtain ⟨p, rfl⟩ := shift_ptr h hl hs
 ·obtain ⟨h2, h3⟩ := shift_ok h hl hs
  obtain ⟨i, hi, rfl⟩ := sizeX_ok hk
  obtain ⟨b, o, sp⟩ := p
  simp only at h3
  subst h3
  refine ⟨_, h2, fun w' _ => ?_⟩
  simp [Instr.indexAt, asIntOf, run_underlying hu, Instr.sureAddr, sizeOf, typeInfo, hi, h0, h1, Addr.add_lit]
theorem iadr_ok (hR : Rows E st w) {t e k : Nat} (hu : P.underlying t = some (.slice e)) (hk : sizeX P e = some k) {v r : V} {u : Value} (h : Rel E st w v u) {kn : IntKind} {n : Int} (hs : elemAt k st n v = some r) :
  Yld P rd E st w r (Instr.indexAt t u (.int kn n)) := by
 obtain ⟨i, hi, rfl⟩ := sizeX_ok hk
 cases v with
 | lst f xs =>
  simp only [elemAt] at hs
  split at hs
  ·rename_i h0
   split at hs
   ·rename_i x hx
    split at hs
    ·rename_i hxk
     cases hs
     have hlt := (List.getElem?_eq_some_iff.1 hx).1
     cases h with
     | pure h => cases h with
      | nil => simp at hx
      | lst _ _ p m c k us hn hc hf hsp hZ hk' hl hw hr =>
       obtain ⟨pb, po, ps⟩ := p
       simp only at hsp
       subst hsp
       have hkk : k = i.size := by rw [← hk' _ _ hx]; exact hxk
       subst hkk
       refine ⟨.pointer (some ⟨pb, po + n.toNat * i.size, none⟩), .pure ?_, fun w' _ => ?_⟩
       ·exact .cref x 0 pb _ (us n.toNat) hZ (hl _ _ hx) (fun j y hy => by have := hw _ _ hx j y hy; simp only at this; show w.cell? ⟨pb, po + n.toNat * i.size + j, none⟩ = _; rw [Nat.add_assoc]; exact this) (hr _ _ hx)
       ·have h1 : n < (m : Int) := by omega
        simp [Instr.indexAt, asIntOf, run_underlying hu, sizeOf, typeInfo, hi, h0, h1, Addr.add_lit]
    ·cases hs
   ·cases hs
  ·cases hs
 | own b L lo m =>
  simp only [elemAt] at hs
  split at hs
  ·rename_i t' k' xs hb
   split at hs
   ·rename_i hc
    obtain ⟨hL, rfl, h0, h1⟩ := hc
    cases hs
    cases h with
    | pure h => cases h
    | own _ _ _ _ _ hbl _ hh =>
     obtain ⟨-, g2⟩ := hh t' _ xs hb
     obtain ⟨g3, A, rfl, g4⟩ := g2 hL.symm
     obtain ⟨k0, k1, k2, k3, k4⟩ := hR b t' _ xs hb
     obtain rfl := g4 (by omega)
     refine ⟨.pointer (some ⟨E.φ b, (lo + n.toNat) * i.size, none⟩), ?_, fun w' _ => ?_⟩
     ·refine .ptr b L (lo + n.toNat) 0 _ hbl rfl fun t2 k2 xs2 hb2 => ?_
      rw [hb] at hb2
      cases hb2
      exact ⟨by omega, fun _ => ⟨by omega, by omega, by simp⟩⟩
     ·simp [Instr.indexAt, asIntOf, run_underlying hu, sizeOf, typeInfo, hi, h0, h1, Addr.add_lit, Nat.add_mul]
   ·cases hs
  ·cases hs
 | _ => cases hs
theorem len_ok {t e ty : Nat} (hu : P.underlying t = some (.slice e)) {v r : V} {u : Value} (h : Rel E st w v u) (hs : lenV st v = some r) : Yld P rd E st w r (Builtin.len_ #[t] ty #[u]) := by
 cases v with
 | lst f xs =>
  cases hs
  cases h with
  | pure h => cases h with
   | nil f A c => exact ⟨_, .pure (.val _), fun w' _ => by simp [Builtin.len_, run_underlying hu, goInt]⟩
   | lst _ _ p m c k us hn => exact ⟨_, .pure (.val _), fun w' _ => by simp [Builtin.len_, run_underlying hu, goInt, hn]⟩
 | own b L lo m =>
  simp only [lenV] at hs
  split at hs
  ·rename_i t' k' xs hb
   split at hs
   ·rename_i hL
    cases hs
    cases h with
    | pure h => cases h
    | own _ _ _ _ _ hbl _ hh =>
     obtain ⟨-, g2⟩ := hh t' _ xs hb
     obtain ⟨g3, A, rfl, g4⟩ := g2 hL.symm
     exact ⟨_, .pure (.val _), fun w' _ => by simp [Builtin.len_, run_underlying hu, goInt]⟩
   ·cases hs
  ·cases hs
 | _ => cases hs
theorem cap_ok {t e ty : Nat} (hu : P.underlying t = some (.slice e)) {v r : V} {u : Value} (h : Rel E st w v u) (hs : capV v = some r) : Yld P rd E st w r (Builtin.cap_ #[t] ty #[u]) := by
 unfold capV at hs
 split at hs
 ·rename_i xs
  cases hs
  cases h with
  | pure h => cases h with
   | nil f A c hc =>
    obtain rfl := hc.1 rfl
    exact ⟨_, .pure (.val _), fun w' _ => by simp [Builtin.cap_, run_underlying hu, goInt]⟩
   | lst _ _ p m c k us hn _ hf =>
    obtain rfl := hf rfl
    exact ⟨_, .pure (.val _), fun w' _ => by simp [Builtin.cap_, run_underlying hu, goInt, hn]⟩
 ·cases hs
theorem lens_ok {t ty : Nat} (hu : P.underlying t = some .string) {s : ByteArray} : Yld P rd E st w (.val (.int .i64 (s.size : Int))) (Builtin.len_ #[t] ty #[.string s]) :=
 ⟨_, .pure (.val _), fun w' _ => by simp [Builtin.len_, run_underlying hu, goInt]⟩
end
end Go.Proofs.YtkcdgaijklhnaaaGreatDoor.Vm
namespace Go.Proofs.YtkcdgaijklhnaaaGreatDoor.Vm
open Go.RowKit
section
variable {P : Program} {rd : Nat → Nat → Bool} {E : Env} {st : St} {w : World}
theorem bin_ok {op : BinOp} {t : Nat} {x y : Operand} {v1 v2 r : V} {u1 u2 : Value} (h1 : Rel E st w v1 u1) (h2 : Rel E st w v2 u2) (hs : binV op v1 v2 = some r) :
    Yld P rd E st w r (do eqGuard op t x y u1 u2; binOp op t u1 u2) := by
  unfold binV at hs
  split at hs
  · rename_i k a k' b
    obtain rfl := h1.lit
    obtain rfl := h2.lit
    have hg : ∀ w', (eqGuard op t x y (.int k a) (.int k' b)).run P w' = .ok () w' := fun w' => by unfold eqGuard; cases op <;> rfl
    unfold intV at hs
    cases op <;> simp only [] at hs <;> first
      | (cases hs; done)
      | (split at hs
         · rename_i hc
           cases hs
           refine ⟨_, .pure (.val _), fun w' _ => ?_⟩
           rw [Sem.run_bind, hg w']
           first
             | (obtain ⟨rfl, hb⟩ := hc; simp [binOp, Op.intDiv, hb])
             | (subst hc; simp [binOp, Op.intArith, Op.intBits, Op.intCmp])
             | (have hb : ¬ b < 0 := by omega
                simp [binOp, Op.shift, hb])
         · cases hs)
  · rename_i a b
    obtain rfl := h1.lit
    obtain rfl := h2.lit
    have hg : ∀ w', (eqGuard op t x y (.string a) (.string b)).run P w' = .ok () w' := fun w' => by unfold eqGuard; cases op <;> rfl
    unfold strV at hs
    cases op <;> simp only [] at hs <;> first
      | (cases hs; done)
      | (cases hs
         refine ⟨_, .pure (.val _), fun w' _ => ?_⟩
         rw [Sem.run_bind, hg w']
         simp [binOp, Op.stringOp]
         done)
      | (split at hs
         · rename_i hc
           cases hs
           refine ⟨_, .pure (.val _), fun w' _ => ?_⟩
           rw [Sem.run_bind, hg w']
           have hc' : ¬ ((a.size + b.size : Nat) : Int) > IntKind.i64.max := by
             have : IntKind.i64.max = 9223372036854775807 := rfl
             omega
           simp only [Result.andThen_ok, binOp, Op.stringOp, if_neg hc', Sem.run_pure]
         · cases hs)
  · cases hs
theorem cmp_bool (w : World) (d t : Nat) (a b : Bool) (h : P.underlying t = some .bool) : (Op.equalIn (d + 1) t (.bool a) (.bool b)).run P w = .ok (a == b) w := by
 simp [Op.equalIn, run_underlying h]
theorem beq_ok {neg : Bool} {op : BinOp} (ho : op = (if neg then .neq else .eql)) {t : Nat} {x y : Operand} (hu : P.underlying t = some .bool) (a b : Bool) :
  Yld P rd E st w (.val (.bool (neg ^^ (a == b)))) (do eqGuard op t x y (.bool a) (.bool b); binOp op t (.bool a) (.bool b)) := by
 have hg : ∀ w', (eqGuard op t x y (.bool a) (.bool b)).run P w' = .ok () w' := fun w' => by unfold eqGuard; cases op <;> rfl
 have he : ∀ w', (Op.equal t (.bool a) (.bool b)).run P w' = .ok (a == b) w' := fun w' => cmp_bool w' 9999 t a b hu
 refine ⟨_, .pure (.val _), fun w' _ => ?_⟩
 rw [Sem.run_bind, hg w']
 cases neg <;> subst ho <;> simp [binOp, he w']
theorem un_ok {op : UnOp} {v r : V} {u : Value} (h : Rel E st w v u) (hs : unV op v = some r) : Yld P rd E st w r (Op.unary op u) := by
 unfold unV at hs
 split at hs
 ·rename_i k a
  obtain rfl := h.lit
  cases op <;> simp only [] at hs <;> first
   | (cases hs; done)
   | (cases hs; exact ⟨_, .pure (.val _), fun w' _ => by simp [Op.unary, Op.intArith, Op.intBits]⟩)
 ·rename_i b
  obtain rfl := h.lit
  cases op <;> simp only [] at hs <;> first
   | (cases hs; done)
   | (cases hs; exact ⟨_, .pure (.val _), fun w' _ => by simp [Op.unary]⟩)
 ·cases hs
theorem conv_ok {s d : Nat} {ds : TypeDesc} {k k' : IntKind} {n : Int} (hs : P.underlying s = some ds) (hd : P.underlying d = some (.int k)) : Yld P rd E st w (.val (.int k (k.wrap n))) (convert s d (.int k' n)) :=
 ⟨_, .pure (.val _), fun w' _ => by simp [convert, run_underlying hs, run_underlying hd, Conv.intToInt]⟩
theorem convs_ok {s d : Nat} {ds : TypeDesc} {x : ByteArray} (hs : P.underlying s = some ds) (hd : P.underlying d = some .string) : Yld P rd E st w (.val (.string x)) (convert s d (.string x)) :=
 ⟨_, .pure (.val _), fun w' _ => by simp [convert, run_underlying hs, run_underlying hd]⟩
theorem part_ok {t d n} {row : Bool} (hd : P.underlying t = some d) (hn : sizeX P t = some n) (hrow : d.isRow = row) {l : List V} {us : List Value} {v : V} {o : Nat} (hl : Pw E st w l us) (hp : part row n (.agg l) o = some v) :
  Yld P rd E st w v (Go.part t us.toArray o) := by
 obtain ⟨i, hi, rfl⟩ := sizeX_ok hn
 cases row with
 | true =>
  simp only [part] at hp
  by_cases hle : o + i.size ≤ (V.agg l).cells.length
  ·rw [if_pos hle] at hp
   cases hp
   refine ⟨_, .agg _ _ (hl.drop o |>.take i.size).1 (hl.drop o |>.take i.size).2, fun w' _ => ?_⟩
   have hagg : (isAgg t).run P w' = .ok true w' := by
    unfold isAgg; rw [Sem.run_bind, run_underlying hd w']; cases d <;> simp_all
   simp [Go.part, hagg, sizeOf, typeInfo, hi, List.extract_eq_take_drop]
  ·rw [if_neg hle] at hp
   cases hp
 | false =>
  have hp : l[o]? = some v := hp
  have hlt : o < us.length := by rw [hl.1]; exact (List.getElem?_eq_some_iff.1 hp).1
  refine ⟨us[o], hl.2 o v _ hp (List.getElem?_eq_getElem hlt), fun w' _ => ?_⟩
  have hagg : (isAgg t).run P w' = .ok false w' := by
   unfold isAgg; rw [Sem.run_bind, run_underlying hd w']; cases d <;> simp_all
  simp [Go.part, hagg, hlt]
theorem fld_ok {t f d n} {row : Bool} {fields : Array Field} {fd : Field} (hu : P.underlying t = some (.struct fields)) (hf : fields[f]? = some fd) (hd : P.underlying fd.type = some d) (hn : sizeX P fd.type = some n) (hrow : d.isRow = row)
  {l : List V} {v : V} {u : Value} (h : Rel E st w (.agg l) u) (hp : part row n (.agg l) fd.offset = some v) : Yld P rd E st w v (Instr.field t u f) := by
 cases h with
 | pure h => cases h
 | agg _ us hn' hr =>
  obtain ⟨x, h1, h2⟩ := part_ok (P := P) (rd := rd) hd hn hrow ⟨hn', hr⟩ hp
  exact ⟨x, h1, fun w' hA => by simp [Instr.field, run_underlying hu, hf, asAgg, h2 w' hA]⟩
theorem aidx_ok {t e d len n} {row : Bool} (hu : P.underlying t = some (.array len e)) (hd : P.underlying e = some d) (hn : sizeX P e = some n) (hrow : d.isRow = row)
  {l : List V} {v : V} {u : Value} {kn : IntKind} {i : Int} (h0 : 0 ≤ i) (h1 : i < len) (h : Rel E st w (.agg l) u) (hp : part row n (.agg l) (i.toNat * n) = some v) : Yld P rd E st w v (Instr.index t u (.int kn i)) := by
 cases h with
 | pure h => cases h
 | agg _ us hn' hr =>
  obtain ⟨x, h1', h2⟩ := part_ok (P := P) (rd := rd) hd hn hrow ⟨hn', hr⟩ hp
  obtain ⟨ti, hi, rfl⟩ := sizeX_ok hn
  exact ⟨x, h1', fun w' hA => by simp [Instr.index, asIntOf, run_underlying hu, h0, h1, sizeOf, typeInfo, hi, h2 w' hA]⟩
theorem sidx_ok {t : Nat} (hu : P.underlying t = some .string) {s : ByteArray} {kn : IntKind} {i : Int} (h0 : 0 ≤ i) {b : UInt8} (hb : s[i.toNat]? = some b) : Yld P rd E st w (.val (.int .u8 b.toNat)) (Instr.index t (.string s) (.int kn i)) :=
 ⟨_, .pure (.val _), fun w' _ => by simp [Instr.index, asIntOf, run_underlying hu, h0, hb]⟩
inductive Bd : Option Value → Nat → Nat → Prop
 | none (d : Nat) : Bd none d d
 | some (k : IntKind) (i : Int) (d : Nat) (h : 0 ≤ i) : Bd (some (.int k i)) d i.toNat
theorem mm_ok (big : Bool) (ts : Array TypeId) (t : TypeId) (k : IntKind) (x y : Int) : Yld P rd E st w (.val (.int k (cond big (max x y) (min x y)))) (cond big (Builtin.max_ ts t #[.int k x, .int k y]) (Builtin.min_ ts t #[.int k x, .int k y])) := by
 refine ⟨_, .pure (.val _), fun w' _ => ?_⟩
 cases big with
 | true =>
  have e : max x y = if y > x then y else x := by split <;> omega
  simp only [cond, e]
  exact run_max_int2 w' ts t k k x y
 | false =>
  have e : min x y = if y < x then y else x := by split <;> omega
  simp only [cond, e]
  exact run_min_int2 w' ts t k k x y
theorem bounds_run {lo hi : Option Value} {b : Bool} {l h n cap : Nat} (hl : Bd lo 0 l) (hh : Bd hi n h) (h1 : l ≤ h) (h2 : h ≤ n) (h3 : n ≤ cap) (w : World) :
  (Instr.sliceBounds b n cap lo hi none).run P w = .ok (l, h, cap) w := by
 have hcap : h ≤ cap := Nat.le_trans h2 h3
 cases hl with
 | none =>
  cases hh with
  | none => simp [Instr.sliceBounds]
  | some k i _ h0 => simp [Instr.sliceBounds, Instr.sliceBound, asIntOf, h0]; omega
 | some k i _ h0 =>
  cases hh with
  | none => simp [Instr.sliceBounds, Instr.sliceBound, asIntOf, h0]; omega
  | some k' i' _ h0' => simp [Instr.sliceBounds, Instr.sliceBound, asIntOf, h0, h0', show i' ≤ (cap : Int) by omega]; omega
theorem sl_ok (hR : Rows E st w) {t e k : Nat} (hu : P.underlying t = some (.slice e)) (hk : sizeX P e = some k) {v r : V} {u : Value} (h : Rel E st w v u) {lo hi : Option Value} {l hh : Nat} (hl : Bd lo 0 l) (hv : winV k st l hh v = some r)
  (hb : ∃ n, lenN v = some n ∧ Bd hi n hh) : Yld P rd E st w r (Instr.sliceAt t u lo hi none) := by
 obtain ⟨ie, hie, rfl⟩ := sizeX_ok hk
 obtain ⟨n, hn, hbd⟩ := hb
 have hat : ∀ (y : Value) w', (Instr.sliceAt t y lo hi none).run P w' = (Instr.slice t y lo hi none).run P w' := fun y w' => by simp [Instr.sliceAt, run_underlying hu]
 have he : P.elem t = e := by simp [Program.elem, hu]
 have hsz : ∀ w', (sizeOf e).run P w' = .ok ie.size w' := fun w' => by simp [sizeOf, typeInfo, hie]
 have run : ∀ (A : Option Addr) (n c : Nat), l ≤ hh → hh ≤ n → n ≤ c → Bd hi n hh → ∀ w', (Instr.sliceAt t (.slice A n c) lo hi none).run P w' = .ok (.slice (if c = l then A else A.map (·.add (l * ie.size))) (hh - l) (c - l)) w' := fun A n c h1 h2 h3 hbd w' => by
  rw [hat, run_slice_any (P := P) w' t _ _ _ (by simp [Program.elem, hu]), bounds_run hl hbd h1 h2 h3 w']
  simp only [Result.andThen_ok, he, hsz, sliced]
 cases v with
 | lst f xs =>
  simp only [winV] at hv
  split at hv
  ·rename_i hc
   obtain ⟨h1, h2, h3⟩ := hc
   cases hv
   cases hn
   cases h with
   | pure h => cases h with
    | nil _ A c hf =>
     simp only [List.length_nil, Nat.le_zero_eq] at h2
     subst h2
     obtain rfl : l = 0 := by omega
     refine ⟨_, .pure ?_, fun w' _ => run A 0 c (Nat.le_refl _) (Nat.le_refl _) (Nat.zero_le _) hbd w'⟩
     simp only [List.drop_nil, List.take_nil, Nat.sub_zero]
     exact .nil _ _ _ ⟨fun hf' => hf.1 (Bool.and_eq_true_iff.1 hf').1, hf.2⟩
    | lst _ _ p m c k us hm hc hf hsp hZ hk' hlf hw hr =>
     subst hm
     refine ⟨_, .pure ?_, fun w' _ => run (some p) xs.length c h1 h2 hc.1 hbd w'⟩
     by_cases hz : hh - l = 0
     ·rw [hz, List.take_zero]
      by_cases hcl : c = l
      ·subst hcl; rw [if_pos rfl]; exact .nil _ _ _ ⟨fun _ => by omega, by omega⟩
      ·rw [if_neg hcl]; exact .nil _ _ _ ⟨fun (hf' : (f && decide (hh = xs.length)) = true) => (by have h1' := hf (Bool.and_eq_true_iff.1 hf').1; have h2' := of_decide_eq_true (Bool.and_eq_true_iff.1 hf').2; omega), by omega⟩
     ·have hcl : ¬ c = l := by omega
      rw [if_neg hcl]
      have hlen : ((xs.drop l).take (hh - l)).length = hh - l := by rw [List.length_take, List.length_drop]; omega
      have hel : ∀ (i : Nat) (x : V), ((xs.drop l).take (hh - l))[i]? = some x → xs[l + i]? = some x := fun i x hi => by
       rw [List.getElem?_take] at hi
       split at hi
       ·rwa [List.getElem?_drop] at hi
       ·cases hi
      have hkk : k = ie.size := by
       have h0 : xs[0]? = some (xs[0]'(by omega)) := List.getElem?_eq_getElem (by omega)
       rw [← hk' 0 _ h0]
       exact h3 _ (List.mem_of_getElem? h0)
      subst hkk
      obtain ⟨pb, po, ps⟩ := p
      simp only at hsp
      subst hsp
      show PRel _ _ _ (.slice (some (Addr.add ⟨pb, po, none⟩ (l * ie.size))) _ _)
      rw [Addr.add_lit]
      refine .lst _ _ ⟨pb, po + l * ie.size, none⟩ (hh - l) (c - l) ie.size (fun i j => us (l + i) j) hlen (by omega) (fun (hf' : (f && decide (hh = xs.length)) = true) => by have h1' := hf (Bool.and_eq_true_iff.1 hf').1; have h2' := of_decide_eq_true (Bool.and_eq_true_iff.1 hf').2; omega) rfl hZ (fun i x hi => hk' _ x (hel i x hi)) (fun i x hi => hlf _ x (hel i x hi)) (fun i x hi j y hy => ?_) (fun i x hi => hr _ x (hel i x hi))
      have := hw _ x (hel i x hi) j y hy
      simp only at this
      rw [← this]
      show w.cell? ⟨pb, po + l * ie.size + (i * ie.size + j), none⟩ = w.cell? ⟨pb, po + ((l + i) * ie.size + j), none⟩
      congr 2
      rw [Nat.add_mul]; omega
  ·cases hv
 | own b L lo0 m =>
  simp only [winV] at hv
  split at hv
  ·rename_i t' k' xs hb
   split at hv
   ·rename_i hc
    obtain ⟨hL, rfl, h1, h2⟩ := hc
    cases hv
    cases hn
    cases h with
    | pure h => cases h
    | own _ _ _ _ _ hbl _ hh' =>
     obtain ⟨-, g2⟩ := hh' t' _ xs hb
     obtain ⟨g3, A, rfl, g4⟩ := g2 hL.symm
     obtain ⟨k0, k1, k2, k3, k4⟩ := hR b t' _ xs hb
     refine ⟨_, ?_, fun w' _ => run A _ _ h1 h2 (by omega) hbd w'⟩
     refine .own b L (lo0 + l) (hh - l) _ hbl rfl fun t2 k2' xs2 hb2 => ?_
     rw [hb] at hb2
     cases hb2
     refine ⟨by omega, fun _ => ⟨by omega, _, by rw [Nat.sub_sub], fun hpos => ?_⟩⟩
     rw [if_neg (by omega), g4 (by omega)]
     simp [Addr.add_lit, Nat.add_mul]
   ·cases hv
  ·cases hv
 | _ => cases hv
theorem slf_ok {t e k : Nat} (hu : P.underlying t = some (.slice e)) (hk : sizeX P e = some k) {f : Bool} {xs : List V} {u : Value} (h : Rel E st w (.lst f xs) u) {lo : Option Value} {kh km : IntKind} {ih im : Int} {l : Nat} (hl : Bd lo 0 l) (h0 : 0 ≤ ih) (h0' : 0 ≤ im)
  (h1 : l ≤ ih.toNat) (h2 : ih.toNat = im.toNat) (h3 : ih.toNat ≤ xs.length) (h4 : ∀ x ∈ xs, x.cells.length = k) :
  Yld P rd E st w (.lst true ((xs.drop l).take (ih.toNat - l))) (Instr.sliceAt t u lo (some (.int kh ih)) (some (.int km im))) := by
 obtain ⟨ie, hie, rfl⟩ := sizeX_ok hk
 have he : P.elem t = e := by simp [Program.elem, hu]
 have hsz : ∀ w', (sizeOf e).run P w' = .ok ie.size w' := fun w' => by simp [sizeOf, typeInfo, hie]
 have run : ∀ (A : Option Addr) (n c : Nat), ih.toNat ≤ c → ∀ w', (Instr.sliceAt t (.slice A n c) lo (some (.int kh ih)) (some (.int km im))).run P w' = .ok (.slice (if ih.toNat = l then A else A.map (·.add (l * ie.size))) (ih.toNat - l) (ih.toNat - l)) w' := fun A n c hc w' => by
  have hat : (Instr.sliceAt t (.slice A n c) lo (some (.int kh ih)) (some (.int km im))).run P w' = (Instr.slice t (.slice A n c) lo (some (.int kh ih)) (some (.int km im))).run P w' := by simp [Instr.sliceAt, run_underlying hu]
  have hb : (Instr.sliceBounds true n c lo (some (.int kh ih)) (some (.int km im))).run P w' = .ok (l, ih.toNat, ih.toNat) w' := by
   have sb : ∀ (k : IntKind) (i : Int) (n : Nat) (cd : BoundsCode) (w' : World), 0 ≤ i → i ≤ (n : Int) → (Instr.sliceBound (.int k i) n cd).run P w' = .ok i.toNat w' := fun k i n cd w' g1 g2 => by simp [Instr.sliceBound, asIntOf, g1, g2]
   have hi' : ih.toNat = im.toNat := h2
   cases hl with
   | none =>
    simp only [Instr.sliceBounds, Sem.run_bind, sb km im c _ w' h0' (by omega), Result.andThen_ok, sb kh ih im.toNat _ w' h0 (by omega), Sem.run_pure, hi']
   | some k i _ hi0 =>
    simp only [Instr.sliceBounds, Sem.run_bind, sb km im c _ w' h0' (by omega), Result.andThen_ok, sb kh ih im.toNat _ w' h0 (by omega), sb k i im.toNat _ w' hi0 (by omega), Sem.run_pure, hi']
  rw [hat, run_slice_any (P := P) w' t _ _ _ (by simp [Program.elem, hu]), hb]
  simp only [Result.andThen_ok, he, hsz, sliced]
 cases h with
 | pure h => cases h with
  | nil _ A c hf =>
   simp only [List.length_nil, Nat.le_zero_eq] at h3
   refine ⟨_, .pure ?_, fun w' _ => run A 0 c (by omega) w'⟩
   simp only [List.drop_nil, List.take_nil]
   rw [show ih.toNat - l = 0 by omega]
   exact .nil _ _ _ ⟨fun _ => rfl, Nat.zero_le _⟩
  | lst _ _ p m c k us hm hc hf hsp hZ hk' hlf hw hr =>
   subst hm
   refine ⟨_, .pure ?_, fun w' _ => run (some p) xs.length c (by omega) w'⟩
   by_cases hz : ih.toNat - l = 0
   ·rw [hz, List.take_zero]; exact .nil _ _ _ ⟨fun _ => rfl, Nat.zero_le _⟩
   ·rw [if_neg (by omega)]
    have hlen : ((xs.drop l).take (ih.toNat - l)).length = ih.toNat - l := by rw [List.length_take, List.length_drop]; omega
    have hel : ∀ (i : Nat) (x : V), ((xs.drop l).take (ih.toNat - l))[i]? = some x → xs[l + i]? = some x := fun i x hi => by
     rw [List.getElem?_take] at hi
     split at hi
     ·rwa [List.getElem?_drop] at hi
     ·cases hi
    have hkk : k = ie.size := by
     have h0 : xs[0]? = some (xs[0]'(by omega)) := List.getElem?_eq_getElem (by omega)
     rw [← hk' 0 _ h0]
     exact h4 _ (List.mem_of_getElem? h0)
    subst hkk
    obtain ⟨pb, po, ps⟩ := p
    simp only at hsp
    subst hsp
    show PRel _ _ _ (.slice (some (Addr.add ⟨pb, po, none⟩ (l * ie.size))) _ _)
    rw [Addr.add_lit]
    refine .lst _ _ ⟨pb, po + l * ie.size, none⟩ _ _ ie.size (fun i j => us (l + i) j) hlen ⟨Nat.le_refl _, by omega⟩ (fun _ => rfl) rfl hZ (fun i x hi => hk' _ x (hel i x hi)) (fun i x hi => hlf _ x (hel i x hi)) (fun i x hi j y hy => ?_) (fun i x hi => hr _ x (hel i x hi))
    have := hw _ x (hel i x hi) j y hy
    simp only at this
    rw [← this]
    show w.cell? ⟨pb, po + l * ie.size + (i * ie.size + j), none⟩ = w.cell? ⟨pb, po + ((l + i) * ie.size + j), none⟩
    congr 2
    rw [Nat.add_mul]; omega
theorem sl0_ok {t e k : Nat} (hu : P.underlying t = some (.slice e)) (hk : sizeX P e = some k) {A : Option Addr} {n c : Nat} {lo : Option Value} {kh km : IntKind} (hl : Bd lo 0 0) :
  Yld P rd E st w (.lst true []) (Instr.sliceAt t (.slice A n c) lo (some (.int kh 0)) (some (.int km 0))) := by
 obtain ⟨ie, hie, rfl⟩ := sizeX_ok hk
 refine ⟨.slice A 0 0, .pure (.nil _ _ _ ⟨fun _ => rfl, Nat.zero_le _⟩), fun w' _ => ?_⟩
 have hat : (Instr.sliceAt t (.slice A n c) lo (some (.int kh 0)) (some (.int km 0))).run P w' = (Instr.slice t (.slice A n c) lo (some (.int kh 0)) (some (.int km 0))).run P w' := by simp [Instr.sliceAt, run_underlying hu]
 rw [hat]
 generalize hz : (0 : Nat) = z at hl
 cases hl with
 | none => simp [Instr.slice, run_underlying hu, Instr.sliceBounds, Instr.sliceBound, asIntOf, sizeOf, typeInfo, hie, ← hz]
 | some k i _ hi0 =>
  have : i = 0 := by omega
  subst this
  simp [Instr.slice, run_underlying hu, Instr.sliceBounds, Instr.sliceBound, asIntOf, sizeOf, typeInfo, hie]
theorem ssl_ok {t : Nat} (hu : P.underlying t = some .string) {s : ByteArray} {lo hi : Option Value} {l hh : Nat} (hl : Bd lo 0 l) (hb : Bd hi s.size hh) (h1 : l ≤ hh) (h2 : hh ≤ s.size) :
  Yld P rd E st w (.val (.string (s.extract l hh))) (Instr.sliceAt t (.string s) lo hi none) :=
 ⟨_, .pure (.val _), fun w' _ => by simp [Instr.sliceAt, run_underlying hu, Instr.slice, bounds_run hl hb h1 h2 (Nat.le_refl _) w']⟩
end
end Go.Proofs.YtkcdgaijklhnaaaGreatDoor.Vm
namespace Go.Proofs.YtkcdgaijklhnaaaGreatDoor.Vm
open Go.RowKit
def still {α : Type} (P : Program) : Sem α → Option α
 | .pure a => some a
 | .program k => still P (k P)
 | .mark _ k => still P k
 | _ => none
theorem still_run {α : Type} {P : Program} {s : Sem α} {x : α} (h : still P s = some x) (w : World) : s.run P w = .ok x w := by
 induction s with
 | pure a => simp only [still, Option.some.injEq] at h; subst h; rfl
 | program k ih => exact ih P h
 | mark m k ih => exact ih h
 | _ => cases h
def zeroX (P : Program) (t : Nat) : Option (List V) :=
 match P.info? t with
 | some i => match i.zero with
  | some z => some (z.cells.toList.map nval)
  | none => none
 | none => none
theorem zeroX_ok {P : Program} {t : Nat} {l : List V} (h : zeroX P t = some l) : ∃ i z, P.info? t = some i ∧ i.zero = some z ∧ l = z.cells.toList.map nval := by
 unfold zeroX at h
 split at h
 ·rename_i i hi
  split at h
  ·rename_i z hz; cases h; exact ⟨i, z, hi, hz, rfl⟩
  ·cases h
 ·cases h
def placesX (P : Program) (fields : Array Field) : Option (Array (Nat × Nat)) := still P (fields.mapM fun f => do pure (f.offset, ← sizeOf f.type))
def partsX (place : Nat → Option (Nat × Nat)) : List (Nat × Operand) → Option (List (Nat × Nat × Od))
 | [] => some []
 | (i, x) :: l => match place i, partsX place l with
  | some (o, n), some r => some ((o, n, cOd x) :: r)
  | _, _ => none
def optOd : Option Operand → Option Od
 | none => none
 | some x => some (cOd x)
def ods : List Operand → List Od
 | [] => []
 | x :: l => cOd x :: ods l
def compS (P : Program) (op : Op) : Option MOp :=
 match op with
 | .move x => some (.mv (cOd x))
 | .assign x => some (.mv (cOd x))
 | .nilCheck x => some (.nilck (cOd x))
 | .pick c a b => some (.pick (cOd c) (cOd a) (cOd b))
 | .binOp op t x y _ => match P.underlying t, op with
  | some .bool, .eql => some (.beq false (cOd x) (cOd y))
  | some .bool, .neq => some (.beq true (cOd x) (cOd y))
  | some (.slice _), .eql => match y with
   | .const (.slice none _ _) => some (.snil false (cOd x))
   | _ => some (.bin .eql (cOd x) (cOd y))
  | some (.slice _), .neq => match y with
   | .const (.slice none _ _) => some (.snil true (cOd x))
   | _ => some (.bin .neq (cOd x) (cOd y))
  | some (.interface _), .eql => match y with
   | .const .nilIface => some (.inil false (cOd x))
   | _ => some (.bin .eql (cOd x) (cOd y))
  | some (.interface _), .neq => match y with
   | .const .nilIface => some (.inil true (cOd x))
   | _ => some (.bin .neq (cOd x) (cOd y))
  | _, _ => some (.bin op (cOd x) (cOd y))
 | .unOp op _ x => some (.un op (cOd x))
 | .convert s d x => match P.underlying s, P.underlying d with
  | some _, some (.int k) => some (.conv k (cOd x))
  | some _, some .string => some (.same (cOd x))
  | _, _ => none
 | .load t x => match P.underlying t, sizeX P t with
  | some d, some n => some (.load d.isRow n (cOd x))
  | _, _ => none
 | .fieldAddr s x f => match P.underlying s with
  | some (.struct fields) => match fields[f]? with
   | some fd => match sizeX P fd.type with
    | some (_ + 1) => some (.fadr fd.offset (cOd x))
    | _ => none
   | none => none
  | _ => none
 | .indexAddr t x i => match P.underlying t with
  | some (.slice e) => match sizeX P e with
   | some k => some (.iadr k (cOd x) (cOd i))
   | none => none
  | some (.array len e) => match sizeX P e with
   | some k => some (.aadr len k (cOd x) (cOd i))
   | none => none
  | _ => none
 | .field t x f => match P.underlying t with
  | some (.struct fields) => match fields[f]? with
   | some fd => match P.underlying fd.type, sizeX P fd.type with
    | some d, some n => some (.fld d.isRow fd.offset n (cOd x))
    | _, _ => none
   | none => none
  | _ => none
 | .index t x i => match P.underlying t with
  | some (.array len e) => match P.underlying e, sizeX P e with
   | some d, some n => some (.aidx d.isRow len n (cOd x) (cOd i))
   | _, _ => none
  | some .string => some (.sidx (cOd x) (cOd i))
  | _ => none
 | .extract x i => some (.ext (cOd x) i)
 | .makeFunc (.func f) first caps => cond first.isEmpty (some (.mkfn f (ods caps.toList))) (cond caps.isEmpty (some (.mkmet f (ods first.toList))) none)
 | .makeInterface t x => match P.underlying t with
  | some (.interface _) => none
  | some _ => some (.mkif t (cOd x))
  | none => none
 | .typeAssert x _ t ok => cond ok (match P.underlying t with
  | some (.interface _) => none
  | some _ => some (.tas t (cOd x))
  | none => none) none
 | .build t parts => match zeroX P t, P.underlying t with
  | some zs, some (.struct fields) => match placesX P fields with
   | some pl => match partsX (fun i => pl[i]?) parts.toList with
    | some ps => some (.bld zs ps)
    | none => none
   | none => none
  | some zs, some (.array _ e) => match sizeX P e with
   | some n => match partsX (fun i => some (i * n, n)) parts.toList with
    | some ps => some (.bld zs ps)
    | none => none
   | none => none
  | _, _ => none
 | .slice t x lo hi mx => match P.underlying t with
  | some (.slice e) => match sizeX P e, mx with
   | some k, none => some (.sl k (cOd x) (optOd lo) (optOd hi))
   | some k, some m => match hi with
    | some h => some (.slf k (cOd x) (optOd lo) (cOd h) (cOd m))
    | none => none
   | _, _ => none
  | some .string => match mx with
   | none => some (.ssl (cOd x) (optOd lo) (optOd hi))
   | some _ => none
  | _ => none
 | .call { callee := .builtin b, args, argTypes } => match b, args.toList, argTypes.toList with
  | .len, [x], [t] => match P.underlying t with
   | some (.slice _) => some (.len (cOd x))
   | some .string => some (.slen (cOd x))
   | _ => none
  | .cap, [x], [t] => match P.underlying t with
   | some (.slice _) => some (.cap (cOd x))
   | _ => none
  | .min, [x, y], _ => some (.mm false [cOd x, cOd y])
  | .max, [x, y], _ => some (.mm true [cOd x, cOd y])
  | _, _, _ => none
 | _ => none
def fillV (cells : List V) : List (Nat × Nat × V) → Option (List V)
 | [] => some cells
 | (o, n, v) :: r => if v.cells.length = n ∧ o + n ≤ cells.length ∧ v.cok = true then fillV (cells.take o ++ v.cells ++ cells.drop (o + n)) r else none
def evp (T : Tbl) (fr : Fr) : List (Nat × Nat × Od) → Option (List (Nat × Nat × V))
 | [] => some []
 | (o, n, x) :: l => match x.ev T fr, evp T fr l with
  | some v, some r => some ((o, n, v) :: r)
  | _, _ => none
def evo (T : Tbl) (fr : Fr) (d : Nat) : Option Od → Option Nat
 | none => some d
 | some x => match x.ev T fr with
  | some v => natV v
  | none => none
def strOf : V → Option ByteArray
 | .val (.string s) => some s
 | _ => none
def intOf : V → Option (IntKind × Int)
 | .val (.int k n) => some (k, n)
 | _ => none
def boolOf : V → Option Bool
 | .val (.bool b) => some b
 | _ => none
def nnil (st : St) : V → Bool
 | .lst _ (_ :: _) => true
 | .own b L _ n => match st[b]? with
  | some (.row _ _ xs) => decide (xs.length = L) && decide (0 < n)
  | _ => false
 | _ => false
def mStill (T : Tbl) (rd : Nat → Nat → Bool) (op : MOp) (fr : Fr) (st : St) : Option V :=
 match op with
 | .mv x => x.ev T fr
 | .nilck x => (x.ev T fr).bind fun v => if live st v = true then some v else none
 | .pick c a b => (c.ev T fr).bind fun c => (a.ev T fr).bind fun a => (b.ev T fr).bind fun b => (boolOf c).bind fun t => some (if t = true then a else b)
 | .bin op x y => (x.ev T fr).bind fun x => (y.ev T fr).bind fun y => binV op x y
 | .beq neg x y => (x.ev T fr).bind fun x => (y.ev T fr).bind fun y => (boolOf x).bind fun x => (boolOf y).bind fun y => some (.val (.bool (neg ^^ (x == y))))
 | .snil neg x => (x.ev T fr).bind fun x => if nnil st x = true then some (.val (.bool neg)) else none
 | .un op x => (x.ev T fr).bind fun x => unV op x
 | .conv k x => (x.ev T fr).bind fun x => (intOf x).bind fun n => some (.val (.int k (k.wrap n.2)))
 | .same x => (x.ev T fr).bind fun x => (strOf x).bind fun s => some (.val (.string s))
 | .load row n x => (x.ev T fr).bind fun x => mLoad rd row n st x
 | .fadr o x => (x.ev T fr).bind fun x => if live st x = true then shift o x else none
 | .iadr k x i => (x.ev T fr).bind fun x => (i.ev T fr).bind fun i => (intOf i).bind fun n => elemAt k st n.2 x
 | .aadr len k x i => (x.ev T fr).bind fun x => (i.ev T fr).bind fun i => (intOf i).bind fun n => if 0 ≤ n.2 ∧ n.2 < len ∧ live st x = true then shift (n.2.toNat * k) x else none
 | .fld row o n x => (x.ev T fr).bind fun x => match x with
  | .agg l => part row n (.agg l) o
  | _ => none
 | .aidx row len n x i => (x.ev T fr).bind fun x => (i.ev T fr).bind fun i => (intOf i).bind fun q => match x with
  | .agg l => if 0 ≤ q.2 ∧ q.2 < len then part row n (.agg l) (q.2.toNat * n) else none
  | _ => none
 | .sidx x i => (x.ev T fr).bind fun x => (i.ev T fr).bind fun i => (strOf x).bind fun s => (intOf i).bind fun n => if 0 ≤ n.2 then (s[n.2.toNat]?).bind fun b => some (.val (.int .u8 b.toNat)) else none
 | .ext x i => (x.ev T fr).bind fun x => match x with
  | .tup l => l[i]?
  | _ => none
 | .mkfn f caps => (evs T fr caps).bind fun l => some (.fn f l)
 | .mkmet f first => (evs T fr first).bind fun l => some (.met f l)
 | .mkif t x => (x.ev T fr).bind fun x => match x with
  | .val u => some (.val (.iface t u))
  | .agg [] => some (.val (.iface t (.agg #[])))
  | _ => none
 | .tas t x => (x.ev T fr).bind fun x => match x with
  | .val (.iface t' u) => if t' = t then some (.tup [.val u, .val (.bool true)]) else none
  | _ => none
 | .inil neg x => (x.ev T fr).bind fun x => match x with
  | .val .nilIface => some (.val (.bool (!neg)))
  | .val (.iface _ _) => some (.val (.bool neg))
  | _ => none
 | .bld zs ps => (evp T fr ps).bind fun l => (fillV zs l).bind fun r => some (.agg r)
 | .sl k x lo hi => (x.ev T fr).bind fun x => (evo T fr 0 lo).bind fun l => (lenN x).bind fun n => (evo T fr n hi).bind fun h => winV k st l h x
 | .ssl x lo hi => (x.ev T fr).bind fun x => (evo T fr 0 lo).bind fun l => (strOf x).bind fun s => (evo T fr s.size hi).bind fun h => if l ≤ h ∧ h ≤ s.size then some (.val (.string (s.extract l h))) else none
 | .slen x => (x.ev T fr).bind fun x => (strOf x).bind fun s => some (.val (.int .i64 (s.size : Int)))
 | .slf k x lo hi mx => (x.ev T fr).bind fun x => (evo T fr 0 lo).bind fun l => (evo T fr 0 (some hi)).bind fun h => (evo T fr 0 (some mx)).bind fun m => match x with
  | .lst _ xs => if l ≤ h ∧ h = m ∧ h ≤ xs.length ∧ (∀ x ∈ xs, x.cells.length = k) then some (.lst true ((xs.drop l).take (h - l))) else none
  | .own b L _ _ => match st[b]? with
   | some (.row _ _ xs) => if xs.length = L ∧ l = 0 ∧ h = 0 ∧ m = 0 then some (.lst true []) else none
   | _ => none
  | _ => none
 | .len x => (x.ev T fr).bind fun x => lenV st x
 | .cap x => (x.ev T fr).bind fun x => capV x
 | .mm big xs => (evs T fr xs).bind fun l => match l with
  | [x, y] => (intOf x).bind fun a => (intOf y).bind fun b => if a.1 = b.1 then some (.val (.int a.1 (cond big (max a.2 b.2) (min a.2 b.2)))) else none
  | _ => none
 | _ => none
section
variable {P : Program} {rd : Nat → Nat → Bool} {E : Env} {st : St} {w : World}
theorem fold_splice (off : Nat) : ∀ (l : List Value) (j : Nat) (c : List Value), off + j + l.length ≤ c.length → ((l.zipIdx j).foldl (fun cs (p : Value × Nat) => cs.setIfInBounds (off + p.2) p.1) c.toArray) = (c.take (off + j) ++ l ++ c.drop (off + j + l.length)).toArray
 | [], j, c, _ => by simp
 | x :: l, j, c, h => by
  simp only [List.length_cons] at h
  rw [List.zipIdx_cons, List.foldl_cons, List.setIfInBounds_toArray, fold_splice off l (j + 1) (c.set (off + j) x) (by simp; omega)]
  congr 1
  have h1 : (c.set (off + j) x).take (off + (j + 1)) = c.take (off + j) ++ [x] := by
   rw [show off + (j + 1) = off + j + 1 by omega, List.take_add_one, List.take_set_of_le (Nat.le_refl _)]
   simp [List.getElem?_set]
   omega
  have h2 : (c.set (off + j) x).drop (off + (j + 1) + l.length) = c.drop (off + j + (x :: l).length) := by
   rw [List.drop_set_of_lt (by omega)]
   congr 1
   simp; omega
  rw [h1, h2]
  simp
theorem fill_ok (place : Nat → Option (Nat × Nat)) : ∀ (ps : List (Nat × Value)) (qs : List (Nat × Nat × V)) (cs : List Value) (cv rv : List V), ps.length = qs.length →
  (∀ (i : Nat) (p : Nat × Value) (q : Nat × Nat × V), ps[i]? = some p → qs[i]? = some q → place p.1 = some (q.1, q.2.1) ∧ Rel E st w q.2.2 p.2) → Pw E st w cv cs → fillV cv qs = some rv →
  ∃ us : List Value, Instr.fill place cs.toArray ps = some us.toArray ∧ Pw E st w rv us
 | [], [], cs, cv, rv, _, _, hp, h => by cases h; exact ⟨cs, rfl, hp⟩
 | [], _ :: _, _, _, _, hl, _, _, _ => by cases hl
 | _ :: _, [], _, _, _, hl, _, _, _ => by cases hl
 | (i, u) :: ps, (o, n, v) :: qs, cs, cv, rv, hl, hq, hp, h => by
  simp only [fillV] at h
  split at h
  ·rename_i hc
   obtain ⟨rfl, h2, h3⟩ := hc
   obtain ⟨g1, g2⟩ := hq 0 _ _ rfl rfl
   simp only at g1 g2
   obtain ⟨us, hu, hpw⟩ := g2.tocells h3
   have hlen : us.length = v.cells.length := hpw.1
   obtain ⟨r, r1, r2⟩ := fill_ok place ps qs (cs.take o ++ us ++ cs.drop (o + v.cells.length)) _ rv (by simpa using hl) (fun j p q a b => hq (j + 1) p q (by simpa using a) (by simpa using b)) (((hp.take o).append hpw).append (hp.drop _)) h
   refine ⟨r, ?_, r2⟩
   rw [Instr.fill, g1]
   simp only
   rw [hu, if_neg (by simp [hlen]; have := hp.1; omega), ← r1]
   congr 1
   rw [show (us.toArray.zipIdx) = (us.zipIdx).toArray by simp, List.foldl_toArray]
   have := fold_splice o us 0 cs (by have := hp.1; omega)
   rw [Nat.add_zero, hlen] at this
   exact this
  ·cases h
section
variable {T : Tbl} {B : Nat} {w0 : World} {nt : Nat} {fr : Fr} {a : Act}
theorem evs_ok (hT : TblOk T B w0 E w) (h : FrOk nt E st w fr a) : ∀ (l : List Operand) (r : List V), evs T fr (ods l) = some r → Pw E st w r (l.map a.eval)
 | [], r, hr => by cases hr; exact Pw.nil
 | x :: l, r, hr => by
  simp only [ods, evs] at hr
  split at hr
  ·rename_i v q hx hl
   cases hr
   exact Pw.cons (ev_ok hT h hx) (evs_ok hT h l q hl)
  ·cases hr
theorem evp_ok (hT : TblOk T B w0 E w) (h : FrOk nt E st w fr a) (place : Nat → Option (Nat × Nat)) : ∀ (l : List (Nat × Operand)) (m : List (Nat × Nat × Od)) (r : List (Nat × Nat × V)), partsX place l = some m → evp T fr m = some r →
  (l.map fun p => (p.1, a.eval p.2)).length = r.length ∧ ∀ (i : Nat) (p : Nat × Value) (q : Nat × Nat × V), (l.map fun p => (p.1, a.eval p.2))[i]? = some p → r[i]? = some q → place p.1 = some (q.1, q.2.1) ∧ Rel E st w q.2.2 p.2
 | [], m, r, hm, hr => by
  simp only [partsX, Option.some.injEq] at hm
  subst hm
  simp only [evp, Option.some.injEq] at hr
  subst hr
  exact ⟨rfl, fun i p q hp => by simp at hp⟩
 | (i, x) :: l, m, r, hm, hr => by
  simp only [partsX] at hm
  split at hm
  ·rename_i o n q hpl hq
   cases hm
   simp only [evp] at hr
   split at hr
   ·rename_i v s hv hs
    cases hr
    obtain ⟨h1, h2⟩ := evp_ok hT h place l q s hq hs
    refine ⟨by simpa using h1, fun j p q' hp hq' => ?_⟩
    cases j with
    | zero => simp at hp hq'; subst hp hq'; exact ⟨hpl, ev_ok hT h hv⟩
    | succ j => simp only [List.map_cons, List.getElem?_cons_succ] at hp hq'; exact h2 j p q' hp hq'
   ·cases hr
  ·cases hm
theorem evo_ok (hT : TblOk T B w0 E w) (h : FrOk nt E st w fr a) {x : Option Operand} {d n : Nat} (hx : evo T fr d (optOd x) = some n) : Bd (x.map a.eval) d n := by
 cases x with
 | none => cases hx; exact .none _
 | some x =>
  simp only [optOd, evo] at hx
  split at hx
  ·rename_i v hv
   have hr := ev_ok hT h hv
   unfold natV at hx
   split at hx
   ·rename_i k i
    split at hx
    ·rename_i h0
     cases hx
     rw [Option.map_some, hr.lit]
     exact .some k i d h0
    ·cases hx
   ·cases hx
  ·cases hx
end
end
end Go.Proofs.YtkcdgaijklhnaaaGreatDoor.Vm
namespace Go.Proofs.YtkcdgaijklhnaaaGreatDoor.Vm
open Go.RowKit
theorem intOf_eq {v : V} {n : IntKind × Int} (h : intOf v = some n) : v = .val (.int n.1 n.2) := by
 unfold intOf at h
 split at h
 ·cases h; rfl
 ·cases h
theorem strOf_eq {v : V} {s : ByteArray} (h : strOf v = some s) : v = .val (.string s) := by
 unfold strOf at h
 split at h
 ·cases h; rfl
 ·cases h
theorem boolOf_eq {v : V} {b : Bool} (h : boolOf v = some b) : v = .val (.bool b) := by
 unfold boolOf at h
 split at h
 ·cases h; rfl
 ·cases h
section
variable {P : Program} {rd : Nat → Nat → Bool} {E : Env} {st : St} {w : World} {T : Tbl} {B : Nat} {w0 : World} {nt : Nat} {fr : Fr} {a : Act}
def Does (P : Program) (rd : Nat → Nat → Bool) (E : Env) (st : St) (w : World) (v : V) (m : Sem Next) : Prop := ∃ u, Rel E st w v u ∧ ∀ w', Agree rd E st w w' → m.run P w' = .ok (.value u) w'
theorem Yld.does {v : V} {s : Sem Value} (h : Yld P rd E st w v s) : Does P rd E st w v (do pure (.value (← s))) := by
 obtain ⟨u, h1, h2⟩ := h
 exact ⟨u, h1, fun w' hA => by rw [Sem.run_bind, h2 w' hA]; rfl⟩
theorem bind_some {α β : Type} {x : Option α} {f : α → Option β} {b : β} (h : x.bind f = some b) : ∃ a, x = some a ∧ f a = some b := by
 cases x with
 | none => cases h
 | some a => exact ⟨a, rfl, h⟩
theorem nnil_ok (hR : Rows E st w) {v : V} {u : Value} (h : Rel E st w v u) (hn : nnil st v = true) : ∃ A n c, u = .slice (some A) n c := by
 unfold nnil at hn
 split at hn
 ·cases h with
  | pure h => cases h with
   | lst => exact ⟨_, _, _, rfl⟩
 ·rename_i b L lo n
  split at hn
  ·rename_i t k xs hx
   simp only [Bool.and_eq_true, decide_eq_true_eq] at hn
   cases h with
   | pure h => cases h
   | own _ _ _ _ _ hb h1 h =>
    obtain ⟨h2, h3⟩ := h _ _ _ hx
    obtain ⟨q1, A, q2, q3⟩ := h3 hn.1.symm
    have hr := (hR _ _ _ _ hx).2.2.1
    have := q3 (by omega)
    subst this
    exact ⟨_, _, _, q2⟩
  ·cases hn
 ·cases hn
theorem cmp_nil (w : World) (d t : Nat) {e : Nat} (A : Addr) (n c n2 c2 : Nat) (h : P.underlying t = some (.slice e)) : (Op.equalIn (d + 1) t (.slice (some A) n c) (.slice none n2 c2)).run P w = .ok false w := by
 simp [Op.equalIn, run_underlying h]
theorem snil_ok {neg : Bool} {op : BinOp} (ho : op = (if neg then .neq else .eql)) {t e : Nat} {x y : Operand} (hu : P.underlying t = some (.slice e)) (A : Addr) (n c n2 c2 : Nat) :
  Yld P rd E st w (.val (.bool neg)) (do eqGuard op t x y (.slice (some A) n c) (.slice none n2 c2); binOp op t (.slice (some A) n c) (.slice none n2 c2)) := by
 have hg : ∀ w', (eqGuard op t x y (.slice (some A) n c) (.slice none n2 c2)).run P w' = .ok () w' := fun w' => by unfold eqGuard; cases op <;> rfl
 have he : ∀ w', (Op.equal t (.slice (some A) n c) (.slice none n2 c2)).run P w' = .ok false w' := fun w' => cmp_nil w' 9999 t A n c n2 c2 hu
 refine ⟨_, .pure (.val _), fun w' _ => ?_⟩
 rw [Sem.run_bind, hg w']
 cases neg <;> subst ho <;> simp [binOp, he w']
theorem cmp_inil (w : World) (d t : Nat) {ms : Array (String × TypeId)} (h : P.underlying t = some (.interface ms)) : (Op.equalIn (d + 1) t .nilIface .nilIface).run P w = .ok true w := by
 simp [Op.equalIn, run_underlying h]
theorem cmp_inil2 (w : World) (d t t' : Nat) (u : Value) {ms : Array (String × TypeId)} (h : P.underlying t = some (.interface ms)) : (Op.equalIn (d + 1) t (.iface t' u) .nilIface).run P w = .ok false w := by
 simp [Op.equalIn, run_underlying h]
theorem inil_ok {neg : Bool} {op : BinOp} (ho : op = (if neg then .neq else .eql)) {t : Nat} {ms : Array (String × TypeId)} {x : Operand} (hu : P.underlying t = some (.interface ms)) {v : Value} {r : Bool} (hv : (v = .nilIface ∧ r = (!neg)) ∨ (∃ t' u, v = .iface t' u ∧ r = neg)) :
  Yld P rd E st w (.val (.bool r)) (do eqGuard op t x (.const .nilIface) v .nilIface; binOp op t v .nilIface) := by
 have hg : ∀ w', (eqGuard op t x (.const .nilIface) v .nilIface).run P w' = .ok () w' := fun w' => by
  rcases hv with ⟨rfl, -⟩ | ⟨t', u, rfl, -⟩
  ·unfold eqGuard; cases neg <;> subst ho <;> simp
  ·unfold eqGuard; cases neg <;> subst ho <;> rfl
 refine ⟨_, .pure (.val _), fun w' _ => ?_⟩
 rw [Sem.run_bind, hg w']
 rcases hv with ⟨rfl, rfl⟩ | ⟨t', u, rfl, rfl⟩
 ·have he : ∀ w', (Op.equal t .nilIface .nilIface).run P w' = .ok true w' := fun w' => cmp_inil w' 9999 t hu
  cases neg <;> subst ho <;> simp [binOp, he w']
 ·have he : ∀ w', (Op.equal t (.iface t' u) .nilIface).run P w' = .ok false w' := fun w' => cmp_inil2 w' 9999 t t' u hu
  cases r <;> subst ho <;> simp [binOp, he w']
set_option maxHeartbeats 1000000 in
theorem still_ok (hT : TblOk T B w0 E w) (hR : Rows E st w) (hf : FrOk nt E st w fr a) {o : Oper} {m : MOp} (hm : compS P o.op = some m) {v : V} (hv : mStill T rd m fr st = some v) : Does P rd E st w v (execOp a.eval o) := by
 obtain ⟨dst, op, type, pos, after, guard⟩ := o
 simp only at hm
 unfold compS at hm
 split at hm
 ·cases hm
  exact ⟨_, ev_ok hT hf hv, fun w' _ => rfl⟩
 ·cases hm
  exact ⟨_, ev_ok hT hf hv, fun w' _ => rfl⟩
 ·cases hm
  obtain ⟨x, h1, h2⟩ := bind_some hv
  have hr := ev_ok hT hf h1
  split at h2
  ·rename_i hl
   cases h2
   rcases live_ptr hr hl with ⟨p, e⟩ | ⟨f, us, e⟩
   ·exact ⟨_, hr, fun w' _ => by simp [execOp, e]⟩
   ·exact ⟨_, hr, fun w' _ => by simp [execOp, e]⟩
  ·cases h2
 ·cases hm
  obtain ⟨c, hc, h2⟩ := bind_some hv
  obtain ⟨x, hx, h2⟩ := bind_some h2
  obtain ⟨y, hy, h2⟩ := bind_some h2
  obtain ⟨t, ht, h2⟩ := bind_some h2
  have hc' := ev_ok hT hf hc
  rw [boolOf_eq ht] at hc'
  have hc'' := hc'.lit
  cases h2
  cases t with
  | true => exact ⟨_, ev_ok hT hf hx, fun w' _ => by simp [execOp, hc'', asBool]⟩
  | false => exact ⟨_, ev_ok hT hf hy, fun w' _ => by simp [execOp, hc'', asBool]⟩
 ·rename_i bop t x y yt
  split at hm
  ·rename_i hu
   cases hm
   obtain ⟨v1, g1, h2⟩ := bind_some hv
   obtain ⟨v2, g2, h2⟩ := bind_some h2
   obtain ⟨b1, e1, h2⟩ := bind_some h2
   obtain ⟨b2, e2, h2⟩ := bind_some h2
   have r1 := ev_ok hT hf g1
   have r2 := ev_ok hT hf g2
   rw [boolOf_eq e1] at r1
   rw [boolOf_eq e2] at r2
   cases h2
   simp only [execOp, r1.lit, r2.lit]
   exact (beq_ok rfl hu b1 b2).does
  ·rename_i hu
   cases hm
   obtain ⟨v1, g1, h2⟩ := bind_some hv
   obtain ⟨v2, g2, h2⟩ := bind_some h2
   obtain ⟨b1, e1, h2⟩ := bind_some h2
   obtain ⟨b2, e2, h2⟩ := bind_some h2
   have r1 := ev_ok hT hf g1
   have r2 := ev_ok hT hf g2
   rw [boolOf_eq e1] at r1
   rw [boolOf_eq e2] at r2
   cases h2
   simp only [execOp, r1.lit, r2.lit]
   exact (beq_ok (neg := true) rfl hu b1 b2).does
  ·rename_i hu
   split at hm
   ·cases hm
    obtain ⟨v1, g1, h2⟩ := bind_some hv
    split at h2
    ·rename_i hn
     cases h2
     obtain ⟨A, n, c, e⟩ := nnil_ok hR (ev_ok hT hf g1) hn
     simp only [execOp, e]
     exact (snil_ok (neg := false) rfl hu A _ _ _ _).does
    ·cases h2
   ·cases hm
    obtain ⟨v1, g1, h2⟩ := bind_some hv
    obtain ⟨v2, g2, h2⟩ := bind_some h2
    exact (bin_ok (ev_ok hT hf g1) (ev_ok hT hf g2) h2).does
  ·rename_i hu
   split at hm
   ·cases hm
    obtain ⟨v1, g1, h2⟩ := bind_some hv
    split at h2
    ·rename_i hn
     cases h2
     obtain ⟨A, n, c, e⟩ := nnil_ok hR (ev_ok hT hf g1) hn
     simp only [execOp, e]
     exact (snil_ok (neg := true) rfl hu A _ _ _ _).does
    ·cases h2
   ·cases hm
    obtain ⟨v1, g1, h2⟩ := bind_some hv
    obtain ⟨v2, g2, h2⟩ := bind_some h2
    exact (bin_ok (ev_ok hT hf g1) (ev_ok hT hf g2) h2).does
  ·rename_i hu
   split at hm
   ·cases hm
    obtain ⟨v1, g1, h2⟩ := bind_some hv
    have r1 := ev_ok hT hf g1
    split at h2
    ·cases h2
     simp only [execOp, r1.lit]
     exact (inil_ok (neg := false) rfl hu (Or.inl ⟨rfl, rfl⟩)).does
    ·cases h2
     simp only [execOp, r1.lit]
     exact (inil_ok (neg := false) rfl hu (Or.inr ⟨_, _, rfl, rfl⟩)).does
    ·cases h2
   ·cases hm
    obtain ⟨v1, g1, h2⟩ := bind_some hv
    obtain ⟨v2, g2, h2⟩ := bind_some h2
    exact (bin_ok (ev_ok hT hf g1) (ev_ok hT hf g2) h2).does
  ·rename_i hu
   split at hm
   ·cases hm
    obtain ⟨v1, g1, h2⟩ := bind_some hv
    have r1 := ev_ok hT hf g1
    split at h2
    ·cases h2
     simp only [execOp, r1.lit]
     exact (inil_ok (neg := true) rfl hu (Or.inl ⟨rfl, rfl⟩)).does
    ·cases h2
     simp only [execOp, r1.lit]
     exact (inil_ok (neg := true) rfl hu (Or.inr ⟨_, _, rfl, rfl⟩)).does
    ·cases h2
   ·cases hm
    obtain ⟨v1, g1, h2⟩ := bind_some hv
    obtain ⟨v2, g2, h2⟩ := bind_some h2
    exact (bin_ok (ev_ok hT hf g1) (ev_ok hT hf g2) h2).does
  ·cases hm
   obtain ⟨v1, g1, h2⟩ := bind_some hv
   obtain ⟨v2, g2, h2⟩ := bind_some h2
   exact (bin_ok (ev_ok hT hf g1) (ev_ok hT hf g2) h2).does
 ·cases hm
  obtain ⟨v1, g1, h2⟩ := bind_some hv
  exact (un_ok (ev_ok hT hf g1) h2).does
 ·split at hm
  ·rename_i hs hd
   cases hm
   obtain ⟨v1, g1, h2⟩ := bind_some hv
   obtain ⟨n, e1, h2⟩ := bind_some h2
   have r1 := ev_ok hT hf g1
   rw [intOf_eq e1] at r1
   cases h2
   simp only [execOp, r1.lit]
   exact (conv_ok hs hd).does
  ·rename_i hs hd
   cases hm
   obtain ⟨v1, g1, h2⟩ := bind_some hv
   obtain ⟨s, e1, h2⟩ := bind_some h2
   have r1 := ev_ok hT hf g1
   rw [strOf_eq e1] at r1
   cases h2
   simp only [execOp, r1.lit]
   exact (convs_ok hs hd).does
  ·cases hm
 ·split at hm
  ·rename_i d n hd hn
   cases hm
   obtain ⟨v1, g1, h2⟩ := bind_some hv
   exact (mLoad_ok hR hd hn rfl (ev_ok hT hf g1) h2).does
  ·cases hm
 ·split at hm
  ·rename_i fields hu
   split at hm
   ·rename_i fd hfd
    split at hm
    ·rename_i n hn
     cases hm
     obtain ⟨v1, g1, h2⟩ := bind_some hv
     split at h2
     ·rename_i hl
      exact (fadr_ok hu hfd hn (Nat.succ_ne_zero _) (ev_ok hT hf g1) hl h2).does
     ·cases h2
    ·cases hm
   ·cases hm
  ·cases hm
 ·split at hm
  ·rename_i e hu
   split at hm
   ·rename_i k hk
    cases hm
    obtain ⟨v1, g1, h2⟩ := bind_some hv
    obtain ⟨v2, g2, h2⟩ := bind_some h2
    obtain ⟨n, e1, h2⟩ := bind_some h2
    have r2 := ev_ok hT hf g2
    rw [intOf_eq e1] at r2
    simp only [execOp, r2.lit]
    exact (iadr_ok hR hu hk (ev_ok hT hf g1) h2).does
   ·cases hm
  ·rename_i len e hu
   split at hm
   ·rename_i k hk
    cases hm
    obtain ⟨v1, g1, h2⟩ := bind_some hv
    obtain ⟨v2, g2, h2⟩ := bind_some h2
    obtain ⟨n, e1, h2⟩ := bind_some h2
    have r2 := ev_ok hT hf g2
    rw [intOf_eq e1] at r2
    split at h2
    ·rename_i hc
     simp only [execOp, r2.lit]
     exact (aadr_ok hu hk (ev_ok hT hf g1) hc.2.2 hc.1 hc.2.1 h2).does
    ·cases h2
   ·cases hm
  ·cases hm
 ·split at hm
  ·rename_i fields hu
   split at hm
   ·rename_i fd hfd
    split at hm
    ·rename_i d n hd hn
     cases hm
     obtain ⟨v1, g1, h2⟩ := bind_some hv
     split at h2
     ·exact (fld_ok hu hfd hd hn rfl (ev_ok hT hf g1) h2).does
     ·cases h2
    ·cases hm
   ·cases hm
  ·cases hm
 ·split at hm
  ·rename_i len e hu
   split at hm
   ·rename_i d n hd hn
    cases hm
    obtain ⟨v1, g1, h2⟩ := bind_some hv
    obtain ⟨v2, g2, h2⟩ := bind_some h2
    obtain ⟨q, e1, h2⟩ := bind_some h2
    have r2 := ev_ok hT hf g2
    rw [intOf_eq e1] at r2
    split at h2
    ·split at h2
     ·rename_i hc
      simp only [execOp, r2.lit]
      exact (aidx_ok hu hd hn rfl hc.1 hc.2 (ev_ok hT hf g1) h2).does
     ·cases h2
    ·cases h2
   ·cases hm
  ·rename_i hu
   cases hm
   obtain ⟨v1, g1, h2⟩ := bind_some hv
   obtain ⟨v2, g2, h2⟩ := bind_some h2
   obtain ⟨s, e1, h2⟩ := bind_some h2
   obtain ⟨n, e2, h2⟩ := bind_some h2
   have r1 := ev_ok hT hf g1
   have r2 := ev_ok hT hf g2
   rw [strOf_eq e1] at r1
   rw [intOf_eq e2] at r2
   split at h2
   ·rename_i h0
    obtain ⟨b, hb, h2⟩ := bind_some h2
    cases h2
    simp only [execOp, r1.lit, r2.lit]
    exact (sidx_ok hu h0 hb).does
   ·cases h2
  ·cases hm
 ·rename_i x i
  cases hm
  obtain ⟨v1, g1, h2⟩ := bind_some hv
  split at h2
  ·rename_i l
   have r1 := ev_ok hT hf g1
   generalize hx : a.eval x = u at r1
   cases r1 with
   | pure r1 => cases r1
   | tup _ us hn hr =>
    have hlt : i < us.length := by rw [hn]; exact (List.getElem?_eq_some_iff.1 h2).1
    exact ⟨us[i], hr i v _ h2 (List.getElem?_eq_getElem hlt), fun w' _ => by simp [execOp, hx, Instr.extract, hlt]⟩
  ·cases h2
 ·rename_i f first caps
  cases hfi : first.isEmpty with
  | false =>
   rw [hfi] at hm
   cases hci : caps.isEmpty with
   | false => rw [hci] at hm; cases hm
   | true =>
    rw [hci] at hm
    cases hm
    obtain ⟨l, h1, h2⟩ := bind_some hv
    cases h2
    have hp := evs_ok hT hf _ _ h1
    refine ⟨_, .met f l _ hp.1 hp.2, fun w' _ => ?_⟩
    rw [Array.isEmpty_iff.1 hci]
    have hc : first.map a.eval = (first.toList.map a.eval).toArray := by rw [← Array.toList_map, Array.toArray_toList]
    simp [execOp, Instr.makeFunc, hc]
  | true =>
   rw [hfi] at hm
   cases hm
   obtain ⟨l, h1, h2⟩ := bind_some hv
   cases h2
   have hp := evs_ok hT hf _ _ h1
   refine ⟨_, .fn f l _ hp.1 hp.2, fun w' _ => ?_⟩
   rw [Array.isEmpty_iff.1 hfi]
   have hc : caps.map a.eval = (caps.toList.map a.eval).toArray := by rw [← Array.toList_map, Array.toArray_toList]
   simp [execOp, Instr.makeFunc, hc]
 ·rename_i t x
  split at hm
  ·cases hm
  ·rename_i d hni hu
   cases hm
   obtain ⟨v1, g1, h2⟩ := bind_some hv
   have r1 := ev_ok hT hf g1
   split at h2
   ·rename_i u
    cases h2
    refine ⟨_, .pure (.val _), fun w' _ => ?_⟩
    have hd : ∀ ms, d ≠ .interface ms := fun ms e => hni ms e
    have : (Instr.makeInterface t u).run P w' = .ok (.iface t u) w' := by
     unfold Instr.makeInterface
     rw [Sem.run_bind, run_underlying hu]
     cases d <;> first | rfl | exact absurd rfl (hd _)
    simp [execOp, r1.lit, this]
   ·cases h2
    refine ⟨_, .pure (.val _), fun w' _ => ?_⟩
    have hd : ∀ ms, d ≠ .interface ms := fun ms e => hni ms e
    obtain ⟨q, e1⟩ : ∃ q, a.eval x = .agg #[] ∧ q = 0 := by
     generalize a.eval x = u at r1
     cases r1 with
     | pure h => cases h
     | agg l us hn _ =>
      obtain rfl : us = [] := List.eq_nil_of_length_eq_zero hn
      exact ⟨0, rfl, rfl⟩
    have : (Instr.makeInterface t (.agg #[])).run P w' = .ok (.iface t (.agg #[])) w' := by
     unfold Instr.makeInterface
     rw [Sem.run_bind, run_underlying hu]
     cases d <;> first | rfl | exact absurd rfl (hd _)
    simp [execOp, e1.1, this]
   ·cases h2
  ·cases hm
 ·rename_i x xt t ok
  cases ok with
  | false => cases hm
  | true =>
   simp only [cond] at hm
   split at hm
   ·cases hm
   ·rename_i d hni hu
    cases hm
    obtain ⟨v1, g1, h2⟩ := bind_some hv
    have r1 := ev_ok hT hf g1
    split at h2
    ·rename_i t' u
     split at h2
     ·rename_i ht
      subst ht
      cases h2
      have hd : ∀ ms, d ≠ .interface ms := fun ms e => hni ms e
      refine ⟨.tuple #[u, .bool true], .tup _ [u, .bool true] rfl fun i y z hy hz => ?_, fun w' _ => ?_⟩
      ·match i with
       | 0 => cases hy; cases hz; exact .pure (.val _)
       | 1 => cases hy; cases hz; exact .pure (.val _)
       | i + 2 => cases hy
      ·have : (Instr.typeAssert (.iface t' u) xt t' true).run P w' = .ok (.tuple #[u, .bool true]) w' := by
        unfold Instr.typeAssert
        simp only [Sem.run_bind, run_underlying hu]
        cases d <;> first | exact absurd rfl (hd _) | simp
       simp [execOp, r1.lit, this]
     ·cases h2
    ·cases h2
   ·cases hm
 ·rename_i t parts
  have hps : ∀ l : List (Nat × Operand), parts.toList = l → (parts.map fun (x : Nat × Operand) => (x.1, a.eval x.2)).toList = l.map fun p => (p.1, a.eval p.2) := fun l e => by rw [Array.toList_map, e]
  split at hm
  ·rename_i zs fields hz hu
   split at hm
   ·rename_i pl hpl
    split at hm
    ·rename_i ps hq
     cases hm
     obtain ⟨l, h1, h2⟩ := bind_some hv
     obtain ⟨r, h3, h4⟩ := bind_some h2
     cases h4
     obtain ⟨i, z, hi, hiz, rfl⟩ := zeroX_ok hz
     obtain ⟨p1, p2⟩ := evp_ok hT hf _ _ _ _ hq h1
     obtain ⟨us, q1, q2⟩ := fill_ok (E := E) (st := st) (w := w) _ _ _ z.cells.toList _ _ p1 p2 (Pw.nvals _) h3
     refine Yld.does ⟨_, .agg r us q2.1 q2.2, fun w' _ => ?_⟩
     have hzr : (zeroValue t).run P w' = .ok z w' := by simp [zeroValue, typeInfo, hi, hiz]
     simp only [Instr.build, Sem.run_bind, hzr, run_underlying hu w', Result.andThen_ok]
     rw [still_run hpl w']
     simp only [Result.andThen_ok]
     rw [hps _ rfl]
     rw [Array.toArray_toList] at q1
     rw [q1]
     rfl
    ·cases hm
   ·cases hm
  ·rename_i zs len e hz hu
   split at hm
   ·rename_i n hn
    split at hm
    ·rename_i ps hq
     cases hm
     obtain ⟨l, h1, h2⟩ := bind_some hv
     obtain ⟨r, h3, h4⟩ := bind_some h2
     cases h4
     obtain ⟨i, z, hi, hiz, rfl⟩ := zeroX_ok hz
     obtain ⟨ie, hie, rfl⟩ := sizeX_ok hn
     obtain ⟨p1, p2⟩ := evp_ok hT hf _ _ _ _ hq h1
     obtain ⟨us, q1, q2⟩ := fill_ok (E := E) (st := st) (w := w) (fun i => some (i * ie.size, ie.size)) _ _ z.cells.toList _ _ p1 p2 (Pw.nvals _) h3
     refine Yld.does ⟨_, .agg r us q2.1 q2.2, fun w' _ => ?_⟩
     have hzr : (zeroValue t).run P w' = .ok z w' := by simp [zeroValue, typeInfo, hi, hiz]
     have hsz : (sizeOf e).run P w' = .ok ie.size w' := by simp [sizeOf, typeInfo, hie]
     simp only [Instr.build, Sem.run_bind, hzr, run_underlying hu w', Result.andThen_ok, hsz]
     rw [hps _ rfl]
     rw [Array.toArray_toList] at q1
     rw [q1]
     rfl
    ·cases hm
   ·cases hm
  ·cases hm
 ·rename_i t x lo hi mx
  split at hm
  ·rename_i e hu
   split at hm
   ·rename_i k hk
    cases hm
    obtain ⟨v1, g1, h2⟩ := bind_some hv
    obtain ⟨l, g2, h2⟩ := bind_some h2
    have r1 := ev_ok hT hf g1
    obtain ⟨n, hn, h2⟩ := bind_some h2
    obtain ⟨h, hh, h2⟩ := bind_some h2
    exact (sl_ok hR hu hk r1 (evo_ok hT hf g2) h2 ⟨n, hn, evo_ok hT hf hh⟩).does
   ·rename_i mo hk
    split at hm
    ·rename_i ho
     cases hm
     obtain ⟨v1, g1, h2⟩ := bind_some hv
     obtain ⟨l, g2, h2⟩ := bind_some h2
     obtain ⟨h, g3, h2⟩ := bind_some h2
     obtain ⟨q, g4, h2⟩ := bind_some h2
     have r1 := ev_ok hT hf g1
     have b1 := evo_ok hT hf g2
     have b2 := evo_ok (x := some ho) hT hf g3
     have b3 := evo_ok (x := some mo) hT hf g4
     simp only [execOp, Option.map_some] at b2 b3 ⊢
     generalize a.eval ho = uh at b2
     generalize a.eval mo = um at b3
     cases b2 with
     | some kh ih _ h0 =>
     cases b3 with
     | some km im _ h0' =>
     split at h2
     ·split at h2
      ·rename_i hc
       cases h2
       exact (slf_ok hu hk r1 b1 h0 h0' hc.1 hc.2.1 hc.2.2.1 hc.2.2.2).does
      ·cases h2
     ·rename_i b L lo0 m0
      split at h2
      ·rename_i t' k' xs hb
       split at h2
       ·rename_i hc
        obtain ⟨hL, rfl, e1, e2⟩ := hc
        cases h2
        generalize a.eval x = ux at r1
        cases r1 with
        | pure h => cases h
        | own _ _ _ _ _ hbl _ hh' =>
         obtain ⟨-, gg⟩ := hh' t' _ xs hb
         obtain ⟨-, A, rfl, -⟩ := gg hL.symm
         obtain rfl : ih = 0 := by omega
         obtain rfl : im = 0 := by omega
         exact (sl0_ok hu hk b1).does
       ·cases h2
      ·cases h2
     ·cases h2
    ·cases hm
   ·cases hm
  ·rename_i hu
   split at hm
   ·cases hm
    obtain ⟨v1, g1, h2⟩ := bind_some hv
    obtain ⟨l, g2, h2⟩ := bind_some h2
    have r1 := ev_ok hT hf g1
    obtain ⟨s, e1, h2⟩ := bind_some h2
    rw [strOf_eq e1] at r1
    obtain ⟨h, hh, h2⟩ := bind_some h2
    split at h2
    ·rename_i hc
     cases h2
     have := (ssl_ok (P := P) (rd := rd) (E := E) (st := st) (w := w) hu (s := s) (evo_ok hT hf g2) (evo_ok hT hf hh) hc.1 hc.2).does
     simp only [execOp, r1.lit]
     exact this
    ·cases h2
   ·cases hm
  ·cases hm
 ·rename_i b args argTypes
  split at hm
  ·rename_i x t hx ht
   have e1 : args = #[x] := by rw [← Array.toArray_toList (xs := args), hx]
   have e2 : argTypes = #[t] := by rw [← Array.toArray_toList (xs := argTypes), ht]
   subst e1 e2
   split at hm
   ·rename_i e hu
    cases hm
    obtain ⟨v1, g1, h2⟩ := bind_some hv
    have := (len_ok (ty := type) (rd := rd) hu (ev_ok hT hf g1) h2).does
    simpa [execOp, resolve, invoke, builtin] using this
   ·rename_i hu
    cases hm
    obtain ⟨v1, g1, h2⟩ := bind_some hv
    obtain ⟨s, e1, h2⟩ := bind_some h2
    have r1 := ev_ok hT hf g1
    rw [strOf_eq e1] at r1
    cases h2
    have := (lens_ok (P := P) (ty := type) (rd := rd) (E := E) (st := st) (w := w) hu (s := s)).does
    simpa [execOp, resolve, invoke, builtin, r1.lit] using this
   ·cases hm
  ·rename_i x t hx ht
   have e1 : args = #[x] := by rw [← Array.toArray_toList (xs := args), hx]
   have e2 : argTypes = #[t] := by rw [← Array.toArray_toList (xs := argTypes), ht]
   subst e1 e2
   split at hm
   ·rename_i e hu
    cases hm
    obtain ⟨v1, g1, h2⟩ := bind_some hv
    have := (cap_ok (ty := type) (rd := rd) hu (ev_ok hT hf g1) h2).does
    simpa [execOp, resolve, invoke, builtin] using this
   ·cases hm
  ·rename_i x y hx
   have e1 : args = #[x, y] := by rw [← Array.toArray_toList (xs := args), hx]
   subst e1
   cases hm
   obtain ⟨l, h1, h2⟩ := bind_some hv
   have hp := evs_ok hT hf [x, y] l h1
   split at h2
   ·obtain ⟨n1, e1, h2⟩ := bind_some h2
    obtain ⟨n2, e2, h2⟩ := bind_some h2
    split at h2
    ·rename_i hk
     cases h2
     have r1 := hp.2 0 _ _ rfl rfl
     have r2 := hp.2 1 _ _ rfl rfl
     rw [intOf_eq e1] at r1
     rw [intOf_eq e2, ← hk] at r2
     have := (mm_ok (P := P) (rd := rd) (E := E) (st := st) (w := w) false argTypes type n1.1 n1.2 n2.2).does
     simpa [execOp, resolve, invoke, builtin, r1.lit, r2.lit] using this
    ·cases h2
   ·cases h2
  ·rename_i x y hx
   have e1 : args = #[x, y] := by rw [← Array.toArray_toList (xs := args), hx]
   subst e1
   cases hm
   obtain ⟨l, h1, h2⟩ := bind_some hv
   have hp := evs_ok hT hf [x, y] l h1
   split at h2
   ·obtain ⟨n1, e1, h2⟩ := bind_some h2
    obtain ⟨n2, e2, h2⟩ := bind_some h2
    split at h2
    ·rename_i hk
     cases h2
     have r1 := hp.2 0 _ _ rfl rfl
     have r2 := hp.2 1 _ _ rfl rfl
     rw [intOf_eq e1] at r1
     rw [intOf_eq e2, ← hk] at r2
     have := (mm_ok (P := P) (rd := rd) (E := E) (st := st) (w := w) true argTypes type n1.1 n1.2 n2.2).does
     simpa [execOp, resolve, invoke, builtin, r1.lit, r2.lit] using this
    ·cases h2
   ·cases h2
  ·cases hm
 ·cases hm
end
end Go.Proofs.YtkcdgaijklhnaaaGreatDoor.Vm
namespace Go.Proofs.YtkcdgaijklhnaaaGreatDoor.Vm
open Go.RowKit
def flat (xs : List V) : List V := xs.flatMap V.cells
theorem flat_get {k : Nat} : ∀ (xs : List V) (i j : Nat) (x y : V), (∀ x ∈ xs, x.cells.length = k) → xs[i]? = some x → x.cells[j]? = some y → (flat xs)[i * k + j]? = some y
 | [], i, j, x, y, _, h, _ => by simp at h
 | z :: xs, 0, j, x, y, hk, h, hy => by
  simp at h; subst h
  have hj := (List.getElem?_eq_some_iff.1 hy).1
  rw [Nat.zero_mul, Nat.zero_add, flat, List.flatMap_cons, List.getElem?_append_left hj]
  exact hy
 | z :: xs, i + 1, j, x, y, hk, h, hy => by
  have hz := hk z List.mem_cons_self
  rw [flat, List.flatMap_cons, List.getElem?_append_right (by rw [hz, Nat.add_mul]; omega), hz]
  rw [show (i + 1) * k + j - k = i * k + j by rw [Nat.add_mul]; omega]
  exact flat_get xs i j x y (fun x hx => hk x (List.mem_cons_of_mem _ hx)) (by simpa using h) hy
theorem flat_len {k : Nat} : ∀ (xs : List V), (∀ x ∈ xs, x.cells.length = k) → (flat xs).length = xs.length * k
 | [], _ => by simp [flat]
 | z :: xs, hk => by
  rw [flat, List.flatMap_cons, List.length_append, hk z List.mem_cons_self, List.length_cons, Nat.add_mul]
  have := flat_len xs (fun x hx => hk x (List.mem_cons_of_mem _ hx))
  rw [flat] at this
  omega
theorem flat_append (xs ys : List V) : flat (xs ++ ys) = flat xs ++ flat ys := by simp [flat]
def allLeaf (x : V) : Bool := x.cells.all V.leaf
theorem allLeaf_get {x : V} (h : allLeaf x = true) (j : Nat) (y : V) (hy : x.cells[j]? = some y) : y.leaf = true := List.all_eq_true.1 h y (List.mem_of_getElem? hy)
def upd (x : V) (j : Nat) (u : V) : V := match x with
 | .agg l => .agg (l.take j ++ u.cells ++ l.drop (j + u.cells.length))
 | _ => u
theorem upd_cells {x u : V} {j : Nat} (h : j + u.cells.length ≤ x.cells.length) (hu : 0 < u.cells.length) : (upd x j u).cells = x.cells.take j ++ u.cells ++ x.cells.drop (j + u.cells.length) := by
 cases x with
 | agg l => rfl
 | _ =>
  have h1 : j + u.cells.length ≤ 1 := h
  obtain rfl : j = 0 := by omega
  have h2 : u.cells.length = 1 := by omega
  show u.cells = [] ++ u.cells ++ List.drop (0 + u.cells.length) [_]
  rw [h2]
  simp
section
variable {P : Program} {B : Nat} {w0 : World} {E : Env} {st st' : St} {w : World} {M : Nat → Nat → Bool}
theorem setRow_grown {w : World} {g : Nat} {cs : Array Value} : w.grownBy (w.setRow g cs) (some g) :=
 ⟨rfl, rfl, rfl, by simp [World.setRow], fun k _ hne => setRow_other w _ _ _ (fun e => hne (by rw [e]))⟩
def Eff (P : Program) (M : Nat → Nat → Bool) (B : Nat) (w0 : World) (E : Env) (st : St) (w : World) (v : V) (st' : St) (m : Sem Value) : Prop :=
 ∃ E' w' u, m.run P w = .ok u w' ∧ Rep B w0 E' st' w' ∧ Stp M E st w E' st' w' ∧ Rel E' st' w' v u
def mStore (M : Nat → Nat → Bool) (n : Nat) (st : St) (p u : V) : Option St :=
 match p with
 | .ptr b L i j => match st[b]? with
  | some (.row t k xs) => if xs.length = L ∧ rdOk M b j n = true ∧ u.cells.length = n ∧ 0 < n ∧ allLeaf u = true then (match xs[i]? with
   | some x => if j + n ≤ x.cells.length then some (st.set b (.row t k (xs.set i (upd x j u)))) else none
   | none => none) else none
  | _ => none
 | _ => none
theorem store_ok (h : Rep B w0 E st w) {t n : Nat} (hn : sizeX P t = some n) {p v : V} {up uv : Value} (hp : Rel E st w p up) (hv : Rel E st w v uv) (hs : mStore M n st p v = some st') :
  ∃ E' w', (Instr.storeAt t up uv).run P w = .ok () w' ∧ Rep B w0 E' st' w' ∧ Stp M E st w E' st' w' := by
 obtain ⟨ti, hi, rfl⟩ := sizeX_ok hn
 cases p with
 | ptr b L i j =>
  simp only [mStore] at hs
  split at hs
  ·rename_i t' k xs hb
   split at hs
   ·rename_i hc
    obtain ⟨hL, hM, hlen, hpos, hleaf⟩ := hc
    split at hs
    ·rename_i x hx
     split at hs
     ·rename_i hle
      cases hs
      cases hp with
      | pure hp => cases hp
      | ptr _ _ _ _ _ hbl h1 hh =>
       obtain ⟨-, g2⟩ := hh t' k xs hb
       obtain ⟨g3, g4, rfl⟩ := g2 hL.symm
       obtain ⟨⟨k0, k1, k2, k3, k4⟩, k5⟩ := h.ok b t' k xs hb
       obtain ⟨f1, cur, f2, f3, f4⟩ := k4 g4
       have hcok : v.cok = true := by
        cases v with
        | agg => rfl
        | _ => exact allLeaf_get hleaf 0 _ rfl
       obtain ⟨us, hus, hpw⟩ := hv.tocells hcok
       have hul : us.length = ti.size := hpw.1.trans hlen
       have hxk : x.cells.length = k := (k3 i x hx).1
       have hroom : i * k + j + us.length ≤ cur.size := by
        have h1 : (i + 1) * k ≤ E.κ b * k := Nat.mul_le_mul_right _ (by have := (List.getElem?_eq_some_iff.1 hx).1; omega)
        rw [Nat.add_mul] at h1
        omega
       have hst := run_storeCells_at P (E.φ b) (i * k + j) t' us 0 cur w f2 (by omega) (fun u hu => by
        obtain ⟨q, hq⟩ := List.getElem?_of_mem hu
        have hq2 : q < v.cells.length := by rw [← hpw.1]; exact (List.getElem?_eq_some_iff.1 hq).1
        exact (hpw.2 q _ u (List.getElem?_eq_getElem hq2) hq).one (allLeaf_get hleaf q _ (List.getElem?_eq_getElem hq2)))
       simp only [Nat.add_zero] at hst
       have hr : (Instr.storeAt t (.pointer (some ⟨E.φ b, i * k + j, none⟩)) uv).run P w = .ok () (w.setRow (E.φ b) (cur.toList.take (i * k + j) ++ us ++ cur.toList.drop (i * k + j + us.length)).toArray) := by
        simp [Instr.storeAt, Instr.sureAddr, storeVar, sizeOf, typeInfo, hi, hus, hul, hst]
        try (rw [← hul]; exact hst)
       have hlx := (List.getElem?_eq_some_iff.1 hx).1
       have hone := Rep.one_name (M := M) (st' := st.set b (.row t' k (xs.set i (upd x j v)))) h (n := b) (g := E.φ b) (c := E.κ b) (t := t') (k := k) (xs := xs.set i (upd x j v)) (cur := (cur.toList.take (i * k + j) ++ us ++ cur.toList.drop (i * k + j + us.length)).toArray) (row := some (E.φ b))
        (Or.inr ⟨xs, hb, by simp, fun _ => ⟨rfl, rfl⟩, rfl, Or.inr ⟨rfl, g4, fun p hp hMp => ?_⟩⟩) setRow_grown (setRow_heap w _ _ _ _ _ f2) (Or.inl rfl) k0 k1 (by simpa using k2) (by simp; omega) (fun i' x' hx' => ?_) (fun i' x' hx' q y hy => ?_)
       ·exact ⟨_, _, hr, hone.1, hone.2⟩
       ·obtain ⟨pb, po, ps⟩ := p
        simp only at hp hMp
        subst hp
        have hno : po < i * k + j ∨ i * k + j + us.length ≤ po := by
         apply Decidable.byContradiction
         intro hh
         have h1 : i * k + j ≤ po ∧ po < i * k + j + us.length := by omega
         have h2 : po % k = po - i * k := by
          have : po = po - i * k + k * i := by rw [Nat.mul_comm k i]; omega
          rw [this, Nat.add_mul_mod_self_left, Nat.mod_eq_of_lt (by omega)]
          rw [Nat.mul_comm k i]; omega
         rw [h2, show po - i * k = j + (po - i * k - j) by omega, rdOk_get hM _ (by omega)] at hMp
         cases hMp
        simp only [World.cell?, setRow_heap w _ _ _ _ _ f2, f2]
        split
        ·rfl
        ·have hcl : (cur.toList.take (i * k + j)).length = i * k + j := by simp; omega
         rw [List.getElem?_toArray, List.append_assoc, List.getElem?_append, hcl]
         split
         ·rename_i hm
          rw [List.getElem?_take_of_lt hm, Array.getElem?_toList]
         ·rw [List.getElem?_append, if_neg (by omega), List.getElem?_drop, Array.getElem?_toList]
          congr 1
          omega
       ·by_cases hii : i = i'
        ·subst hii
         rw [List.getElem?_set_self hlx] at hx'
         cases hx'
         have hcells := upd_cells (x := x) (u := v) (j := j) (by omega) (by omega)
         refine ⟨by rw [hcells]; simp; omega, fun q y hy => ?_⟩
         rw [hcells] at hy
         rcases List.mem_append.1 (List.mem_of_getElem? hy) with hm | hm
         ·rcases List.mem_append.1 hm with hm | hm
          ·obtain ⟨z, hz⟩ := List.getElem?_of_mem (List.mem_of_mem_take hm)
           exact (k3 i x hx).2 z y hz
          ·exact List.all_eq_true.1 hleaf y hm
         ·obtain ⟨z, hz⟩ := List.getElem?_of_mem (List.mem_of_mem_drop hm)
          exact (k3 i x hx).2 z y hz
        ·rw [List.getElem?_set_ne hii] at hx'
         exact k3 i' x' hx'
       ·have hcurlen : (cur.toList.take (i * k + j)).length = i * k + j := by simp; omega
        have hget : ∀ m, (cur.toList.take (i * k + j) ++ us ++ cur.toList.drop (i * k + j + us.length)).toArray[m]? = if m < i * k + j then cur[m]? else if m < i * k + j + us.length then us[m - (i * k + j)]? else cur[m]? := fun m => by
         rw [List.getElem?_toArray, List.append_assoc, List.getElem?_append, hcurlen]
         split
         ·rename_i hm
          rw [List.getElem?_take_of_lt hm, Array.getElem?_toList]
         ·rw [List.getElem?_append]
          split
          ·rw [if_pos (by omega)]
          ·rw [if_neg (by omega), List.getElem?_drop, Array.getElem?_toList]
           congr 1
           omega
        by_cases hii : i = i'
        ·subst hii
         rw [List.getElem?_set_self hlx] at hx'
         cases hx'
         have hcells := upd_cells (x := x) (u := v) (j := j) (by omega) (by omega)
         rw [hcells, List.append_assoc, List.getElem?_append, List.length_take, Nat.min_eq_left (by omega)] at hy
         rw [hget]
         split at hy
         ·rename_i hq
          rw [List.getElem?_take_of_lt hq] at hy
          rw [if_pos (by omega)]
          exact f4 i x hx q y hy
         ·rename_i hq
          rw [if_neg (by omega)]
          rw [List.getElem?_append] at hy
          split at hy
          ·rename_i hq2
           rw [if_pos (by omega)]
           have hq3 : i * k + q - (i * k + j) = q - j := by omega
           rw [hq3]
           have hq4 : q - j < us.length := by omega
           exact ⟨us[q - j], List.getElem?_eq_getElem hq4, hpw.2 _ y _ hy (List.getElem?_eq_getElem hq4)⟩
          ·rename_i hq2
           rw [if_neg (by omega)]
           rw [List.getElem?_drop] at hy
           have : j + v.cells.length + (q - j - v.cells.length) = q := by omega
           rw [this] at hy
           exact f4 i x hx q y hy
        ·rw [List.getElem?_set_ne hii] at hx'
         obtain ⟨u, q1, q2⟩ := f4 i' x' hx' q y hy
         refine ⟨u, ?_, q2⟩
         have hq : q < k := by rw [← (k3 i' x' hx').1]; exact (List.getElem?_eq_some_iff.1 hy).1
         rw [hget]
         rcases Nat.lt_or_gt_of_ne hii with hlt | hgt
         ·have := Nat.mul_le_mul_right k (show i + 1 ≤ i' by omega)
          rw [Nat.add_mul] at this
          rw [if_neg (by omega), if_neg (by omega)]
          exact q1
         ·have := Nat.mul_le_mul_right k (show i' + 1 ≤ i by omega)
          rw [Nat.add_mul] at this
          rw [if_pos (by omega)]
          exact q1
     ·cases hs
    ·cases hs
   ·cases hs
  ·cases hs
 | _ => cases hs
theorem new_ok (h : Rep B w0 E st w) {t k c : Nat} {xs : List V} {cur : Array Value} {w1 : World} (hg : w.grownBy w1 none) (hs : w1.heap.size = w.heap.size) (hk : 0 < k) (hm : c ≤ maxLen) (hl : xs.length ≤ c) (hz : cur.size = c * k)
  (hcl : ∀ x ∈ xs, x.cells.length = k ∧ allLeaf x = true) (hpw : ∀ (i : Nat) (y : V), (flat xs)[i]? = some y → ∃ u, cur[i]? = some u ∧ Rel E st w y u) :
  Rep B w0 (E.put st.length w.heap.size c) (st ++ [.row t k xs]) (w1.alloc (.cells cur t)) ∧ Stp M E st w (E.put st.length w.heap.size c) (st ++ [.row t k xs]) (w1.alloc (.cells cur t)) := by
 have hck : ∀ x ∈ xs, x.cells.length = k := fun x hx => (hcl x hx).1
 refine Rep.one_name h (row := none) (cur := cur) (Or.inl ⟨rfl, rfl, rfl⟩) ⟨hg.os, hg.tape, hg.output, by have := hg.size; simp; omega, fun q hq hne => ?_⟩ (by rw [← hs]; exact heap_alloc_new w1 _) (Or.inr (Nat.le_refl _)) hk hm hl hz (fun i x hx => ?_) (fun i x hx j y hy => ?_)
 ·rw [Below.heap_alloc w1 _ _ (by omega)]; exact hg.block q hq hne
 ·have := hcl x (List.mem_of_getElem? hx)
  exact ⟨this.1, fun j y hy => allLeaf_get this.2 j y hy⟩
 ·exact hpw _ y (flat_get xs i j x y hck hx hy)
theorem grown_refl (w : World) : w.grownBy w none := ⟨rfl, rfl, rfl, Nat.le_refl _, fun _ _ _ => rfl⟩
theorem grown_drew (w : World) : w.grownBy w.drew none := ⟨rfl, rfl, rfl, Nat.le_refl _, fun _ _ _ => rfl⟩
theorem new_ptr {t k : Nat} {x : V} {E' : Env} {w' : World} (hE : E' = E.put st.length w.heap.size 1) : Rel E' (st ++ [.row t k [x]]) w' (.ptr st.length 1 0 0) (.pointer (some ⟨w.heap.size, 0, none⟩)) := by
 subst hE
 refine .ptr _ _ _ _ _ (by simp) rfl fun t' k' xs' hb => ?_
 rw [List.getElem?_append_right (Nat.le_refl _)] at hb
 simp at hb
 obtain ⟨rfl, rfl, rfl⟩ := hb
 exact ⟨by simp, fun _ => ⟨by omega, by simp [Env.put], by simp [Env.put]⟩⟩
theorem flat_one (x : V) : flat [x] = x.cells := by simp [flat]
theorem box_ok (h : Rep B w0 E st w) {t : Nat} {v : V} {u : Value} (hv : Rel E st w v u) (hl : allLeaf v = true) (hk : 0 < v.cells.length) :
  Eff P M B w0 E st w (.ptr st.length 1 0 0) (st ++ [.row t v.cells.length [v]]) (Instr.box t u) := by
 have hcok : v.cok = true := by
  cases v with
  | agg => rfl
  | _ => exact allLeaf_get hl 0 _ rfl
 obtain ⟨us, hus, hpw⟩ := hv.tocells hcok
 obtain ⟨h1, h2⟩ := new_ok (M := M) (t := t) (k := v.cells.length) (c := 1) (xs := [v]) (cur := us.toArray) h (grown_refl w) rfl hk (by unfold maxLen; omega) (by simp) (by simp [hpw.1]) (fun x hx => by
  simp at hx; subst hx; exact ⟨rfl, hl⟩) (fun i y hy => by
  rw [flat_one] at hy
  have hlt : i < us.length := by rw [hpw.1]; exact (List.getElem?_eq_some_iff.1 hy).1
  exact ⟨us[i], by simp [hlt], hpw.2 i y _ hy (List.getElem?_eq_getElem hlt)⟩)
 exact ⟨_, _, _, by simp [Instr.box, newVar, newRow, hus], h1, h2, new_ptr rfl⟩
theorem alloc_ok (h : Rep B w0 E st w) {t : Nat} {v : V} {l : List V} (hz : zeroX P t = some l) (hv : v.cells = l) (hl : allLeaf v = true) (hk : 0 < v.cells.length) :
  Eff P M B w0 E st w (.ptr st.length 1 0 0) (st ++ [.row t v.cells.length [v]]) (Instr.alloc t true (.tuple #[])) := by
 obtain ⟨i, z, hi, hiz, rfl⟩ := zeroX_ok hz
 have hpw : Pw E st w v.cells z.cells.toList := by rw [hv]; exact Pw.nvals _
 obtain ⟨h1, h2⟩ := new_ok (M := M) (t := t) (k := v.cells.length) (c := 1) (xs := [v]) (cur := z.cells) h (grown_refl w) rfl hk (by unfold maxLen; omega) (by simp) (by have := hpw.1; simp at this; omega) (fun x hx => by
  simp at hx; subst hx; exact ⟨rfl, hl⟩) (fun i y hy => by
  rw [flat_one] at hy
  have hlt : i < z.cells.toList.length := by rw [hpw.1]; exact (List.getElem?_eq_some_iff.1 hy).1
  exact ⟨z.cells.toList[i], by rw [← Array.getElem?_toList]; exact List.getElem?_eq_getElem hlt, hpw.2 i y _ hy (List.getElem?_eq_getElem hlt)⟩)
 exact ⟨_, _, _, by simp [Instr.alloc, zeroValue, typeInfo, hi, hiz, newVar, newRow], h1, h2, new_ptr rfl⟩
end
end Go.Proofs.YtkcdgaijklhnaaaGreatDoor.Vm
namespace Go.Proofs.YtkcdgaijklhnaaaGreatDoor.Vm
open Go.RowKit
theorem flat_split {k : Nat} (hk : 0 < k) (xs : List V) (h : ∀ x ∈ xs, x.cells.length = k) {q : Nat} {y : V} (hy : (flat xs)[q]? = some y) : ∃ x, xs[q / k]? = some x ∧ x.cells[q % k]? = some y := by
 have hq : q < xs.length * k := by rw [← flat_len xs h]; exact (List.getElem?_eq_some_iff.1 hy).1
 have h1 : q / k < xs.length := Nat.div_lt_of_lt_mul (by rw [Nat.mul_comm]; exact hq)
 have h2 : q % k < (xs[q / k]).cells.length := by rw [h _ (List.getElem_mem h1)]; exact Nat.mod_lt _ hk
 have h3 := flat_get xs (q / k) (q % k) _ _ h (List.getElem?_eq_getElem h1) (List.getElem?_eq_getElem h2)
 rw [show q / k * k + q % k = q by rw [Nat.mul_comm]; exact Nat.div_add_mod q k, hy] at h3
 cases h3
 exact ⟨_, List.getElem?_eq_getElem h1, List.getElem?_eq_getElem h2⟩
section
variable {P : Program} {B : Nat} {w0 : World} {E : Env} {st st' : St} {w : World} {M : Nat → Nat → Bool}
theorem Rep.idle (h : Rep B w0 E st w) {w' : World} (hg : w.grownBy w' none) : Rep B w0 E st w' ∧ Stp M E st w E st w' := by
 have hBw : B ≤ w.heap.size := Nat.le_trans h.base h.below.size
 have hext : Ext E st w E st w' := ⟨Nat.le_refl _, fun _ h => h, fun p u hz hu => by rw [World.cell?_of_block (hg.block _ (h.zlt _ hz) (by simp))]; exact hu, fun _ _ _ xs _ h => ⟨xs, h, Nat.le_refl _, fun _ => ⟨rfl, rfl⟩⟩, fun _ es _ h => ⟨⟨es, h⟩, rfl⟩⟩
 refine ⟨⟨h.base, h.below.grown hg hBw (fun q hq => by cases hq), fun b hb => Nat.lt_of_lt_of_le (h.zlt b hb) hg.size, fun b t k xs hb => ?_, h.inj, fun b es hb => ⟨(h.maps b es hb).1, (h.maps b es hb).2.mono (fun _ h => h) hext.cell (hg.block _ (h.maps b es hb).2.lt (by simp))⟩, h.minj⟩, ⟨hext, fun b t k xs hb hk => Or.inl ⟨(List.getElem?_eq_some_iff.1 hb).1, rfl, hk⟩, fun p hp _ => World.cell?_of_block (hg.block p.block hp (by simp)), hg.size⟩⟩
 obtain ⟨⟨k0, k1, k2, k3, k4⟩, k5⟩ := h.ok b t k xs hb
 refine ⟨⟨k0, k1, k2, k3, fun hk => ?_⟩, k5⟩
 obtain ⟨g1, cur, g2, g3, g4⟩ := k4 hk
 refine ⟨g1, cur, by rw [hg.block _ (h.mem hb hk) (by simp)]; exact g2, g3, fun i x hi j y hy => ?_⟩
 obtain ⟨u, f1, f2⟩ := g4 i x hi j y hy
 exact ⟨u, f1, f2.mono hext⟩
theorem Rep.unborn (h : Rep B w0 E st w) {t k : Nat} (hk : 0 < k) : Rep B w0 (E.put st.length 0 0) (st ++ [.row t k []]) w ∧ Stp M E st w (E.put st.length 0 0) (st ++ [.row t k []]) w := by
 have hget : ∀ (b t2 k2 : Nat) (xs2 : List V), (st ++ [.row t k []])[b]? = some (.row t2 k2 xs2) → (b < st.length ∧ st[b]? = some (.row t2 k2 xs2)) ∨ (b = st.length ∧ t2 = t ∧ k2 = k ∧ xs2 = []) := fun b t2 k2 xs2 hb => by
  rw [List.getElem?_append] at hb
  split at hb
  ·exact Or.inl ⟨by assumption, hb⟩
  ·have : b - st.length = 0 := by
    have := (List.getElem?_eq_some_iff.1 hb).1
    simpa using this
   rw [this] at hb
   simp at hb
   exact Or.inr ⟨by omega, hb.1.symm, hb.2.1.symm, hb.2.2⟩
 have hgm : ∀ (b : Nat) (es : List (Value × V)), (st ++ [.row t k []])[b]? = some (.map es) → b ≠ st.length ∧ st[b]? = some (.map es) := fun b es hb => by
  rw [List.getElem?_append] at hb
  split at hb
  ·exact ⟨by omega, hb⟩
  ·have : b - st.length = 0 := by
    have := (List.getElem?_eq_some_iff.1 hb).1
    simpa using this
   rw [this] at hb
   simp at hb
 have hext : Ext E st w (E.put st.length 0 0) (st ++ [.row t k []]) w := by
  refine ⟨by simp, fun _ h => h, fun _ _ _ h => h, fun b t2 k2 xs2 hb hx => ?_, fun b es hb hx => ⟨⟨es, (hgm b es hx).2⟩, by simp [Env.put, (hgm b es hx).1]⟩⟩
  rw [List.getElem?_append_left hb] at hx
  exact ⟨xs2, hx, Nat.le_refl _, fun _ => by simp [Env.put, Nat.ne_of_lt hb]⟩
 have hκ : ∀ b, 0 < (E.put st.length 0 0).κ b → b ≠ st.length ∧ 0 < E.κ b := fun b hb => by
  by_cases e : b = st.length
  ·subst e; simp [Env.put] at hb
  ·simp only [Env.put, e, if_false] at hb; exact ⟨e, hb⟩
 refine ⟨⟨h.base, h.below, h.zlt, fun b t2 k2 xs2 hb => ?_, fun a b t1 k1 x1 t2 k2 x2 ha hb ka kb e => ?_, fun b es hb => by
  obtain ⟨e1, e2⟩ := hgm b es hb
  have e3 : (E.put st.length 0 0).φ b = E.φ b := by simp [Env.put, e1]
  rw [e3]
  exact h.maps b es e2, fun a b es es' ha hb e => by
  obtain ⟨a1, a2⟩ := hgm a es ha
  obtain ⟨b1, b2⟩ := hgm b es' hb
  simp only [Env.put, a1, b1, if_false] at e
  exact h.minj a b es es' a2 b2 e⟩, ⟨hext, fun b t2 k2 xs2 hb hkb => ?_, fun _ _ _ => rfl, Nat.le_refl _⟩⟩
 ·rcases hget b t2 k2 xs2 hb with ⟨hlt, hb'⟩ | ⟨rfl, rfl, rfl, rfl⟩
  ·have hne : b ≠ st.length := Nat.ne_of_lt hlt
   obtain ⟨⟨k0, k1, k2', k3, k4⟩, k5⟩ := h.ok b t2 k2 xs2 hb'
   refine ⟨⟨k0, by simp [Env.put, hne, k1], by simp [Env.put, hne, k2'], k3, fun hkb => ?_⟩, fun hkb => by simp only [Env.put, hne, if_false] at hkb ⊢; exact k5 hkb⟩
   simp only [Env.put, hne, if_false] at hkb ⊢
   obtain ⟨g1, cur, g2, g3, g4⟩ := k4 hkb
   refine ⟨g1, cur, g2, g3, fun i x hi j y hy => ?_⟩
   obtain ⟨u, f1, f2⟩ := g4 i x hi j y hy
   exact ⟨u, f1, f2.mono hext⟩
  ·exact ⟨⟨hk, by simp [Env.put], by simp [Env.put], fun i x hx => by simp at hx, fun hkb => absurd hkb (by simp [Env.put])⟩, fun hkb => absurd hkb (by simp [Env.put])⟩
 ·obtain ⟨na, ka⟩ := hκ a ka
  obtain ⟨nb, kb⟩ := hκ b kb
  simp only [Env.put, na, nb, if_false] at e
  rcases hget a _ _ _ ha with ⟨-, ha'⟩ | ⟨e1, -⟩
  ·rcases hget b _ _ _ hb with ⟨-, hb'⟩ | ⟨e1, -⟩
   ·exact h.inj _ _ _ _ _ _ _ _ ha' hb' ka kb e
   ·exact absurd e1 nb
  ·exact absurd e1 na
 ·obtain ⟨nb, kb⟩ := hκ b hkb
  rcases hget b _ _ _ hb with ⟨hlt, hb'⟩ | ⟨e1, -⟩
  ·exact Or.inl ⟨hlt, by simp [Env.put, nb], kb⟩
  ·exact absurd e1 nb
theorem new_own {t k n c : Nat} {xs : List V} {E' : Env} {w' : World} {u : Value} {A : Option Addr} (hE : E' = E.put st.length w.heap.size c) (hu : u = .slice A n c) (hA : 0 < c → A = some ⟨w.heap.size, 0, none⟩) (hn : xs.length = n) : Rel E' (st ++ [.row t k xs]) w' (.own st.length n 0 n) u := by
 subst hE hu
 refine .own _ _ _ _ _ (by simp) rfl fun t' k' xs' hb => ?_
 rw [List.getElem?_append_right (Nat.le_refl _)] at hb
 simp at hb
 obtain ⟨rfl, rfl, rfl⟩ := hb
 exact ⟨by omega, fun _ => ⟨by omega, A, by simp [Env.put], fun hp => by simp [Env.put] at hp ⊢; exact hA hp⟩⟩
def setAll (xs : List V) : List (Nat × V) → List V
 | [] => xs
 | (i, v) :: r => setAll (xs.set i v) r
theorem setAll_len : ∀ (ps : List (Nat × V)) (xs : List V), (setAll xs ps).length = xs.length
 | [], _ => rfl
 | (i, v) :: r, xs => by rw [setAll, setAll_len r]; simp
theorem setAll_mem {p : V → Prop} : ∀ (ps : List (Nat × V)) (xs : List V), (∀ x ∈ xs, p x) → (∀ q ∈ ps, p q.2) → ∀ x ∈ setAll xs ps, p x
 | [], _, h, _ => h
 | (i, v) :: r, xs, h, hp => setAll_mem r _ (fun x hx => by
   rcases List.mem_or_eq_of_mem_set hx with hx | rfl
   ·exact h x hx
   ·exact hp _ List.mem_cons_self) (fun q hq => hp q (List.mem_cons_of_mem _ hq))
theorem flat_set {k : Nat} : ∀ (xs : List V) (i : Nat) (v : V), (∀ x ∈ xs, x.cells.length = k) → v.cells.length = k → i < xs.length → flat (xs.set i v) = (flat xs).take (i * k) ++ v.cells ++ (flat xs).drop (i * k + k)
 | [], i, v, _, _, h => by simp at h
 | z :: xs, 0, v, hk, hv, _ => by
  have hz := hk z List.mem_cons_self
  simp only [List.set_cons_zero, flat, List.flatMap_cons, Nat.zero_mul, List.take_zero, List.nil_append, Nat.zero_add]
  rw [← hz, List.drop_left']
  rfl
 | z :: xs, i + 1, v, hk, hv, h => by
  have hz := hk z List.mem_cons_self
  have ih := flat_set xs i v (fun x hx => hk x (List.mem_cons_of_mem _ hx)) hv (by simpa using h)
  simp only [List.set_cons_succ]
  show z.cells ++ flat (xs.set i v) = List.take ((i + 1) * k) (z.cells ++ flat xs) ++ v.cells ++ List.drop ((i + 1) * k + k) (z.cells ++ flat xs)
  rw [ih]
  have e1 : (i + 1) * k = z.cells.length + i * k := by rw [hz, Nat.add_mul]; omega
  rw [e1, List.take_length_add_append, show z.cells.length + i * k + k = z.cells.length + (i * k + k) by omega, List.drop_length_add_append]
  simp
theorem fillV_setAll {k : Nat} : ∀ (ps : List (Nat × V)) (xs : List V), (∀ x ∈ xs, x.cells.length = k) → (∀ q ∈ ps, q.1 < xs.length ∧ q.2.cells.length = k ∧ q.2.cok = true) → fillV (flat xs) (ps.map fun q => (q.1 * k, k, q.2)) = some (flat (setAll xs ps))
 | [], xs, _, _ => rfl
 | (i, v) :: r, xs, hk, hp => by
  obtain ⟨h1, h2, h3⟩ := hp _ List.mem_cons_self
  simp only at h1 h2 h3
  simp only [List.map_cons, fillV]
  have hfl := flat_len xs hk
  have hle : i * k + k ≤ (flat xs).length := by
   rw [hfl]
   have := Nat.mul_le_mul_right k (show i + 1 ≤ xs.length from h1)
   rw [Nat.add_mul] at this
   omega
  rw [if_pos ⟨h2, hle, h3⟩, ← flat_set xs i v hk h2 h1]
  exact fillV_setAll r (xs.set i v) (fun x hx => by
   rcases List.mem_or_eq_of_mem_set hx with hx | rfl
   ·exact hk x hx
   ·exact h2) (fun q hq => by have := hp q (List.mem_cons_of_mem _ hq); simpa using this)
theorem flat_rep {k : Nat} (z : V) (hz : z.cells.length = k) (hk : 0 < k) (n : Nat) (q : Nat) (y : V) (hy : (flat (List.replicate n z))[q]? = some y) : z.cells[q % k]? = some y := by
 obtain ⟨x, h1, h2⟩ := flat_split hk _ (fun x hx => by rw [List.eq_of_mem_replicate hx]; exact hz) hy
 rw [List.eq_of_mem_replicate (List.mem_of_getElem? h1)] at h2
 exact h2
theorem made_pw {z : Value} {zv : V} {k n : Nat} (hz : zv.cells = z.cells.toList.map nval) (hk : zv.cells.length = k) (hk0 : 0 < k) : Pw E st w (flat (List.replicate n zv)) (madeCells z.cells (n * k)).toList := by
 have hsz : z.cells.size = k := by rw [← hk, hz]; simp
 refine ⟨?_, fun q y u hy hu => ?_⟩
 ·rw [flat_len (k := k) _ (fun x hx => by rw [List.eq_of_mem_replicate hx]; exact hk)]
  simp [madeCells]
 ·have h1 := flat_rep zv hk hk0 n q y hy
  have hq : q < n * k := by have := (List.getElem?_eq_some_iff.1 hu).1; simpa [madeCells] using this
  have hm : q % k < z.cells.size := by rw [hsz]; exact Nat.mod_lt _ hk0
  rw [Array.getElem?_toList] at hu
  simp only [madeCells, Array.getElem?_map, Array.getElem?_range, hq, if_true, Option.map_some, Option.some.injEq, hsz] at hu
  rw [hz, List.getElem?_map, Array.getElem?_toList, Array.getElem?_eq_getElem hm] at h1
  simp only [Option.map_some, Option.some.injEq] at h1
  rw [show z.cells[q % k]! = z.cells[q % k] from getElem!_pos z.cells (q % k) hm] at hu
  rw [← h1, ← hu]
  exact .pure (nval_ok _ _ _)
theorem bsl_ok (h : Rep B w0 E st w) {t e k len : Nat} {z : V} {l : List V} (hu : P.underlying t = some (.slice e)) (hk : sizeX P e = some k) (hz : zeroX P e = some l) (hv : z.cells = l) (hzk : z.cells.length = k) (hzl : allLeaf z = true) (hk0 : 0 < k) (hlen : 0 < len) (hsm : len * k ≤ 16777216)
  (parts : List (Nat × Value)) (ps : List (Nat × V)) (hpl : parts.length = ps.length) (hpp : ∀ (i : Nat) (p : Nat × Value) (q : Nat × V), parts[i]? = some p → ps[i]? = some q → p.1 = q.1 ∧ Rel E st w q.2 p.2) (hps : ∀ q ∈ ps, q.1 < len ∧ q.2.cells.length = k ∧ allLeaf q.2 = true) :
  Eff P M B w0 E st w (.own st.length len 0 len) (st ++ [.row e k (setAll (List.replicate len z) ps)]) (Instr.buildSlice t len parts.toArray) := by
 obtain ⟨i, zz, hi, hiz, rfl⟩ := zeroX_ok hz
 obtain ⟨ie, hie, rfl⟩ := sizeX_ok hk
 obtain rfl : ie = i := by rw [hie] at hi; injection hi
 have hcok : ∀ q ∈ ps, q.2.cok = true := fun q hq => by
  obtain ⟨-, -, hl⟩ := hps q hq
  cases hq2 : q.2 with
  | agg => rfl
  | _ => rw [hq2] at hl; exact allLeaf_get hl 0 _ rfl
 have hrep : ∀ x ∈ List.replicate len z, x.cells.length = ie.size := fun x hx => by rw [List.eq_of_mem_replicate hx]; exact hzk
 have hf := fillV_setAll ps (List.replicate len z) hrep (fun q hq => ⟨by simpa using (hps q hq).1, (hps q hq).2.1, hcok q hq⟩)
 have hpw := made_pw (E := E) (st := st) (w := w) (n := len) hv hzk hk0
 obtain ⟨us, q1, q2⟩ := fill_ok (E := E) (st := st) (w := w) (fun i => some (i * ie.size, ie.size)) parts (ps.map fun q => (q.1 * ie.size, ie.size, q.2)) _ _ _ (by simpa using hpl) (fun j p q hp hq => by
  rw [List.getElem?_map] at hq
  cases hq' : ps[j]? with
  | none => rw [hq'] at hq; cases hq
  | some q' =>
   rw [hq'] at hq
   cases hq
   obtain ⟨e1, e2⟩ := hpp j p q' hp hq'
   exact ⟨by rw [e1], e2⟩) hpw hf
 rw [Array.toArray_toList] at q1
 have hall : ∀ x ∈ setAll (List.replicate len z) ps, x.cells.length = ie.size ∧ allLeaf x = true := setAll_mem ps _ (fun x hx => by rw [List.eq_of_mem_replicate hx]; exact ⟨hzk, hzl⟩) (fun q hq => (hps q hq).2)
 have hle : len ≤ len * ie.size := Nat.le_mul_of_pos_right _ hk0
 obtain ⟨h1, h2⟩ := new_ok (M := M) (t := e) (k := ie.size) (c := len) (xs := setAll (List.replicate len z) ps) (cur := us.toArray) h (grown_refl w) rfl hk0 (by unfold maxLen; omega) (by rw [setAll_len]; simp) (by
  have := q2.1
  rw [flat_len _ (fun x hx => (hall x hx).1), setAll_len] at this
  simpa using this) hall (fun q y hy => by
  have hlt : q < us.length := by rw [q2.1]; exact (List.getElem?_eq_some_iff.1 hy).1
  exact ⟨us[q], by simp [hlt], q2.2 q y _ hy (List.getElem?_eq_getElem hlt)⟩)
 have hne : ¬ len * ie.size = 0 := by omega
 have hgt : ¬ len * ie.size > 2 ^ 24 := by omega
 refine ⟨_, _, _, ?_, h1, h2, new_own (c := len) (A := some ⟨w.heap.size, 0, none⟩) rfl rfl (fun _ => rfl) (by rw [setAll_len]; simp)⟩
 have q1' : Instr.fill (fun i => some (i * ie.size, ie.size)) ((Array.range (len * ie.size)).map (zz.cells[· % zz.cells.size]!)) parts = some us.toArray := q1
 simp [Instr.buildSlice, run_underlying hu, sizeOf, typeInfo, zeroValue, hie, hiz, hgt, hne, q1', newRow]
theorem mksl_ok (h : Rep B w0 E st w) {t e k bytes : Nat} {z : V} {l : List V} (hu : P.underlying t = some (.slice e)) (hk : sizeX P e = some k) (hby : (P.info? e).map (·.bytes) = some bytes) (hz : zeroX P e = some l) (hv : z.cells = l) (hzk : z.cells.length = k) (hzl : allLeaf z = true) (hk0 : 0 < k)
  {kl kc : IntKind} {n c : Int} (h0 : 0 ≤ n) (hnc : n ≤ c) (hb : (bytes : Int) * c ≤ 281474976710656) (h63 : c ≤ 9223372036854775807) :
  Eff P M B w0 E st w (.own st.length n.toNat 0 n.toNat) (st ++ [.row e k (List.replicate n.toNat z)]) (Instr.makeSlice t (.int kl n) (.int kc c)) := by
 obtain ⟨i, zz, hi, hiz, rfl⟩ := zeroX_ok hz
 obtain ⟨ie, hie, rfl⟩ := sizeX_ok hk
 obtain rfl : ie = i := by rw [hie] at hi; injection hi
 obtain rfl : ie.bytes = bytes := by rw [hi] at hby; simpa using hby
 have hrun := run_make (P := P) w t e ie zz hu hi hiz kl kc n c h0 hnc hb h63
 by_cases hc : c = 0
 ·subst hc
  obtain rfl : n = 0 := by omega
  have hg : w.grownBy (w.alloc (.cells (madeCells zz.cells ((0 : Int).toNat * ie.size)) e)) none := ⟨rfl, rfl, rfl, by simp, fun q hq _ => Below.heap_alloc w _ _ hq⟩
  obtain ⟨r1, r2⟩ := Rep.idle (M := M) h hg
  obtain ⟨s1, s2⟩ := Rep.unborn (M := M) (t := e) r1 hk0
  refine ⟨_, _, _, hrun, s1, r2.trans s2, ?_⟩
  refine .own _ _ _ _ _ (by simp) rfl fun t' k' xs' hb => ?_
  rw [List.getElem?_append_right (Nat.le_refl _)] at hb
  simp at hb
  obtain ⟨rfl, rfl, rfl⟩ := hb
  exact ⟨by simp, fun _ => ⟨by simp, some ⟨w.heap.size, 0, none⟩, by simp [Env.put], fun hp => by simp [Env.put] at hp⟩⟩
 ·have hrep : ∀ x ∈ List.replicate n.toNat z, x.cells.length = ie.size ∧ allLeaf x = true := fun x hx => by rw [List.eq_of_mem_replicate hx]; exact ⟨hzk, hzl⟩
  have hpw := made_pw (E := E) (st := st) (w := w) (n := c.toNat) hv hzk hk0
  obtain ⟨h1, h2⟩ := new_ok (M := M) (t := e) (k := ie.size) (c := c.toNat) (xs := List.replicate n.toNat z) (cur := madeCells zz.cells (c.toNat * ie.size)) h (grown_refl w) rfl hk0 (by unfold maxLen; omega) (by simp; omega) (by simp [size_madeCells]) hrep (fun q y hy => by
   have hq : q < n.toNat * ie.size := by rw [← List.length_replicate (n := n.toNat) (a := z), ← flat_len _ (fun x hx => (hrep x hx).1)]; exact (List.getElem?_eq_some_iff.1 hy).1
   have hq2 : q < c.toNat * ie.size := Nat.lt_of_lt_of_le hq (Nat.mul_le_mul_right _ (by omega))
   have hy1 := flat_rep z hzk hk0 _ q y hy
   have hlt : q < (flat (List.replicate c.toNat z)).length := by rw [flat_len (k := ie.size) _ (fun x hx => by rw [List.eq_of_mem_replicate hx]; exact hzk)]; simpa using hq2
   have hy2 := flat_rep z hzk hk0 c.toNat q _ (List.getElem?_eq_getElem hlt)
   rw [hy1] at hy2
   have hlu : q < (madeCells zz.cells (c.toNat * ie.size)).toList.length := by rw [hpw.1]; exact hlt
   refine ⟨(madeCells zz.cells (c.toNat * ie.size)).toList[q], by rw [← Array.getElem?_toList]; exact List.getElem?_eq_getElem hlu, hpw.2 q y _ ?_ (List.getElem?_eq_getElem hlu)⟩
   rw [List.getElem?_eq_getElem hlt]
   exact hy2.symm)
  exact ⟨_, _, _, hrun, h1, h2, new_own (c := c.toNat) (A := some ⟨w.heap.size, 0, none⟩) rfl rfl (fun _ => rfl) (by simp)⟩
end
end Go.Proofs.YtkcdgaijklhnaaaGreatDoor.Vm
