/-
  The plain law of graphs: names, sizes, axes.
-/
import Derived.Test.YtgaiibkkompbnaaGreatDoorGr
namespace Go.Proofs.YtgaiibkkompbnaaGreatDoor

/-- texts: equal, less -/
def sEq (a b : ByteArray) : Bool := a.toList == b.toList
def sLt (a b : ByteArray) : Bool := Op.bytesLess a.toList b.toList
def iEq (a b : Int) : Bool := a == b
theorem iEq_iff (a b : Int) : iEq a b = true ↔ a = b := by simp [iEq]
theorem toList_inj {a b : ByteArray} (h : a.toList = b.toList) : a = b := by
  have h1 : a.data.toList = b.data.toList := by rw [← Go.ByteArray.toList_eq, ← Go.ByteArray.toList_eq, h]
  cases a; cases b
  simp only [ByteArray.mk.injEq]
  exact Array.toList_inj.1 h1
theorem sEq_iff {a b : ByteArray} : sEq a b = true ↔ a = b := by
  unfold sEq
  rw [beq_iff_eq]
  exact ⟨toList_inj, fun h => by rw [h]⟩
theorem sEq_refl (a : ByteArray) : sEq a a = true := sEq_iff.2 rfl
theorem bl_irrefl : ∀ l : List UInt8, Op.bytesLess l l = false
  | [] => rfl
  | a :: l => by simp [Op.bytesLess, bl_irrefl l]
theorem bl_trans : ∀ {a b d : List UInt8}, Op.bytesLess a b = true → Op.bytesLess b d = true → Op.bytesLess a d = true
  | [], _ :: _, _ :: _, _, _ => rfl
  | [], [], _, h, _ => by simp [Op.bytesLess] at h
  | _ :: _, [], _, h, _ => by simp [Op.bytesLess] at h
  | _, _ :: _, [], _, h => by simp [Op.bytesLess] at h
  | x :: a, y :: b, z :: d, h1, h2 => by
    simp only [Op.bytesLess, Bool.or_eq_true, decide_eq_true_eq, Bool.and_eq_true, beq_iff_eq] at h1 h2 ⊢
    rcases h1 with h1 | ⟨rfl, h1⟩
    · rcases h2 with h2 | ⟨rfl, _⟩
      · exact .inl (UInt8.lt_trans h1 h2)
      · exact .inl h1
    · rcases h2 with h2 | ⟨rfl, h2⟩
      · exact .inl h2
      · exact .inr ⟨rfl, bl_trans h1 h2⟩
theorem bl_tri : ∀ (a b : List UInt8), Op.bytesLess a b = false → Op.bytesLess b a = false → a = b
  | [], [], _, _ => rfl
  | [], _ :: _, h, _ => by simp [Op.bytesLess] at h
  | _ :: _, [], _, h => by simp [Op.bytesLess] at h
  | x :: a, y :: b, h1, h2 => by
    simp only [Op.bytesLess, Bool.or_eq_false_iff, decide_eq_false_iff_not, Bool.and_eq_false_iff] at h1 h2
    have hxy : x = y := by
      have h3 : ¬ x.toNat < y.toNat := h1.1
      have h4 : ¬ y.toNat < x.toNat := h2.1
      exact UInt8.toNat_inj.1 (by omega)
    subst hxy
    have h5 : Op.bytesLess a b = false := by rcases h1.2 with h | h <;> simp_all
    have h6 : Op.bytesLess b a = false := by rcases h2.2 with h | h <;> simp_all
    rw [bl_tri a b h5 h6]
theorem sLt_irrefl (a : ByteArray) : sLt a a = false := bl_irrefl _
theorem sLt_trans {a b d : ByteArray} (h : sLt a b = true) (k : sLt b d = true) : sLt a d = true := bl_trans h k
theorem sLt_tri {a b : ByteArray} (h : sLt a b = false) (k : sLt b a = false) : a = b := toList_inj (bl_tri _ _ h k)
theorem sLt_asymm {a b : ByteArray} (h : sLt a b = true) : sLt b a = false := by
  cases k : sLt b a
  · rfl
  · have := sLt_trans h k
    rw [sLt_irrefl] at this
    cases this

/-- letters, names -/
def low (c : UInt8) : Bool := decide (97 ≤ c.toNat) && decide (c.toNat ≤ 122)
def alnum (c : UInt8) : Bool := low c || (decide (48 ≤ c.toNat) && decide (c.toNat ≤ 57))
def nameB : List UInt8 → Bool
  | [] => false
  | c :: t => low c && t.all alnum && decide (t.length ≤ 7)
def isName (s : ByteArray) : Bool := nameB s.toList

def eqL {α β : Type} (eq : α → β → Bool) : List α → List β → Bool
  | [], [] => true
  | x :: xs, y :: ys => eq x y && eqL eq xs ys
  | _, _ => false
theorem eqL_len {α β : Type} {eq : α → β → Bool} : ∀ {xs : List α} {ys : List β}, xs.length ≠ ys.length → eqL eq xs ys = false
  | [], [], h => absurd rfl h
  | [], _ :: _, _ => rfl
  | _ :: _, [], _ => rfl
  | x :: xs, y :: ys, h => by rw [eqL, eqL_len (by simpa using h), Bool.and_false]
theorem eqL_iff {α : Type} {eq : α → α → Bool} (h : ∀ a b, eq a b = true ↔ a = b) : ∀ {xs ys : List α}, eqL eq xs ys = true ↔ xs = ys
  | [], [] => by simp [eqL]
  | [], _ :: _ => by simp [eqL]
  | _ :: _, [] => by simp [eqL]
  | x :: xs, y :: ys => by rw [eqL, Bool.and_eq_true, h, eqL_iff h, List.cons.injEq]
/-- the loop of slices.Equal -/
theorem eqL_take {α β : Type} {eq : α → β → Bool} : ∀ {xs : List α} {ys : List β} {j : Nat} {x : α} {y : β}, xs[j]? = some x → ys[j]? = some y → eqL eq (xs.take (j + 1)) (ys.take (j + 1)) = (eqL eq (xs.take j) (ys.take j) && eq x y)
  | [], _, _, _, _, h, _ => by simp at h
  | _, [], _, _, _, _, h => by simp at h
  | a :: xs, b :: ys, 0, x, y, h, k => by
    simp at h k; subst h; subst k
    simp [eqL]
  | a :: xs, b :: ys, j + 1, x, y, h, k => by
    simp at h k
    rw [List.take_succ_cons, List.take_succ_cons, List.take_succ_cons, List.take_succ_cons, eqL, eqL_take h k, eqL, Bool.and_assoc]
theorem eqL_no {α β : Type} {eq : α → β → Bool} : ∀ {xs : List α} {ys : List β} {j : Nat} {x : α} {y : β}, xs[j]? = some x → ys[j]? = some y → eq x y = false → eqL eq xs ys = false
  | [], _, _, _, _, h, _, _ => by simp at h
  | _, [], _, _, _, _, h, _ => by simp at h
  | a :: xs, b :: ys, 0, x, y, h, k, e => by
    simp at h k; subst h; subst k
    rw [eqL, e, Bool.false_and]
  | a :: xs, b :: ys, j + 1, x, y, h, k, e => by
    simp at h k
    rw [eqL, eqL_no h k e, Bool.and_false]

/-- the place of the first element that answers, or -1 -/
def idxI {α : Type} (p : α → Bool) (xs : List α) : Int := match xs.findIdx? p with
  | some i => (i : Int)
  | none => -1
theorem idxI_none {α : Type} {p : α → Bool} {xs : List α} (h : xs.any p = false) : idxI p xs = -1 := by
  have : xs.findIdx? p = none := by rw [List.findIdx?_eq_none_iff]; intro x hx; exact List.any_eq_false.1 h x hx |> (fun h => by simpa using h)
  rw [idxI, this]
theorem idxI_some {α : Type} {p : α → Bool} {xs : List α} {j : Nat} {x : α} (h : (xs.take j).any p = false) (hx : xs[j]? = some x) (hp : p x = true) : idxI p xs = (j : Int) := by
  have hj := (List.getElem?_eq_some_iff.1 hx)
  obtain ⟨hj, hxj⟩ := hj
  have : xs.findIdx? p = some j := by
    rw [List.findIdx?_eq_some_iff_getElem]
    refine ⟨hj, by rw [hxj]; exact hp, fun i hi => ?_⟩
    have := List.any_eq_false.1 h (xs[i]'(by omega)) (by rw [List.mem_take_iff_getElem]; exact ⟨i, by omega, rfl⟩)
    simpa using this
  rw [idxI, this]
theorem idxI_any {α : Type} (p : α → Bool) (xs : List α) : decide (0 ≤ idxI p xs) = xs.any p := by
  cases h : xs.any p
  · rw [idxI_none h]; rfl
  · unfold idxI
    cases h2 : xs.findIdx? p
    · rw [List.findIdx?_eq_none_iff] at h2
      rw [List.any_eq_true] at h
      obtain ⟨x, hx, hp⟩ := h
      rw [h2 x hx] at hp
      cases hp
    · simp
theorem idxI_lt {α : Type} {p : α → Bool} {xs : List α} {j : Nat} (h : idxI p xs = (j : Int)) : ∃ x, xs[j]? = some x ∧ p x = true ∧ xs.find? p = some x := by
  unfold idxI at h
  split at h
  · rename_i i hi
    have : i = j := by omega
    subst this
    rw [List.findIdx?_eq_some_iff_getElem] at hi
    obtain ⟨h1, h2, h3⟩ := hi
    refine ⟨xs[i], List.getElem?_eq_getElem h1, h2, ?_⟩
    rw [List.find?_eq_some_iff_getElem]
    exact ⟨h2, i, h1, rfl, fun k hk => by simpa using h3 k hk⟩
  · omega
theorem idxI_find_none {α : Type} {p : α → Bool} {xs : List α} (h : idxI p xs < 0) : xs.find? p = none := by
  unfold idxI at h
  split at h
  · omega
  · rename_i h2
    rw [List.findIdx?_eq_none_iff] at h2
    rw [List.find?_eq_none]
    intro x hx
    rw [h2 x hx]; exact Bool.false_ne_true
theorem idxI_dom {α : Type} (p : α → Bool) (xs : List α) : idxI p xs = -1 ∨ ∃ j : Nat, j < xs.length ∧ idxI p xs = (j : Int) := by
  unfold idxI
  split
  · rename_i i hi
    rw [List.findIdx?_eq_some_iff_getElem] at hi
    exact .inr ⟨i, hi.1, rfl⟩
  · exact .inl rfl

def eqTerm (a b : LTerm) : Bool := sEq a.sym b.sym && decide (a.n = b.n)
def eqSym (a b : LSym) : Bool := sEq a.name b.name && decide (a.lo = b.lo) && decide (a.hi = b.hi)
def eqSize (a b : LSize) : Bool := decide (a.base = b.base) && eqL eqTerm a.terms b.terms
def eqAxis (a b : LAxis) : Bool := sEq a.name b.name && eqSize a.size b.size
def eqAxes (a b : List LAxis) : Bool := eqL eqAxis a b
theorem eqTerm_iff (a b : LTerm) : eqTerm a b = true ↔ a = b := by
  cases a; cases b
  simp [eqTerm, sEq_iff]
theorem eqSym_iff (a b : LSym) : eqSym a b = true ↔ a = b := by
  cases a; cases b
  simp [eqSym, sEq_iff, and_assoc]
theorem eqSize_iff (a b : LSize) : eqSize a b = true ↔ a = b := by
  cases a; cases b
  simp [eqSize, eqL_iff eqTerm_iff]
theorem eqAxis_iff (a b : LAxis) : eqAxis a b = true ↔ a = b := by
  cases a; cases b
  simp [eqAxis, sEq_iff, eqSize_iff]
theorem eqAxes_iff (a b : List LAxis) : eqAxes a b = true ↔ a = b := eqL_iff eqAxis_iff

/-- a symbol by its name; the place of an axis -/
def symAt (syms : List LSym) (name : ByteArray) : Option LSym := syms.find? fun s => sEq s.name name
def placeI (l : List LAxis) (name : ByteArray) : Int := idxI (fun x => sEq x.name name) l
def axAt (l : List LAxis) (name : ByteArray) : Option LAxis := l.find? fun x => sEq x.name name
def numS (n : Int) : LSize := ⟨n, []⟩
def near (n : Int) : Bool := decide (-1000 ≤ n) && decide (n ≤ 1000)
def tLo (syms : List LSym) (t : LTerm) : Int := match symAt syms t.sym with
  | some y => if t.n * y.hi < t.n * y.lo then t.n * y.hi else t.n * y.lo
  | none => 0
def tHi (syms : List LSym) (t : LTerm) : Int := match symAt syms t.sym with
  | some y => if t.n * y.lo < t.n * y.hi then t.n * y.hi else t.n * y.lo
  | none => 0
/-- a term that may stand behind the one ahead of it -/
def tAt (f : LTerm → Bool) (l : List LTerm) : Nat → Bool
  | 0 => match l[0]? with
    | some t => f t
    | none => true
  | i + 1 => match l[i]?, l[i + 1]? with
    | some q, some t => f t && sLt q.sym t.sym
    | _, _ => true
def tSeq (f : LTerm → Bool) (l : List LTerm) : Bool := (List.range l.length).all (tAt f l)
def tOkP (t : LTerm) : Bool := near t.n && decide (t.n ≠ 0)
def tOkR (syms : List LSym) (t : LTerm) : Bool := (symAt syms t.sym).isSome && decide (t.n ≠ 0) && near t.n
theorem tOkR_true {syms : List LSym} {t : LTerm} {y : LSym} (h1 : symAt syms t.sym = some y) (h2 : (t.n == 0) = false) (h3 : near t.n = true) : tOkR syms t = true := by
  simp [tOkR, h1, h3]; simpa using h2
theorem tOkP_true {t : LTerm} (h2 : (t.n == 0) = false) (h3 : near t.n = true) : tOkP t = true := by
  simp [tOkP, h3]; simpa using h2
def sizeOk (f : LTerm → Bool) (syms : List LSym) (s : LSize) : Bool :=
  decide (s.terms.length ≤ 2) && near s.base && tSeq f s.terms && decide (s.base + (s.terms.map (tLo syms)).sum ≤ 16) && decide (1 ≤ s.base + (s.terms.map (tHi syms)).sum)
/-- ValidSize, goodSize -/
def validSize (syms : List LSym) (s : LSize) : Bool := sizeOk tOkP syms s
def goodSize (syms : List LSym) (s : LSize) : Bool := sizeOk (tOkR syms) syms s
def SymsOk (syms : List LSym) : Prop := ∀ y ∈ syms, (0 ≤ y.lo ∧ y.lo ≤ 16) ∧ (0 ≤ y.hi ∧ y.hi ≤ 16)
theorem symAt_mem {syms : List LSym} {name : ByteArray} {y : LSym} (h : symAt syms name = some y) : y ∈ syms := List.mem_of_find?_eq_some h
theorem near_iff {n : Int} : near n = true ↔ -1000 ≤ n ∧ n ≤ 1000 := by simp [near]
theorem sum_take_succ {α : Type} (f : α → Int) {l : List α} {j : Nat} {x : α} (h : l[j]? = some x) : ((l.take (j + 1)).map f).sum = ((l.take j).map f).sum + f x := by
  rw [List.take_add_one, h]; simp
theorem range_all_succ (p : Nat → Bool) (j : Nat) : (List.range (j + 1)).all p = ((List.range j).all p && p j) := by
  rw [List.range_succ, List.all_append]; simp
theorem tSeq_no {f : LTerm → Bool} {l : List LTerm} {j : Nat} (hj : j < l.length) (h : tAt f l j = false) : tSeq f l = false := by
  rw [tSeq, List.all_eq_false]
  exact ⟨j, by simpa using hj, by rw [h]; exact Bool.false_ne_true⟩
theorem tAt_eq (f : LTerm → Bool) {l : List LTerm} {j : Nat} {t : LTerm} (h : l[j]? = some t) : tAt f l j = (f t && (decide (j = 0) || (match l[j - 1]? with | some q => sLt q.sym t.sym | none => true))) := by
  cases j with
  | zero => simp [tAt, h]
  | succ i =>
    have hi : i < l.length := by have := (List.getElem?_eq_some_iff.1 h).1; omega
    simp only [tAt, h, Nat.add_sub_cancel, List.getElem?_eq_getElem hi]
    simp
theorem mul_near {a b : Int} (ha : -1000 ≤ a ∧ a ≤ 1000) (hb : 0 ≤ b ∧ b ≤ 16) : -16000 ≤ a * b ∧ a * b ≤ 16000 := by
  obtain ⟨h1, h2⟩ := ha
  obtain ⟨h3, h4⟩ := hb
  constructor
  · have := Int.mul_le_mul_of_nonneg_right h1 h3
    omega
  · have := Int.mul_le_mul_of_nonneg_right h2 h3
    omega

/-- without terms; how many elements -/
def hasTerms (x : LAxis) : Bool := decide (0 < x.size.terms.length)
def closedL (l : List LAxis) : Bool := !l.any hasTerms
def prodL (l : List LAxis) : Int := l.foldl (fun n x => n * x.size.base) 1
def countL (l : List LAxis) : Int := if closedL l = true then prodL l else -1
def NearL (l : List LAxis) : Prop := l.length ≤ 4 ∧ ∀ x ∈ l, -1000 ≤ x.size.base ∧ x.size.base ≤ 1000
theorem prodL_take {l : List LAxis} {j : Nat} {x : LAxis} (h : l[j]? = some x) : prodL (l.take (j + 1)) = prodL (l.take j) * x.size.base := by
  rw [prodL, List.take_add_one, h, List.foldl_append]; rfl
theorem mul_bound {a b A : Int} (ha : -A ≤ a ∧ a ≤ A) (hb : -1000 ≤ b ∧ b ≤ 1000) : -(A * 1000) ≤ a * b ∧ a * b ≤ A * 1000 := by
  have h1 : (a * b).natAbs = a.natAbs * b.natAbs := Int.natAbs_mul a b
  have h2 : a.natAbs * b.natAbs ≤ A.natAbs * 1000 := Nat.mul_le_mul (by omega) (by omega)
  have h3 : ((A.natAbs * 1000 : Nat) : Int) = A * 1000 := by omega
  omega
theorem prodL_bound {l : List LAxis} (h : NearL l) : ∀ j, j ≤ l.length → -(1000000000000) ≤ prodL (l.take j) ∧ prodL (l.take j) ≤ 1000000000000 := by
  have key : ∀ j, j ≤ l.length → -(1000 ^ j : Int) ≤ prodL (l.take j) ∧ prodL (l.take j) ≤ 1000 ^ j := by
    intro j
    induction j with
    | zero => intro _; rw [Int.pow_zero]; exact ⟨show (-1 : Int) ≤ 1 by decide, show (1 : Int) ≤ 1 by decide⟩
    | succ j ih =>
      intro hj
      obtain ⟨x, hx⟩ : ∃ x, l[j]? = some x := ⟨_, List.getElem?_eq_getElem (by omega)⟩
      rw [prodL_take hx, Int.pow_succ]
      exact mul_bound (ih (by omega)) (h.2 x (List.mem_of_getElem? hx))
  intro j hj
  have h1 := key j hj
  have h2 : j ≤ 4 := by have := h.1; omega
  have h3 : (1000 ^ j : Int) ≤ 1000000000000 := by
    rcases (show j = 0 ∨ j = 1 ∨ j = 2 ∨ j = 3 ∨ j = 4 by omega) with h | h | h | h | h <;> rw [h] <;> decide
  omega

/-- sums of sizes -/
def nz (l : List LTerm) : List LTerm := l.filter fun t => decide (t.n ≠ 0)
def mulT (k : Int) (t : LTerm) : LTerm := ⟨t.sym, k * t.n⟩
def addT : List LTerm → LTerm → List LTerm
  | [], t => [t]
  | u :: l, t => if sLt u.sym t.sym = true then u :: addT l t else if sEq u.sym t.sym = true then ⟨u.sym, u.n + t.n⟩ :: l else t :: u :: l
def sumS (a b : LSize) (k : Int) : LSize := ⟨a.base + k * b.base, nz (b.terms.foldl (fun l t => addT l (mulT k t)) a.terms)⟩
def mrg : List LTerm → List LTerm → List LTerm
  | [], b => b
  | a :: la, [] => a :: la
  | a :: la, b :: lb => if sLt a.sym b.sym = true then a :: mrg la (b :: lb) else if sLt b.sym a.sym = true then b :: mrg (a :: la) lb else ⟨a.sym, a.n + b.n⟩ :: mrg la lb
  termination_by a b => a.length + b.length
def plusS (a b : LSize) (k : Int) : LSize := ⟨a.base + k * b.base, nz (mrg a.terms (b.terms.map (mulT k)))⟩
/-- in strictly ascending order -/
def Asc (l : List LTerm) : Prop := l.Pairwise fun a b => sLt a.sym b.sym = true
theorem mrg_one {t : LTerm} : ∀ {l : List LTerm}, Asc l → addT l t = mrg l [t]
  | [], _ => by rw [addT, mrg]
  | u :: l, h => by
    have h2 : Asc l := (List.pairwise_cons.1 h).2
    rw [addT, mrg]
    by_cases h1 : sLt u.sym t.sym = true
    · rw [if_pos h1, if_pos h1, mrg_one h2]
    · rw [if_neg h1, if_neg h1]
      by_cases h3 : sEq u.sym t.sym = true
      · have h4 : u.sym = t.sym := sEq_iff.1 h3
        rw [if_pos h3, if_neg (by rw [h4, sLt_irrefl]; exact Bool.false_ne_true)]
        cases l <;> rw [mrg]
      · rw [if_neg h3]
        have h5 : sLt t.sym u.sym = true := by
          cases h6 : sLt t.sym u.sym
          · exact absurd (sEq_iff.2 (sLt_tri (by simpa using h1) h6)) h3
          · rfl
        rw [if_pos h5, mrg]
end Go.Proofs.YtgaiibkkompbnaaGreatDoor
