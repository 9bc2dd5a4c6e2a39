/-
  The code of bytes: the plain law.
-/
import Derived.Test.YtmbccjncgikehaaGreatDoorMath
namespace Go.Proofs.YtmbccjncgikehaaGreatDoor.Mth

/-- one step of the code, the polynomial left open -/
def cs (p r : Nat) : Nat := if r % 2 = 1 then r / 2 ^^^ p else r / 2
def csN (p : Nat) : Nat → Nat → Nat
  | 0, r => r
  | k + 1, r => csN p k (cs p r)
theorem csN_add (p : Nat) : ∀ a b r, csN p (a + b) r = csN p b (csN p a r)
  | 0, b, r => by rw [Nat.zero_add]; rfl
  | a + 1, b, r => by rw [Nat.succ_add, csN, csN, csN_add p a b]
theorem csN_succ (p a r : Nat) : csN p (a + 1) r = cs p (csN p a r) := csN_add p a 1 r

theorem xz {a b : Nat} (h : a ^^^ b = 0) : a = b := by
  have h2 := congrArg (· ^^^ b) h
  simpa [Nat.xor_assoc] using h2

theorem cs_xor (p a b : Nat) : cs p (a ^^^ b) = cs p a ^^^ cs p b := by
  unfold cs
  rw [Nat.xor_div_two]
  have hx : (a ^^^ b) % 2 = 1 ↔ ¬(a % 2 = 1 ↔ b % 2 = 1) := Nat.xor_mod_two_eq_one
  have ha := Nat.mod_two_eq_zero_or_one a
  have hb := Nat.mod_two_eq_zero_or_one b
  have hc := Nat.mod_two_eq_zero_or_one (a ^^^ b)
  rcases ha with ha | ha <;> rcases hb with hb | hb
  · rw [if_neg (by omega), if_neg (by omega), if_neg (by omega)]
  · rw [if_pos (by omega), if_neg (by omega), if_pos (by omega), Nat.xor_assoc]
  · rw [if_pos (by omega), if_pos (by omega), if_neg (by omega), Nat.xor_assoc, Nat.xor_assoc, Nat.xor_comm p]
  · rw [if_neg (by omega), if_pos (by omega), if_pos (by omega), Nat.xor_assoc, ← Nat.xor_assoc p, Nat.xor_comm p, Nat.xor_assoc, Nat.xor_self, Nat.xor_zero]
theorem csN_xor (p : Nat) : ∀ k a b, csN p k (a ^^^ b) = csN p k a ^^^ csN p k b
  | 0, _, _ => rfl
  | k + 1, a, b => by rw [csN, csN, csN, cs_xor, csN_xor p k]
theorem cs_zero (p : Nat) : cs p 0 = 0 := by unfold cs; rw [if_neg (by omega)]
theorem csN_zero (p : Nat) : ∀ k, csN p k 0 = 0
  | 0 => rfl
  | k + 1 => by rw [csN, cs_zero, csN_zero p k]
theorem cs_even (p y : Nat) : cs p (2 * y) = y := by unfold cs; rw [if_neg (by omega)]; omega
theorem csN_shift (p : Nat) : ∀ k y, csN p k (2 ^ k * y) = y
  | 0, y => by rw [csN]; omega
  | k + 1, y => by rw [csN, show 2 ^ (k + 1) * y = 2 * (2 ^ k * y) by rw [Nat.pow_succ, Nat.mul_comm (2 ^ k) 2, Nat.mul_assoc], cs_even, csN_shift p k]

theorem cs_lt {p N r : Nat} (hp : p < 2 ^ (N + 1)) (h : r < 2 ^ (N + 1)) : cs p r < 2 ^ (N + 1) := by
  have h2 : r / 2 < 2 ^ (N + 1) := by omega
  unfold cs
  split
  · exact Nat.xor_lt_two_pow h2 hp
  · exact h2
theorem csN_lt {p N : Nat} (hp : p < 2 ^ (N + 1)) : ∀ (k : Nat) {r : Nat}, r < 2 ^ (N + 1) → csN p k r < 2 ^ (N + 1)
  | 0, _, h => h
  | k + 1, _, h => csN_lt hp k (cs_lt hp h)
theorem cs_ne {p N r : Nat} (hp : 2 ^ N ≤ p) (h : r < 2 ^ (N + 1)) (h0 : r ≠ 0) : cs p r ≠ 0 := by
  unfold cs
  split
  · intro h1
    have h2 : r / 2 = p := xz h1
    rw [Nat.pow_succ] at h
    omega
  · omega
theorem csN_ne {p N : Nat} (hp : p < 2 ^ (N + 1)) (hp2 : 2 ^ N ≤ p) : ∀ (k : Nat) {r : Nat}, r < 2 ^ (N + 1) → r ≠ 0 → csN p k r ≠ 0
  | 0, _, _, h => h
  | k + 1, _, h1, h2 => csN_ne hp hp2 k (cs_lt hp h1) (cs_ne hp2 h1 h2)

/-- a byte more -/
def cb (p t r x : Nat) : Nat := csN p t (r ^^^ x)
/-- the state behind some bytes -/
def cc (p t : Nat) : Nat → List Nat → Nat
  | r, [] => r
  | r, x :: l => cc p t (cb p t r x) l
theorem cc_append (p t : Nat) : ∀ (l m : List Nat) (r : Nat), cc p t r (l ++ m) = cc p t (cc p t r l) m
  | [], _, _ => rfl
  | _ :: l, m, _ => cc_append p t l m _
theorem cc_xor (p t : Nat) : ∀ (l m : List Nat) (r s : Nat), l.length = m.length → cc p t r l ^^^ cc p t s m = cc p t (r ^^^ s) (List.zipWith (· ^^^ ·) l m)
  | [], [], _, _, _ => rfl
  | x :: l, y :: m, r, s, h => by
    have h2 : l.length = m.length := by simpa using h
    rw [List.zipWith_cons_cons, cc, cc, cc, cc_xor p t l m _ _ h2, cb, cb, cb, ← csN_xor]
    congr 2
    rw [Nat.xor_assoc, Nat.xor_assoc, ← Nat.xor_assoc x, Nat.xor_comm x s, Nat.xor_assoc]
  | [], _ :: _, _, _, h => by simp at h
  | _ :: _, [], _, _, h => by simp at h
/-- the bytes as a number -/
def cv (t : Nat) : List Nat → Nat
  | [] => 0
  | e :: l => e ^^^ 2 ^ t * cv t l
theorem cc_val (p t : Nat) : ∀ (l : List Nat) (d : Nat), cc p t d l = csN p (t * l.length) (d ^^^ cv t l)
  | [], d => by simp [cc, cv, csN]
  | e :: l, d => by
    rw [cc, cc_val p t l, cb, List.length_cons, show t * (l.length + 1) = t + t * l.length by rw [Nat.mul_add, Nat.mul_one, Nat.add_comm], csN_add, cv, ← Nat.xor_assoc, csN_xor p t (d ^^^ e), csN_shift]
theorem cv_zero {t : Nat} : ∀ {l : List Nat}, (∀ e ∈ l, e < 2 ^ t) → cv t l = 0 → ∀ e ∈ l, e = 0
  | [], _, _, _, h => by cases h
  | e :: l, hb, h, x, hx => by
    have h1 : e = 2 ^ t * cv t l := xz h
    have h2 := hb e (by simp)
    have h3 : cv t l = 0 := by
      rcases Nat.eq_zero_or_pos (cv t l) with h4 | h4
      · exact h4
      · exact absurd h2 (by rw [h1]; exact Nat.not_lt.2 (Nat.le_mul_of_pos_right _ h4))
    rcases List.mem_cons.1 hx with rfl | h4
    · rw [h1, h3, Nat.mul_zero]
    · exact cv_zero (fun y hy => hb y (by simp [hy])) h3 x h4
theorem cv_lt {t : Nat} : ∀ {l : List Nat}, (∀ e ∈ l, e < 2 ^ t) → cv t l < 2 ^ (t * l.length)
  | [], _ => by simp [cv]
  | e :: l, hb => by
    have h2 := hb e (by simp)
    have h3 := cv_lt (l := l) fun y hy => hb y (by simp [hy])
    rw [cv, List.length_cons, show t * (l.length + 1) = t + t * l.length by rw [Nat.mul_add, Nat.mul_one, Nat.add_comm]]
    have h4 : 2 ^ t ≤ 2 ^ (t + t * l.length) := Nat.pow_le_pow_right (by omega) (by omega)
    refine Nat.xor_lt_two_pow (by omega) ?_
    rw [Nat.pow_add]
    exact Nat.mul_lt_mul_of_pos_left h3 (by omega)
theorem cc_lt {p t N : Nat} (hp : p < 2 ^ (N + 1)) (hN : t ≤ N + 1) : ∀ {l : List Nat} {d : Nat}, (∀ e ∈ l, e < 2 ^ t) → d < 2 ^ (N + 1) → cc p t d l < 2 ^ (N + 1)
  | [], _, _, h => h
  | e :: l, d, hb, h => by
    have h4 : 2 ^ t ≤ 2 ^ (N + 1) := Nat.pow_le_pow_right (by omega) hN
    have h2 := hb e (by simp)
    exact cc_lt (l := l) (d := cb p t d e) hp hN (fun y hy => hb y (by simp [hy])) (csN_lt hp t (Nat.xor_lt_two_pow h (by omega)))
theorem cc_zeros (p t : Nat) : ∀ (l : List Nat), (∀ e ∈ l, e = 0) → cc p t 0 l = 0
  | [], _ => rfl
  | e :: l, h => by
    have h1 := h e (by simp)
    subst h1
    rw [cc, cb, Nat.xor_zero, csN_zero]
    exact cc_zeros p t l fun y hy => h y (by simp [hy])
theorem cc_zeros_ne {p t N : Nat} (hp : p < 2 ^ (N + 1)) (hp2 : 2 ^ N ≤ p) : ∀ (l : List Nat) {d : Nat}, (∀ e ∈ l, e = 0) → d < 2 ^ (N + 1) → d ≠ 0 → cc p t d l ≠ 0
  | [], _, _, _, h => h
  | e :: l, d, h, hd, h0 => by
    have h1 := h e (by simp)
    subst h1
    rw [cc, cb, Nat.xor_zero]
    exact cc_zeros_ne hp hp2 l (fun y hy => h y (by simp [hy])) (csN_lt hp t hd) (csN_ne hp hp2 t hd h0)
/-- a change of at most 4 neighbouring bytes changes the state -/
theorem cc_burst {p : Nat} (hp : p < 2 ^ 32) (hp2 : 2 ^ 31 ≤ p) (r : Nat) (a m m' z : List Nat) (hl : m.length = m'.length) (h4 : m.length ≤ 4)
    (hm : ∀ e ∈ m, e < 2 ^ 8) (hm' : ∀ e ∈ m', e < 2 ^ 8) (hne : m ≠ m') : cc p 8 r (a ++ m ++ z) ≠ cc p 8 r (a ++ m' ++ z) := by
  intro h
  have h1 : cc p 8 r (a ++ m ++ z) ^^^ cc p 8 r (a ++ m' ++ z) = 0 := (by rw [h, Nat.xor_self])
  rw [cc_append, cc_append, cc_append, cc_append, cc_xor p 8 z z _ _ rfl] at h1
  have hz : ∀ e ∈ List.zipWith (· ^^^ ·) z z, e = 0 := by
    intro e he
    rw [List.zipWith_self] at he
    simp at he
    exact he.2.symm
  have hb : ∀ e ∈ List.zipWith (· ^^^ ·) m m', e < 2 ^ 8 := by
    intro e he
    obtain ⟨j, hj, rfl⟩ := List.getElem_of_mem he
    rw [List.getElem_zipWith]
    exact Nat.xor_lt_two_pow (hm _ (List.getElem_mem _)) (hm' _ (List.getElem_mem _))
  have hlen : (List.zipWith (· ^^^ ·) m m').length ≤ 4 := by rw [List.length_zipWith]; omega
  have hv : cv 8 (List.zipWith (· ^^^ ·) m m') < 2 ^ 32 := Nat.lt_of_lt_of_le (cv_lt hb) (Nat.pow_le_pow_right (by omega) (by omega))
  have hd : cc p 8 (cc p 8 r a) m ^^^ cc p 8 (cc p 8 r a) m' = csN p (8 * (List.zipWith (· ^^^ ·) m m').length) (cv 8 (List.zipWith (· ^^^ ·) m m')) := by
    rw [cc_xor p 8 m m' _ _ hl, Nat.xor_self, cc_val, Nat.zero_xor]
  rw [hd] at h1
  have hv0 : cv 8 (List.zipWith (· ^^^ ·) m m') ≠ 0 := by
    intro h0
    have h5 := cv_zero hb h0
    apply hne
    apply List.ext_getElem hl
    intro j hj hj'
    have h6 := h5 (m[j] ^^^ m'[j]) (by
      have : (List.zipWith (· ^^^ ·) m m')[j]'(by rw [List.length_zipWith]; omega) = m[j] ^^^ m'[j] := List.getElem_zipWith
      rw [← this]
      exact List.getElem_mem _)
    exact xz h6
  exact cc_zeros_ne (N := 31) hp hp2 _ hz (csN_lt (N := 31) hp _ hv) (csN_ne (N := 31) hp hp2 _ hv hv0) h1
/-- the reference's step: the byte is not laid over the state ahead -/
def rs (p x i n : Nat) : Nat := if (n ^^^ x / 2 ^ i) % 2 = 1 then n / 2 ^^^ p else n / 2
def rsN (p x : Nat) : Nat → Nat → Nat
  | 0, n => n
  | k + 1, n => rs p x k (rsN p x k n)
theorem rs_cs (p x n : Nat) : ∀ k, rsN p x k n ^^^ x / 2 ^ k = csN p k (n ^^^ x)
  | 0 => by simp [rsN, csN]
  | k + 1 => by
    rw [csN_succ, ← rs_cs p x n k, rsN, cs, rs]
    have e : x / 2 ^ (k + 1) = x / 2 ^ k / 2 := by rw [Nat.pow_succ, Nat.div_div_eq_div_mul]
    rw [e]
    split
    · rw [Nat.xor_div_two, Nat.xor_assoc, Nat.xor_assoc, Nat.xor_comm p]
    · rw [Nat.xor_div_two]
theorem rs_cb {p x n : Nat} (hx : x < 2 ^ 8) : rsN p x 8 n = cb p 8 n x := by
  have h := rs_cs p x n 8
  rw [Nat.div_eq_of_lt hx, Nat.xor_zero] at h
  exact h
end Go.Proofs.YtmbccjncgikehaaGreatDoor.Mth
