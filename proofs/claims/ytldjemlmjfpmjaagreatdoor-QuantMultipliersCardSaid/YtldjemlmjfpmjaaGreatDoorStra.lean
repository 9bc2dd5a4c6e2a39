/-
  The stream of numbers: Below, Next, Range, Flip, Pick, Word.
-/
import Derived.Test.YtldjemlmjfpmjaaGreatDoorInts
import Derived.BigQuiet
import Derived.Deep.QuietTactic
import Derived.IntWalk
import Derived.Deep.RegionHeld3
import Derived.Lib.MinMax
namespace Go.Proofs.YtldjemlmjfpmjaaGreatDoor
open Go.RowKit

/-- the remainder that is not negative -/
def mb (x n : Int) : Int := if n < 1 then 0 else x % n
theorem mb_in (x : Int) {n : Int} (h : 1 ≤ n) : 0 ≤ mb x n ∧ mb x n < n := by
  rw [mb, if_neg (by omega)]
  exact ⟨Int.emod_nonneg _ (by omega), Int.emod_lt_of_pos _ (by omega)⟩
theorem tmod_pos {x n : Int} (h : 1 ≤ n) (ht : 0 ≤ x.tmod n) : x.tmod n = x % n := by
  have h1 := Int.tmod_add_mul_tdiv x n
  have h2 := Int.tmod_lt_of_pos x (show 0 < n by omega)
  have h3 : x % n = (x.tmod n + n * x.tdiv n) % n := by rw [h1]
  rw [h3, Int.add_mul_emod_self_left, Int.emod_eq_of_lt ht h2]
theorem tmod_neg {x n : Int} (h : 1 ≤ n) (ht : x.tmod n < 0) : x.tmod n + n = x % n := by
  have h1 := Int.tmod_add_mul_tdiv x n
  have h2 := Int.lt_tmod_of_pos x (show 0 < n by omega)
  have h3 : x % n = (x.tmod n + n * x.tdiv n) % n := by rw [h1]
  rw [h3, Int.add_mul_emod_self_left, ← Int.add_emod_right, Int.emod_eq_of_lt (by omega) (by omega)]

theorem mbelow_any (x n : Int) (w : World) (_hx1 : -9223372036854775808 ≤ x) (_hx2 : x ≤ 9223372036854775807) (hn : n ≤ 9223372036854775807) :
    Calls Tryz.prog 80 #[.int .i64 x, .int .i64 n] w fun e w' => e = .returned (.int .i64 (mb x n)) ∧ w' = w := by
  by_cases h1 : n < 1
  · have hmb : mb x n = 0 := by rw [mb, if_pos h1]
    have HM := Lib.hid hmb
    clear hmb
    go_enter Tryz.func80, Tryz.ntmps80
    go_wp2
    go_ret
    exact ⟨ret_int HM.out.symm, rfl⟩
  · have hmb : mb x n = x % n := by rw [mb, if_neg h1]
    have hz : (n == 0) = false := by simp; omega
    have hm : (n == -1) = false := by simp; omega
    have t1 := Int.lt_tmod_of_pos x (show 0 < n by omega)
    have t2 := Int.tmod_lt_of_pos x (show 0 < n by omega)
    have HM := Lib.hid hmb
    have h2 : 1 ≤ n := by omega
    have HR : Hid (-n < x.tmod n ∧ x.tmod n < n) := Lib.hid ⟨t1, t2⟩
    by_cases ht : x.tmod n < 0
    · have HT := Lib.hid (tmod_neg h2 ht)
      clear hmb h1
      go_enter Tryz.func80, Tryz.ntmps80
      go_wp2
      go_ret
      exact ⟨ret_int (by rw [HM.out, HT.out]), rfl⟩
    · have HT := Lib.hid (tmod_pos (x := x) h2 (by omega))
      clear hmb h1
      go_enter Tryz.func80, Tryz.ntmps80
      go_wp2
      go_ret
      exact ⟨ret_int (by rw [HM.out, HT.out]), rfl⟩

/-- block g is a stream that hands out the numbers xs; it has handed out a of them -/
def Strm (w : World) (g : Nat) (A : Option Addr) (c : Nat) (xs : List Int) (a : Int) : Prop :=
  w.cell? ⟨g, 0, none⟩ = some (.slice A xs.length c) ∧ w.cell? ⟨g, 1, none⟩ = some (.int .i64 a) ∧ w.frozen? ⟨g, 1, none⟩ = false ∧ xs.length ≤ maxLen ∧ (∀ x ∈ xs, -9223372036854775808 ≤ x ∧ x ≤ 9223372036854775807) ∧
  (0 < xs.length → ∃ b o, A = some ⟨b, o, none⟩ ∧ b < g ∧ ∀ j, j < xs.length → w.cell? ⟨b, o + j, none⟩ = some (.int .i64 (xs[j]?.getD 0)))
section
variable {w w' : World} {g c : Nat} {A : Option Addr} {xs : List Int} {a : Int}
theorem Strm.below {B : Nat} (h : Strm w g A c xs a) (hb : Below B w w') (hB : g < B) : Strm w' g A c xs a := by
  obtain ⟨h0, h1, h2, h3, h4, h5⟩ := h
  refine ⟨(hb.cell (p := ⟨g, 0, none⟩) hB).trans h0, (hb.cell (p := ⟨g, 1, none⟩) hB).trans h1, (hb.frozen (p := ⟨g, 1, none⟩) hB).trans h2, h3, h4, fun hx => ?_⟩
  obtain ⟨b, o, e, hbg, h6⟩ := h5 hx
  exact ⟨b, o, e, hbg, fun j hj => (hb.cell (p := ⟨b, o + j, none⟩) (by show b < B; omega)).trans (h6 j hj)⟩
theorem Strm.drew (h : Strm w g A c xs a) : Strm w.drew g A c xs a := h
theorem Strm.drewN (h : Strm w g A c xs a) (q : Nat) : Strm (w.drewN q) g A c xs a := h
theorem Strm.next (h : Strm w g A c xs a) (a' : Int) : Strm (w.setCell ⟨g, 1, none⟩ (.int .i64 a')) g A c xs a' := by
  obtain ⟨h0, h1, h2, h3, h4, h5⟩ := h
  refine ⟨?_, World.cell?_setCell_same _ _ _ h1, by rw [World.frozen?_setCell]; exact h2, h3, h4, fun hx => ?_⟩
  · rw [World.cell?_setCell_other _ _ _ _ (by simp)]; exact h0
  · obtain ⟨b, o, e, hb, h6⟩ := h5 hx
    refine ⟨b, o, e, hb, fun j hj => ?_⟩
    rw [World.cell?_setCell_other _ _ _ _ (by intro e; injection e with e1; exact absurd e1 (by omega))]
    exact h6 j hj
end
/-- the stream in block g went on, and nothing else -/
def Adv (w w' : World) (g : Nat) : Prop := w.grownBy w' (some g) ∧ w'.heap.size = w.heap.size ∧ ∀ p : Addr, p.block ≠ g → w'.cell? p = w.cell? p ∧ w'.frozen? p = w.frozen? p
theorem Adv.of_set (w : World) (g : Nat) (u : Value) (q : Nat) : Adv w ((w.setCell ⟨g, 1, none⟩ u).drewN q) g := by
  refine ⟨only_drewN (only_set (only_refl w _) 1 u) q, by show (w.setCell _ _).heap.size = _; simp [World.setCell], fun p hp => ⟨?_, ?_⟩⟩
  · show (w.setCell _ _).cell? p = _
    rw [World.cell?_setCell_other _ _ _ _ (by intro e; apply hp; rw [← e])]
  · show (w.setCell _ _).frozen? p = _
    rw [World.frozen?_setCell]
theorem Adv.below {w w' a : World} {g B : Nat} (h : Adv w w' g) (hB : B ≤ g) (hg : g < w.heap.size) (hb : Below B a w) : Below B a w' :=
  hb.grown h.1 (by omega) (fun k hk => by injection hk with hk; omega)
/-- what a draw does: a number of the range, and the stream goes on -/
def NextPost (w : World) (g c : Nat) (A : Option Addr) (xs : List Int) (a : Int) (lo hi : Int) (e : Ending) (w' : World) : Prop :=
  ∃ z : Int, e = .returned (.int .i64 z) ∧ lo ≤ z ∧ z ≤ hi ∧ Strm w' g A c xs (a + 1) ∧ Adv w w' g

set_option maxHeartbeats 1000000 in
set_option maxRecDepth 100000 in
theorem next_any (w : World) (g c : Nat) (A : Option Addr) (xs : List Int) (a n : Int) (hs : Strm w g A c xs a) (ha : 0 ≤ a) (ha2 : a ≤ 4611686018427387904) (hn : 1 ≤ n) (hn2 : n ≤ 9223372036854775807) :
    Calls Tryz.prog 30 #[.pointer (some ⟨g, 0, none⟩), .int .i64 n] w (NextPost w g c A xs a 0 (n - 1)) := by
  have HM := Lib.hid mbelow_any
  have HST := Lib.hid hs
  obtain ⟨c0, c1, f1, hmx, hrg, hcs⟩ := hs
  obtain ⟨L, hL⟩ : ∃ L, xs.length = L := ⟨_, rfl⟩
  rw [hL] at c0 hmx hcs
  have HC := Lib.hid hcs
  have HRG := Lib.hid hrg
  have HL := Lib.hid hL
  unfold maxLen at hmx
  have hL2 : (L : Int) ≤ 9223372036854775807 := by omega
  clear hcs hrg hL
  by_cases h0 : L = 0
  · subst h0
    go_enter Tryz.func30, Tryz.ntmps30
    go_wp2_with fail
    refine (HM.out _ n _ (by unfold wrap64; omega) (by unfold wrap64; omega) hn2).mono ?_
    rintro e w1 ⟨rfl, rfl⟩
    have hb := mb_in (wrap64 ((a + 1) * 7919)) hn
    have HBI := Lib.hid hb
    clear hb
    go_wp2
    go_ret
    exact ⟨_, rfl, HBI.out.1, by have := HBI.out.2; omega, HST.out.next _, Adv.of_set _ _ _ 0⟩
  · obtain ⟨b, o, rfl, hbg, hcell⟩ := HC.out (by omega)
    have hLp : 0 < (L : Int) := by omega
    have t1 := Int.tmod_lt_of_pos a hLp
    have t2 := Int.tmod_nonneg (L : Int) ha
    obtain ⟨I, hI⟩ : ∃ I : Nat, a.tmod (L : Int) = (I : Int) := ⟨(a.tmod (L : Int)).toNat, by omega⟩
    have hIL : I < L := by omega
    have d1 : a.tdiv (L : Int) ≤ a := by rw [Int.tdiv_eq_ediv_of_nonneg ha]; exact Int.ediv_le_self _ ha
    have d2 : 0 ≤ a.tdiv (L : Int) := Int.tdiv_nonneg ha (by omega)
    obtain ⟨Q, hQ⟩ : ∃ Q : Int, a.tdiv (L : Int) = Q := ⟨_, rfl⟩
    rw [hQ] at d1 d2
    have hcI := hcell I hIL
    have hxr : -9223372036854775808 ≤ xs[I]?.getD 0 ∧ xs[I]?.getD 0 ≤ 9223372036854775807 := by
      have hIl : I < xs.length := by rw [HL.out]; exact hIL
      rw [List.getElem?_eq_getElem hIl]
      exact HRG.out _ (List.getElem_mem hIl)
    obtain ⟨x, hx⟩ : ∃ x, xs[I]?.getD 0 = x := ⟨_, rfl⟩
    rw [hx] at hcI hxr
    have hw0 : IntKind.i64.wrap a = a := IntWalk.i64_in _ (by omega)
    have hwI : IntKind.i64.wrap (I : Int) = (I : Int) := IntWalk.i64_in _ (by omega)
    have hwQ : IntKind.i64.wrap Q = Q := IntWalk.i64_in _ (by omega)
    have hI1 : (I : Int) < (L : Int) := by omega
    have hgb : b ≠ g := by omega
    have HXR := Lib.hid hxr
    clear hcell hx hxr t1 t2
    go_enter Tryz.func30, Tryz.ntmps30
    go_wp2_with fail
    go_quiet (fail)
    go_wp2_with fail
    go_quiet (fail)
    clear hw0 hwI hwQ hI hQ
    go_wp2_with fail
    refine (HM.out x 1073741824 _ HXR.out.1 HXR.out.2 (by omega)).mono ?_
    rintro e w1 ⟨rfl, rfl⟩
    obtain ⟨Z, hZ⟩ : ∃ Z, mb x 1073741824 = Z := ⟨_, rfl⟩
    rw [hZ]
    clear hZ
    go_wp2_with fail
    refine (HM.out _ n _ (by unfold wrap64; omega) (by unfold wrap64; omega) hn2).mono ?_
    rintro e w1 ⟨rfl, rfl⟩
    go_wp2
    go_ret
    exact ⟨_, rfl, (mb_in _ hn).1, Int.le_sub_one_of_lt (mb_in _ hn).2, HST.out.next _, Adv.of_set _ _ _ _⟩

theorem range_any (w : World) (g c : Nat) (A : Option Addr) (xs : List Int) (a lo hi : Int) (hs : Strm w g A c xs a) (ha : 0 ≤ a) (ha2 : a ≤ 4611686018427387904) (h1 : lo ≤ hi) (h2 : -1000000000000 ≤ lo) (h3 : hi ≤ 1000000000000) :
    Calls Tryz.prog 29 #[.pointer (some ⟨g, 0, none⟩), .int .i64 lo, .int .i64 hi] w (NextPost w g c A xs a lo hi) := by
  have HX := Lib.hid (next_any w g c A xs a (hi - lo + 1) hs ha ha2 (by omega) (by omega))
  clear hs ha ha2
  go_enter Tryz.func29, Tryz.ntmps29
  go_wp2_with fail
  all_goals first
    | (exfalso; omega)
    | skip
  refine HX.out.mono ?_
  rintro e w1 ⟨z, rfl, z1, z2, hs1, ha1⟩
  have HS := Lib.hid hs1
  have HA := Lib.hid ha1
  clear hs1 ha1
  go_wp2
  go_ret
  exact ⟨_, rfl, by omega, by omega, HS.out, HA.out⟩
end Go.Proofs.YtldjemlmjfpmjaaGreatDoor

namespace Go.Proofs.YtldjemlmjfpmjaaGreatDoor
open Go.RowKit

/-- the stream in block g went on by at most k; nothing else has turned but what is new -/
def SP (w : World) (g c : Nat) (A : Option Addr) (xs : List Int) (a k : Int) (w' : World) : Prop :=
  (∃ a', a ≤ a' ∧ a' ≤ a + k ∧ Strm w' g A c xs a') ∧ w.grownBy w' (some g)
theorem SP.of_next {w w' : World} {g c : Nat} {A : Option Addr} {xs : List Int} {a : Int} (h : Strm w' g A c xs (a + 1)) (h2 : Adv w w' g) : SP w g c A xs a 1 w' := ⟨⟨a + 1, by omega, by omega, h⟩, h2.1⟩
theorem SP.more {w w' w2 : World} {g c : Nat} {A : Option Addr} {xs : List Int} {a a' k k' : Int} (h : w.grownBy w' (some g)) (h2 : SP w' g c A xs a' k' w2) (h3 : a ≤ a') (h4 : a' + k' ≤ a + k) : SP w g c A xs a k w2 := by
  obtain ⟨⟨b, h5, h6, h7⟩, h8⟩ := h2
  exact ⟨⟨b, by omega, by omega, h7⟩, only_trans h h8⟩
theorem SP.wide {w w' : World} {g c : Nat} {A : Option Addr} {xs : List Int} {a k k' : Int} (h : SP w g c A xs a k w') (hk : k ≤ k') : SP w g c A xs a k' w' := by
  obtain ⟨⟨b, h5, h6, h7⟩, h8⟩ := h
  exact ⟨⟨b, h5, by omega, h7⟩, h8⟩
theorem Strm.lt {w : World} {g c : Nat} {A : Option Addr} {xs : List Int} {a : Int} (h : Strm w g A c xs a) : g < w.heap.size := World.block_lt_of_cell? w _ h.2.1

def FlipPost (w : World) (g c : Nat) (A : Option Addr) (xs : List Int) (a : Int) (e : Ending) (w' : World) : Prop := ∃ b : Bool, e = .returned (.bool b) ∧ Strm w' g A c xs (a + 1) ∧ Adv w w' g
set_option maxRecDepth 100000 in
theorem flip_any (w : World) (g c : Nat) (A : Option Addr) (xs : List Int) (a n : Int) (hs : Strm w g A c xs a) (ha : 0 ≤ a) (ha2 : a ≤ 4611686018427387904) (hn : 1 ≤ n) (hn2 : n ≤ 9223372036854775807) :
    Calls Tryz.prog 49 #[.pointer (some ⟨g, 0, none⟩), .int .i64 n] w (FlipPost w g c A xs a) := by
  have HX := Lib.hid (next_any w g c A xs a n hs ha ha2 hn hn2)
  clear hs ha ha2 hn hn2
  go_enter Tryz.func49, Tryz.ntmps49
  go_wp2_with fail
  refine HX.out.mono ?_
  rintro e w1 ⟨z, rfl, z1, z2, hs1, ha1⟩
  have HS := Lib.hid hs1
  have HA := Lib.hid ha1
  clear hs1 ha1
  go_wp2
  go_ret
  exact ⟨_, rfl, HS.out, HA.out⟩

def IntPost (w : World) (g c : Nat) (A : Option Addr) (xs : List Int) (a k lo hi : Int) (e : Ending) (w' : World) : Prop := ∃ z : Int, e = .returned (.int .i64 z) ∧ lo ≤ z ∧ z ≤ hi ∧ SP w g c A xs a k w'
set_option maxHeartbeats 1000000 in
set_option maxRecDepth 100000 in
theorem pick_any (l : List Int) (b : Nat) (w : World) (g c : Nat) (A : Option Addr) (xs : List Int) (a lo hi : Int) (hs : Strm w g A c xs a) (ha : 0 ≤ a) (ha2 : a ≤ 4611686018427387904)
    (hb : w.heap[b]? = some (.cells (i64s l).toArray 3 (0, 0))) (hbg : b ≠ g) (h0 : 0 < l.length) (h9 : l.length ≤ 1000) (hl : ∀ j : Nat, j < l.length → lo ≤ l[j]?.getD 0 ∧ l[j]?.getD 0 ≤ hi) :
    Calls Tryz.prog 50 #[.pointer (some ⟨g, 0, none⟩), .slice (some ⟨b, 0, none⟩) l.length l.length] w (IntPost w g c A xs a 1 lo hi) := by
  have HX := Lib.hid (next_any w g c A xs a (l.length : Int) hs ha ha2 (by omega) (by omega))
  have HL := Lib.hid hl
  have HB := Lib.hid hb
  obtain ⟨n, hn⟩ : ∃ n, l.length = n := ⟨_, rfl⟩
  rw [hn] at h0 h9 HX
  rw [hn]
  have HNN := Lib.hid hn
  clear hs ha ha2 hb hl hn
  go_enter Tryz.func50, Tryz.ntmps50
  go_wp2_with fail
  refine HX.out.mono ?_
  rintro e w1 ⟨z, rfl, z1, z2, hs1, ha1⟩
  obtain ⟨k, rfl⟩ : ∃ k : Nat, z = k := ⟨z.toNat, by omega⟩
  have hk : (k : Int) < (n : Int) := by omega
  have hcell : w1.cell? ⟨b, k, none⟩ = some (.int .i64 (l[k]?.getD 0)) := by
    rw [(ha1.2.2 ⟨b, k, none⟩ hbg).1]
    exact OwnI.cell (show OwnI w b l from HB.out) (by rw [HNN.out]; omega)
  have hz := HL.out k (by rw [HNN.out]; omega)
  have HZ := Lib.hid hz
  have HS := Lib.hid hs1
  have HA := Lib.hid ha1
  clear hs1 ha1 hz
  go_wp2
  go_ret
  exact ⟨_, rfl, HZ.out.1, HZ.out.2, SP.of_next HS.out HA.out⟩

set_option maxHeartbeats 2000000 in
set_option maxRecDepth 100000 in
theorem word_any (w : World) (g c : Nat) (A : Option Addr) (xs : List Int) (a : Int) (hs : Strm w g A c xs a) (ha : 0 ≤ a) (ha2 : a ≤ 4000000000000000000) :
    Calls Tryz.prog 78 #[.pointer (some ⟨g, 0, none⟩)] w (IntPost w g c A xs a 3 (-2147483648) 2147483647) := by
  have HX := Lib.hid (next_any w g c A xs a 6 hs ha (by omega) (by omega) (by omega))
  clear hs
  go_enter Tryz.func78, Tryz.ntmps78
  go_wp2_with fail
  refine HX.out.mono ?_
  rintro e w1 ⟨z, rfl, z1, z2, hs1, ha1⟩
  have HA := Lib.hid ha1
  have HX3 := Lib.hid (next_any w1 g c A xs (a + 1) 3 hs1 (by omega) (by omega) (by omega) (by omega))
  have HX30 := Lib.hid (next_any w1 g c A xs (a + 1) 1073741824 hs1 (by omega) (by omega) (by omega) (by omega))
  have HXR := Lib.hid (range_any w1 g c A xs (a + 1) (-9) 9 hs1 (by omega) (by omega) (by omega) (by omega) (by omega))
  clear hs1 ha1
  rcases (show z = 0 ∨ z = 1 ∨ z = 2 ∨ (z ≠ 0 ∧ z ≠ 1 ∧ z ≠ 2) by omega) with rfl | rfl | rfl | ⟨n0, n1, n2⟩
  · go_wp2_with fail
    refine HX3.out.mono ?_
    rintro e w2 ⟨y, rfl, y1, y2, hs2, ha2'⟩
    have HS2 := Lib.hid hs2
    have HA2 := Lib.hid ha2'
    clear hs2 ha2'
    go_wp2
    go_ret
    exact ⟨_, rfl, by omega, by omega, SP.more HA.out.1 (SP.of_next HS2.out HA2.out) (by omega) (by omega)⟩
  · go_wp2_with fail
    refine HX3.out.mono ?_
    rintro e w2 ⟨y, rfl, y1, y2, hs2, ha2'⟩
    have HS2 := Lib.hid hs2
    have HA2 := Lib.hid ha2'
    clear hs2 ha2'
    go_wp2
    go_ret
    exact ⟨_, rfl, by omega, by omega, SP.more HA.out.1 (SP.of_next HS2.out HA2.out) (by omega) (by omega)⟩
  · go_wp2_with fail
    refine HX30.out.mono ?_
    rintro e w2 ⟨y, rfl, y1, y2, hs2, ha2'⟩
    have HX4 := Lib.hid (next_any w2 g c A xs (a + 1 + 1) 4 hs2 (by omega) (by omega) (by omega) (by omega))
    have HA2 := Lib.hid ha2'
    clear hs2 ha2'
    go_wp2_with fail
    refine HX4.out.mono ?_
    rintro e w3 ⟨x, rfl, x1, x2, hs3, ha3⟩
    have HS3 := Lib.hid hs3
    have HA3 := Lib.hid ha3
    clear hs3 ha3
    go_wp2
    go_ret
    exact ⟨_, rfl, by omega, by omega, SP.more (only_trans HA.out.1 HA2.out.1) (SP.of_next HS3.out HA3.out) (by omega) (by omega)⟩
  · have m0 : (z == 0) = false := by simpa using n0
    have m1 : (z == 1) = false := by simpa using n1
    have m2 : (z == 2) = false := by simpa using n2
    clear n0 n1 n2
    go_wp2_with fail
    refine HXR.out.mono ?_
    rintro e w2 ⟨y, rfl, y1, y2, hs2, ha2'⟩
    have HS2 := Lib.hid hs2
    have HA2 := Lib.hid ha2'
    clear hs2 ha2'
    go_wp2
    go_ret
    exact ⟨_, rfl, by omega, by omega, SP.more HA.out.1 (SP.of_next HS2.out HA2.out) (by omega) (by omega)⟩
end Go.Proofs.YtldjemlmjfpmjaaGreatDoor

namespace Go.Proofs.YtldjemlmjfpmjaaGreatDoor
open Go.RowKit

theorem grown_set {w w' : World} {g p i : Nat} (h : w.grownBy w' (some g)) (hp : w.heap.size ≤ p) (u : Value) : w.grownBy (w'.setCell ⟨p, i, none⟩ u) (some g) :=
  ⟨h.os, h.tape, h.output, by simpa [World.setCell] using h.size, fun j hj hne => (Below.heap_setCell w' _ u j (by rintro rfl; omega)).trans (h.block j hj hne)⟩
theorem Strm.set_far {w : World} {g c p i : Nat} {A : Option Addr} {xs : List Int} {a : Int} (h : Strm w g A c xs a) (hp : g < p) (u : Value) : Strm (w.setCell ⟨p, i, none⟩ u) g A c xs a :=
  h.below (B := p) ((Below.refl p w).setCell (p := ⟨p, i, none⟩) (Nat.le_refl _) u) hp
theorem only_of_low {a w : World} {row : Option Nat} (h : Below a.heap.size a w) : a.grownBy w row := ⟨h.os, h.tape, h.output, h.size, fun i hi _ => h.block i hi⟩
theorem only_then_below {a b d : World} {row : Option Nat} {B : Nat} (h : a.grownBy b row) (hb : Below B b d) (hB : a.heap.size ≤ B) : a.grownBy d row :=
  ⟨hb.os.trans h.os, hb.tape.trans h.tape, hb.output.trans h.output, Nat.le_trans h.size hb.size, fun i hi hn => (hb.block i (by omega)).trans (h.block i hi hn)⟩
end Go.Proofs.YtldjemlmjfpmjaaGreatDoor
