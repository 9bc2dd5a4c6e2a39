/-
  The stream of numbers: weftmake.Below, Stream.Next, Stream.Range.
-/
import Derived.Test.YtaibpeokfbokfaaGreatDoorInts
import Derived.BigQuiet
import Derived.Deep.QuietTactic
import Derived.IntWalk
namespace Go.Proofs.YtaibpeokfbokfaaGreatDoor
open Go.RowKit

/-- the remainder that is not negative -/
def mb (x n : Int) : Int := if n < 1 then 0 else x % n
theorem mb_in (x : Int) {n : Int} (h : 1 ≤ n) : 0 ≤ mb x n ∧ mb x n < n := by
  rw [mb, if_neg (by omega)]
  exact ⟨Int.emod_nonneg _ (by omega), Int.emod_lt_of_pos _ (by omega)⟩
theorem tmod_pos {x n : Int} (h : 1 ≤ n) (ht : 0 ≤ x.tmod n) : x.tmod n = x % n := by
  have h1 := Int.tmod_add_mul_tdiv x n
  have h2 := Int.tmod_lt_of_pos x (show 0 < n by omega)
  have h3 : x % n = (x.tmod n + n * x.tdiv n) % n := by rw [h1]
  rw [h3, Int.add_mul_emod_self_left, Int.emod_eq_of_lt ht h2]
theorem tmod_neg {x n : Int} (h : 1 ≤ n) (ht : x.tmod n < 0) : x.tmod n + n = x % n := by
  have h1 := Int.tmod_add_mul_tdiv x n
  have h2 := Int.lt_tmod_of_pos x (show 0 < n by omega)
  have h3 : x % n = (x.tmod n + n * x.tdiv n) % n := by rw [h1]
  rw [h3, Int.add_mul_emod_self_left, ← Int.add_emod_right, Int.emod_eq_of_lt (by omega) (by omega)]

theorem mbelow_any (x n : Int) (w : World) (_hx1 : -9223372036854775808 ≤ x) (_hx2 : x ≤ 9223372036854775807) (hn : n ≤ 9223372036854775807) :
    Calls Tryz.prog 79 #[.int .i64 x, .int .i64 n] w fun e w' => e = .returned (.int .i64 (mb x n)) ∧ w' = w := by
  by_cases h1 : n < 1
  · have hmb : mb x n = 0 := by rw [mb, if_pos h1]
    have HM := Lib.hid hmb
    clear hmb
    go_enter Tryz.func79, Tryz.ntmps79
    go_wp2
    go_ret
    exact ⟨ret_int HM.out.symm, rfl⟩
  · have hmb : mb x n = x % n := by rw [mb, if_neg h1]
    have hz : (n == 0) = false := by simp; omega
    have hm : (n == -1) = false := by simp; omega
    have t1 := Int.lt_tmod_of_pos x (show 0 < n by omega)
    have t2 := Int.tmod_lt_of_pos x (show 0 < n by omega)
    have HM := Lib.hid hmb
    have h2 : 1 ≤ n := by omega
    have HR : Hid (-n < x.tmod n ∧ x.tmod n < n) := Lib.hid ⟨t1, t2⟩
    by_cases ht : x.tmod n < 0
    · have HT := Lib.hid (tmod_neg h2 ht)
      clear hmb h1
      go_enter Tryz.func79, Tryz.ntmps79
      go_wp2
      go_ret
      exact ⟨ret_int (by rw [HM.out, HT.out]), rfl⟩
    · have HT := Lib.hid (tmod_pos (x := x) h2 (by omega))
      clear hmb h1
      go_enter Tryz.func79, Tryz.ntmps79
      go_wp2
      go_ret
      exact ⟨ret_int (by rw [HM.out, HT.out]), rfl⟩

/-- block g is a stream that hands out the numbers xs; it has handed out a of them -/
def Strm (w : World) (g : Nat) (A : Option Addr) (c : Nat) (xs : List Int) (a : Int) : Prop :=
  w.cell? ⟨g, 0, none⟩ = some (.slice A xs.length c) ∧ w.cell? ⟨g, 1, none⟩ = some (.int .i64 a) ∧ w.frozen? ⟨g, 1, none⟩ = false ∧ xs.length ≤ maxLen ∧ (∀ x ∈ xs, -9223372036854775808 ≤ x ∧ x ≤ 9223372036854775807) ∧
  (0 < xs.length → ∃ b o, A = some ⟨b, o, none⟩ ∧ b < g ∧ ∀ j, j < xs.length → w.cell? ⟨b, o + j, none⟩ = some (.int .i64 (xs[j]?.getD 0)))
section
variable {w w' : World} {g c : Nat} {A : Option Addr} {xs : List Int} {a : Int}
theorem Strm.below {B : Nat} (h : Strm w g A c xs a) (hb : Below B w w') (hB : g < B) : Strm w' g A c xs a := by
  obtain ⟨h0, h1, h2, h3, h4, h5⟩ := h
  refine ⟨(hb.cell (p := ⟨g, 0, none⟩) hB).trans h0, (hb.cell (p := ⟨g, 1, none⟩) hB).trans h1, (hb.frozen (p := ⟨g, 1, none⟩) hB).trans h2, h3, h4, fun hx => ?_⟩
  obtain ⟨b, o, e, hbg, h6⟩ := h5 hx
  exact ⟨b, o, e, hbg, fun j hj => (hb.cell (p := ⟨b, o + j, none⟩) (by show b < B; omega)).trans (h6 j hj)⟩
theorem Strm.drew (h : Strm w g A c xs a) : Strm w.drew g A c xs a := h
theorem Strm.drewN (h : Strm w g A c xs a) (q : Nat) : Strm (w.drewN q) g A c xs a := h
theorem Strm.next (h : Strm w g A c xs a) (a' : Int) : Strm (w.setCell ⟨g, 1, none⟩ (.int .i64 a')) g A c xs a' := by
  obtain ⟨h0, h1, h2, h3, h4, h5⟩ := h
  refine ⟨?_, World.cell?_setCell_same _ _ _ h1, by rw [World.frozen?_setCell]; exact h2, h3, h4, fun hx => ?_⟩
  · rw [World.cell?_setCell_other _ _ _ _ (by simp)]; exact h0
  · obtain ⟨b, o, e, hb, h6⟩ := h5 hx
    refine ⟨b, o, e, hb, fun j hj => ?_⟩
    rw [World.cell?_setCell_other _ _ _ _ (by intro e; injection e with e1; exact absurd e1 (by omega))]
    exact h6 j hj
end
/-- the stream in block g went on, and nothing else -/
def Adv (w w' : World) (g : Nat) : Prop := w.grownBy w' (some g) ∧ w'.heap.size = w.heap.size ∧ ∀ p : Addr, p.block ≠ g → w'.cell? p = w.cell? p ∧ w'.frozen? p = w.frozen? p
theorem Adv.of_set (w : World) (g : Nat) (u : Value) (q : Nat) : Adv w ((w.setCell ⟨g, 1, none⟩ u).drewN q) g := by
  refine ⟨only_drewN (only_set (only_refl w _) 1 u) q, by show (w.setCell _ _).heap.size = _; simp [World.setCell], fun p hp => ⟨?_, ?_⟩⟩
  · show (w.setCell _ _).cell? p = _
    rw [World.cell?_setCell_other _ _ _ _ (by intro e; apply hp; rw [← e])]
  · show (w.setCell _ _).frozen? p = _
    rw [World.frozen?_setCell]
theorem Adv.below {w w' a : World} {g B : Nat} (h : Adv w w' g) (hB : B ≤ g) (hg : g < w.heap.size) (hb : Below B a w) : Below B a w' :=
  hb.grown h.1 (by omega) (fun k hk => by injection hk with hk; omega)
/-- what a draw does: a number of the range, and the stream goes on -/
def NextPost (w : World) (g c : Nat) (A : Option Addr) (xs : List Int) (a : Int) (lo hi : Int) (e : Ending) (w' : World) : Prop :=
  ∃ z : Int, e = .returned (.int .i64 z) ∧ lo ≤ z ∧ z ≤ hi ∧ Strm w' g A c xs (a + 1) ∧ Adv w w' g

set_option maxHeartbeats 1000000 in
set_option maxRecDepth 100000 in
theorem next_any (w : World) (g c : Nat) (A : Option Addr) (xs : List Int) (a n : Int) (hs : Strm w g A c xs a) (ha : 0 ≤ a) (ha2 : a ≤ 4611686018427387904) (hn : 1 ≤ n) (hn2 : n ≤ 9223372036854775807) :
    Calls Tryz.prog 39 #[.pointer (some ⟨g, 0, none⟩), .int .i64 n] w (NextPost w g c A xs a 0 (n - 1)) := by
  have HM := Lib.hid mbelow_any
  have HST := Lib.hid hs
  obtain ⟨c0, c1, f1, hmx, hrg, hcs⟩ := hs
  obtain ⟨L, hL⟩ : ∃ L, xs.length = L := ⟨_, rfl⟩
  rw [hL] at c0 hmx hcs
  have HC := Lib.hid hcs
  have HRG := Lib.hid hrg
  have HL := Lib.hid hL
  unfold maxLen at hmx
  have hL2 : (L : Int) ≤ 9223372036854775807 := by omega
  clear hcs hrg hL
  by_cases h0 : L = 0
  · subst h0
    go_enter Tryz.func39, Tryz.ntmps39
    go_wp2_with fail
    refine (HM.out _ n _ (by unfold wrap64; omega) (by unfold wrap64; omega) hn2).mono ?_
    rintro e w1 ⟨rfl, rfl⟩
    have hb := mb_in (wrap64 ((a + 1) * 7919)) hn
    have HBI := Lib.hid hb
    clear hb
    go_wp2
    go_ret
    exact ⟨_, rfl, HBI.out.1, by have := HBI.out.2; omega, HST.out.next _, Adv.of_set _ _ _ 0⟩
  · obtain ⟨b, o, rfl, hbg, hcell⟩ := HC.out (by omega)
    have hLp : 0 < (L : Int) := by omega
    have t1 := Int.tmod_lt_of_pos a hLp
    have t2 := Int.tmod_nonneg (L : Int) ha
    obtain ⟨I, hI⟩ : ∃ I : Nat, a.tmod (L : Int) = (I : Int) := ⟨(a.tmod (L : Int)).toNat, by omega⟩
    have hIL : I < L := by omega
    have d1 : a.tdiv (L : Int) ≤ a := by rw [Int.tdiv_eq_ediv_of_nonneg ha]; exact Int.ediv_le_self _ ha
    have d2 : 0 ≤ a.tdiv (L : Int) := Int.tdiv_nonneg ha (by omega)
    obtain ⟨Q, hQ⟩ : ∃ Q : Int, a.tdiv (L : Int) = Q := ⟨_, rfl⟩
    rw [hQ] at d1 d2
    have hcI := hcell I hIL
    have hxr : -9223372036854775808 ≤ xs[I]?.getD 0 ∧ xs[I]?.getD 0 ≤ 9223372036854775807 := by
      have hIl : I < xs.length := by rw [HL.out]; exact hIL
      rw [List.getElem?_eq_getElem hIl]
      exact HRG.out _ (List.getElem_mem hIl)
    obtain ⟨x, hx⟩ : ∃ x, xs[I]?.getD 0 = x := ⟨_, rfl⟩
    rw [hx] at hcI hxr
    have hw0 : IntKind.i64.wrap a = a := IntWalk.i64_in _ (by omega)
    have hwI : IntKind.i64.wrap (I : Int) = (I : Int) := IntWalk.i64_in _ (by omega)
    have hwQ : IntKind.i64.wrap Q = Q := IntWalk.i64_in _ (by omega)
    have hI1 : (I : Int) < (L : Int) := by omega
    have hgb : b ≠ g := by omega
    have HXR := Lib.hid hxr
    clear hcell hx hxr t1 t2
    go_enter Tryz.func39, Tryz.ntmps39
    go_wp2_with fail
    go_quiet (fail)
    go_wp2_with fail
    go_quiet (fail)
    clear hw0 hwI hwQ hI hQ
    go_wp2_with fail
    refine (HM.out x 1073741824 _ HXR.out.1 HXR.out.2 (by omega)).mono ?_
    rintro e w1 ⟨rfl, rfl⟩
    obtain ⟨Z, hZ⟩ : ∃ Z, mb x 1073741824 = Z := ⟨_, rfl⟩
    rw [hZ]
    clear hZ
    go_wp2_with fail
    refine (HM.out _ n _ (by unfold wrap64; omega) (by unfold wrap64; omega) hn2).mono ?_
    rintro e w1 ⟨rfl, rfl⟩
    go_wp2
    go_ret
    exact ⟨_, rfl, (mb_in _ hn).1, Int.le_sub_one_of_lt (mb_in _ hn).2, HST.out.next _, Adv.of_set _ _ _ _⟩

theorem range_any (w : World) (g c : Nat) (A : Option Addr) (xs : List Int) (a lo hi : Int) (hs : Strm w g A c xs a) (ha : 0 ≤ a) (ha2 : a ≤ 4611686018427387904) (h1 : lo ≤ hi) (h2 : -1000000000000 ≤ lo) (h3 : hi ≤ 1000000000000) :
    Calls Tryz.prog 74 #[.pointer (some ⟨g, 0, none⟩), .int .i64 lo, .int .i64 hi] w (NextPost w g c A xs a lo hi) := by
  have HX := Lib.hid (next_any w g c A xs a (hi - lo + 1) hs ha ha2 (by omega) (by omega))
  clear hs ha ha2
  go_enter Tryz.func74, Tryz.ntmps74
  go_wp2_with fail
  all_goals first
    | (exfalso; omega)
    | skip
  refine HX.out.mono ?_
  rintro e w1 ⟨z, rfl, z1, z2, hs1, ha1⟩
  have HS := Lib.hid hs1
  have HA := Lib.hid ha1
  clear hs1 ha1
  go_wp2
  go_ret
  exact ⟨_, rfl, by omega, by omega, HS.out, HA.out⟩
end Go.Proofs.YtaibpeokfbokfaaGreatDoor
