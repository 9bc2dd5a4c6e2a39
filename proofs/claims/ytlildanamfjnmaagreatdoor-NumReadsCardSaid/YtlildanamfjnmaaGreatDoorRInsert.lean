/-
  slices.Insert at the head of a row of our own, one value.
-/
import Derived.Test.YtlildanamfjnmaaGreatDoorRBase
import Derived.Laws.CopyOwn
import Derived.Deep.RegionLaw
import Derived.Lib.Overlaps
import Derived.Lib.AppendZerosOnto
import Derived.Lib.AppendZeros
import Derived.Laws.Externs
namespace Go.Proofs.YtlildanamfjnmaaGreatDoor
open Go.RowKit

theorem take_ins1 {Z Y : List Value} {x : Value} {n : Nat} (hY : Y.length = n) (hZ : n + 1 ≤ Z.length) : (splice (splice Z 0 [x]) 1 Y).take (n + 1) = x :: Y := by
  subst hY
  simp [splice]
theorem take_ins2 {Z Y : List Value} {x : Value} {n : Nat} (hY : Y.length = n) (hZ : n + 1 ≤ Z.length) : (splice (splice Z 1 Y) 0 [x]).take (n + 1) = x :: Y := by
  subst hY
  cases Z with
  | nil => simp at hZ
  | cons z Z => simp [splice]
theorem n64s_one (l : List Nat) : ∀ v ∈ n64s l, v.oneCell' = true := by
  intro v hv
  simp only [n64s, List.mem_map] at hv
  obtain ⟨d, -, rfl⟩ := hv
  rfl

/-- append of a slice of another slice type with the same elements -/
theorem append_types {P : Program} {t t' e e' : TypeId} (ht : P.underlying t = some (.slice e)) (ht' : P.underlying t' = some (.slice e')) (ty : TypeId) (A : Option Addr) (n c : Nat) (y : Value) (w : World) :
    (Builtin.append_ #[t, t'] ty #[.slice A n c, y]).run P w = (Builtin.append_ #[t, t] ty #[.slice A n c, y]).run P w := by
  simp only [Builtin.append_, List.getElem?_toArray, List.getElem?_cons_zero, List.getElem?_cons_succ, Sem.run_bind, run_underlying ht, run_underlying ht', Result.andThen_ok]

/-- a row with a new head; nothing but the old row and what is new has turned -/
def InsPost (base : Nat) (row : Option Nat) (w : World) (xs : List Nat) (e : Ending) (w' : World) : Prop := ∃ v, e = .returned v ∧ Below base w w' ∧ w'.ownsRow base 3 1 v xs.length (n64s xs) ∧ w.grownBy w' row
theorem grownBy_of_below {a w : World} (h : Below a.heap.size a w) (row : Option Nat) : a.grownBy w row := ⟨h.os, h.tape, h.output, h.size, fun i hi _ => h.block i hi⟩

set_option maxHeartbeats 2000000 in
set_option maxRecDepth 100000 in
theorem ins_nil (base vb cv x : Nat) (v : Value) (w : World) (hown : w.ownsRow base 3 1 v 0 []) (hbase : base ≤ w.heap.size) (hv : w.cell? ⟨vb, 0, none⟩ = some (.int .i64 (x : Int))) :
    Calls Tryz.prog 128 #[v, .int .i64 0, .slice (some ⟨vb, 0, none⟩) 1 cv] w (InsPost base v.ownBlock w [x]) := by
  obtain ⟨i0, hi, hz0, hz1, hz2⟩ := info_parts info_int
  obtain ⟨A, c, rfl⟩ : ∃ A c, v = .slice A 0 c := by
    rcases hown.2 with ⟨h, -⟩ | ⟨g, cap, cur, h, -⟩
    · exact ⟨_, _, h⟩
    · exact ⟨_, _, h⟩
  have hnews : ∀ j u, ([.int .i64 (x : Int)] : List Value)[j]? = some u → w.cell? ((⟨vb, 0, none⟩ : Addr).add j) = some u := by
    intro j u hu
    match j, hu with
    | 0, hu => rw [Addr.add_lit]; simp at hu; rw [← hu]; exact hv
    | j + 1, hu => simp at hu
  obtain ⟨v', w1, hrun, hown', hgrow, -⟩ := run_append_own (P := Tryz.prog) w base 35 35 3 i0 (.int .i64 0) 1 8 Tryz.underlying35 hi hz0 hz1 hz2 rfl (by decide) _ _ _ hown ⟨vb, 0, none⟩ 1 cv [.int .i64 (x : Int)] rfl hnews (by simp [Value.oneCell']) (by unfold maxLen; omega) (by omega) hbase
  rw [← append_types Tryz.underlying35 Tryz.underlying22] at hrun
  have HRUN := Lib.hid hrun
  have HLT := Lib.hid hown.lt
  have HOWN := Lib.hid hown'
  have HG := Lib.hid hgrow
  clear hnews hown hv hrun hown' hgrow
  go_enter Tryz.func128, Tryz.ntmps128
  go_wp2_with (at_builtin; go_must (refine Lib.wpList_append_run _ rfl _ _ _ _ rfl _ _ rfl rfl _ _ HRUN.out ?_))
  go_ret
  exact ⟨_, rfl, (Below.refl _ _).grown HG.out hbase (fun k hk => (HLT.out k hk).1), by simpa [n64s] using HOWN.out, HG.out⟩

theorem zeros_size (k : Nat) : (Builtin.zeroCells (Value.int .i64 0).cells k).size = k := by
  simp [Builtin.zeroCells, Value.cells]

set_option maxHeartbeats 4000000 in
set_option maxRecDepth 100000 in
theorem ins_grow (base vb cv g n x : Nat) (l : List Nat) (w : World) (hl : l.length = n) (h0 : 0 < n) (hown : w.ownsRow base 3 1 (.slice (some ⟨g, 0, none⟩) n n) n (n64s l)) (hbase : base ≤ w.heap.size) (hn : n ≤ 1000000000)
    (hv : w.cell? ⟨vb, 0, none⟩ = some (.int .i64 (x : Int))) :
    Calls Tryz.prog 128 #[.slice (some ⟨g, 0, none⟩) n n, .int .i64 0, .slice (some ⟨vb, 0, none⟩) 1 cv] w (InsPost base (some g) w (x :: l)) := by
  obtain ⟨i0, hi, hz0, hz1, hz2⟩ := info_parts info_int
  have hg := (hown.lt g rfl).2
  have hvb := World.block_lt_of_cell? w _ hv
  have hold : (Builtin.firstCells i0.size 0 (.slice (some ⟨g, 0, none⟩) 0 n)).run Tryz.prog w.drew = .ok ([] : List Value).toArray w.drew := by
    rw [hz1]
    exact run_firstCells_some w.drew 1 0 ⟨g, 0, none⟩ 0 n [] (by simp) (fun j v hj => by simp at hj)
  have hrz : ∀ ty, (Builtin.append_ #[35, 3] ty #[.slice (some ⟨g, 0, none⟩) 0 n, .int .i64 ((n : Int) + 1)]).run Tryz.prog w =
      .ok (.slice (some ⟨w.heap.size, 0, none⟩) (n + 1) (grownCap w (n + 1) n 3)) (w.drew.alloc (.cells (([] : List Value).toArray ++ Builtin.zeroCells (Value.int .i64 0).cells (n + 1) ++ Builtin.zeroCells (Value.int .i64 0).cells (grownCap w (n + 1) n 3 - (n + 1))) 3)) := fun ty => by
    have h := Lib.run_append_grow_zeros w 35 3 ty 3 i0 _ .i64 .i64 Tryz.underlying35 Tryz.underlying3 hi hz0 (some ⟨g, 0, none⟩) 0 n [] hold (n + 1) (by omega) (by omega) (by omega) (by omega) (by rw [hz2]; omega) (by rw [hz2, Nat.zero_add]; exact growslice_fits (by omega) (by omega))
    rw [Nat.zero_add] at h
    exact h
  obtain ⟨G, hG⟩ : ∃ G, G = grownCap w (n + 1) n 3 := ⟨_, rfl⟩
  have hGn : n + 1 ≤ G := by rw [hG]; exact grownCap_ge w _ _ _
  have hG63 : G ≤ maxLen := by rw [hG]; exact grownCap_le_maxLen w (n + 1) n 3 (by unfold maxLen; omega)
  obtain ⟨Z, hZ⟩ : ∃ Z : List Value, Z.toArray = ([] : List Value).toArray ++ Builtin.zeroCells (Value.int .i64 0).cells (n + 1) ++ Builtin.zeroCells (Value.int .i64 0).cells (G - (n + 1)) := ⟨(([] : List Value).toArray ++ Builtin.zeroCells (Value.int .i64 0).cells (n + 1) ++ Builtin.zeroCells (Value.int .i64 0).cells (G - (n + 1))).toList, by simp⟩
  have hZl : Z.length = G := by
    have h := congrArg Array.size hZ
    simp only [List.size_toArray, Array.size_append, zeros_size, List.length_nil] at h
    omega
  rw [← hG, ← hZ] at hrz
  obtain ⟨W1, hW1⟩ : ∃ W1, W1 = w.drew.alloc (.cells Z.toArray 3) := ⟨_, rfl⟩
  rw [← hW1] at hrz
  have hrow : W1.heap[w.heap.size]? = some (.cells Z.toArray 3 (0, 0)) := by rw [hW1]; exact heap_alloc_new w.drew _
  have hBW : Below w.heap.size w W1 := by rw [hW1]; exact (Below.refl _ w).drew.alloc (Nat.le_refl _) _
  have hsv : ∀ W, Below w.heap.size w W → ∀ j u, ([.int .i64 (x : Int)] : List Value)[j]? = some u → W.cell? ((⟨vb, 0, none⟩ : Addr).add j) = some u := by
    intro W hW j u hu
    match j, hu with
    | 0, hu => rw [Addr.add_lit]; simp at hu; rw [← hu]; exact (hW.cell (p := ⟨vb, 0, none⟩) hvb).trans hv
    | j + 1, hu => simp at hu
  have hso : ∀ W, Below w.heap.size w W → ∀ j u, (n64s l)[j]? = some u → W.cell? ((⟨g, 0, none⟩ : Addr).add j) = some u := by
    intro W hW j u hu
    rw [Addr.add_lit, Nat.zero_add]
    refine (hW.cell (p := ⟨g, j, none⟩) hg).trans ?_
    rw [hown.cellAt j (by
      have := (List.getElem?_eq_some_iff.1 hu).1
      rw [n64s_length] at this; omega)]
    exact hu
  have hsz : (Tryz.prog.info? 3).map (·.size) = some 1 := by kernel_rfl
  have q1 : ((n : Int) == 0) = false := by simp; omega
  have q2 : ((0 : Int) == (n : Int)) = false := by simp; omega
  have q3 : (n : Int) < (n : Int) + 1 := by omega
  have hl1 : ([.int .i64 (x : Int)] : List Value).length = Nat.min 1 (n + 1) := by simp only [Nat.min_def]; split <;> simp; omega
  have hl2 : (n64s l).length = Nat.min n n := by rw [n64s_length, hl]; simp
  have hfit1 : 0 + ([.int .i64 (x : Int)] : List Value).length ≤ Z.length := by simp; omega
  have hfit2 : 1 + (n64s l).length ≤ (splice Z 0 [.int .i64 (x : Int)]).length := by rw [length_splice _ _ _ hfit1, n64s_length, hl, hZl]; omega
  have hone1 : ∀ v ∈ ([.int .i64 (x : Int)] : List Value), v.oneCell' = true := by intro v hv; simp at hv; rw [hv]; rfl
  have HM1 := Lib.hid hl1
  have HM2 := Lib.hid hl2
  have HF1 := Lib.hid hfit1
  have HF2 := Lib.hid hfit2
  have HN1 := Lib.hid hone1
  have HSV := Lib.hid hsv
  have HSO := Lib.hid hso
  have HSZ := Lib.hid hsz
  have HROW := Lib.hid hrow
  have HBW := Lib.hid hBW
  have HZL := Lib.hid hZl
  have HLL := Lib.hid hl
  have HRZ := Lib.hid hrz
  unfold maxLen at hG63
  have hG1 : ¬ (G = 1) := by omega
  have hn1 : ¬ (n = 0) := by omega
  clear hold hrz hG hZ hZl hW1 hrow hBW hsv hso hsz hown hv hl hl1 hl2 hfit1 hfit2 hone1
  go_enter Tryz.func128, Tryz.ntmps128
  go_wp2_with (first
    | (at_builtin; refine Lib.wpList_append_run _ rfl _ _ _ _ rfl _ _ rfl rfl _ _ (HRZ.out _) ?_)
    | ((with_reducible refine wpList_copy_splice (o := ⟨some 45, _, _, _, _, _⟩) rfl _ _ _ _ rfl 3 Tryz.underlying35 HSZ.out _ _ _ _ _ _ rfl rfl w.heap.size 0 Z 3 HROW.out [.int .i64 (x : Int)] HM1.out (fun _ => ⟨rfl, _, rfl, HSV.out _ HBW.out⟩) HF1.out HN1.out w.heap.size w HBW.out (Nat.le_refl _) ?_); intro w2 HG2 hB2; have HB2 := Lib.hid hB2; clear hB2))
  have hwr1 : IntKind.i64.wrap 1 = 1 := by rw [IntKind.wrap_i64]; omega
  have hle1 : (1 : Int) ≤ (n : Int) + 1 := by omega
  go_region_law ((refine step_copy_splice rfl (.tmp 50) (.tmp 53) 35 35 rfl 3 Tryz.underlying35 HSZ.out (some ⟨w.heap.size, 1, none⟩) (some ⟨g, 0, none⟩) n (G - 1) n n (by simp [Act.eval, Act.put]) (by simp [Act.eval, Act.put]) w.heap.size 1 (splice Z 0 [.int .i64 (x : Int)]) 3 HG2.out (n64s l) HM2.out (fun _ => ⟨rfl, _, rfl, HSO.out _ HB2.out.drew⟩) HF2.out (n64s_one l) w.heap.size w HB2.out.drew (Nat.le_refl _) ?_; intro w3 HG3 hB3; have HB3 := Lib.hid hB3; clear hB3))
  go_wp2
  go_ret
  refine ⟨_, rfl, HB3.out.mono hbase, ?_, grownBy_of_below HB3.out _⟩
  refine ⟨by simp [n64s_length], Or.inr ⟨w.heap.size, G, _, by simp [HLL.out], hbase, HG3.out, by simp [HLL.out]; omega, by unfold maxLen; omega, ?_, ?_⟩⟩
  · rw [List.size_toArray, length_splice _ _ _ HF2.out, length_splice _ _ _ HF1.out, HZL.out, Nat.mul_one]
  · rw [List.toList_toArray, List.length_cons, HLL.out, Nat.mul_one]
    exact take_ins1 (by rw [n64s_length, HLL.out]) (by rw [HZL.out]; omega)

theorem grownBy_setRow (w : World) (g : Nat) (cs : Array Value) : w.grownBy (w.setRow g cs) (some g) :=
  ⟨rfl, rfl, rfl, by simp [World.setRow], fun k _ hne => setRow_other w g k cs (by rintro rfl; exact hne rfl)⟩
/-- copy into a row that is known whole, as one step of a region that draws its order: every other block is as it was -/
theorem step_copy_row {P : Program} {ops : Array Oper} {o : Oper} {a : Act} {w : World} {K : Act → World → Prop} {Q : Exit → Act → World → Prop} {E : Prop} (hgd : o.guard = none) (d s : Operand) (dT sT : TypeId)
    (ho : o.op = .call { callee := .builtin .copy, args := #[d, s], argTypes := #[dT, sT] }) (elem : TypeId) (hu : P.underlying dT = some (.slice elem)) (hsz : (P.info? elem).map (·.size) = some 1)
    (g off dLen dCap sLen sCap : Nat) (ad : Addr) (hd : a.eval d = .slice (some ⟨g, off, none⟩) dLen dCap) (hs : a.eval s = .slice (some ad) sLen sCap)
    (cur : List Value) (t : TypeId) (hg : w.heap[g]? = some (.cells cur.toArray t (0, 0))) (cs : List Value) (hn : cs.length = Nat.min sLen dLen)
    (hsrc : ∀ j v, cs[j]? = some v → w.cell? (ad.add j) = some v) (hfit : off + cs.length ≤ cur.length) (h1 : ∀ v ∈ cs, v.oneCell' = true)
    (h : ∀ w', Hid (w'.heap[g]? = some (.cells (splice cur off cs).toArray t (0, 0))) → Hid (w.grownBy w' (some g)) → K (a.put o.dst (goInt cs.length)) w') :
    if Region.wanted o (yielded ops a.tmps) = true then Oper.wp P o a w K Q else E := by
  have hw : Region.wanted o (yielded ops a.tmps) = true := by simp [Region.wanted, hgd]
  rw [if_pos hw]
  have hrun := run_copy_row (P := P) w dT sT o.type elem g off dLen dCap ad sLen sCap cur.toArray t cs hu hsz hg hn hsrc (by simpa using hfit) h1
  unfold Oper.wp
  simp [execOp, ho, resolve, invoke, builtin, hd, hs, hrun, Result.andThen]
  refine h _ (Lib.hid ?_) (Lib.hid (grownBy_setRow _ _ _))
  simpa [splice] using setRow_heap w g _ _ t _ hg

theorem wpList_copy_row {P : Program} {w : World} {ops : Array Oper} {rest : List Oper} {o : Oper} {a : Act} {Q : Exit → Act → World → Prop} (hgd : o.guard = none) (d s : Operand) (dT sT : TypeId)
    (ho : o.op = .call { callee := .builtin .copy, args := #[d, s], argTypes := #[dT, sT] }) (elem : TypeId) (hu : P.underlying dT = some (.slice elem)) (hsz : (P.info? elem).map (·.size) = some 1)
    (g off dLen dCap sLen sCap : Nat) (ad : Addr) (hd : a.eval d = .slice (some ⟨g, off, none⟩) dLen dCap) (hs : a.eval s = .slice (some ad) sLen sCap)
    (cur : List Value) (t : TypeId) (hg : w.heap[g]? = some (.cells cur.toArray t (0, 0))) (cs : List Value) (hn : cs.length = Nat.min sLen dLen)
    (hsrc : ∀ j v, cs[j]? = some v → w.cell? (ad.add j) = some v) (hfit : off + cs.length ≤ cur.length) (h1 : ∀ v ∈ cs, v.oneCell' = true)
    (h : ∀ w', Hid (w'.heap[g]? = some (.cells (splice cur off cs).toArray t (0, 0))) → Hid (w.grownBy w' (some g)) → wpList P ops Q rest (a.put o.dst (goInt cs.length)) w') : wpList P ops Q (o :: rest) a w :=
  wpList_copy_own hgd d s dT sT ho elem hu hsz g off dLen dCap ad sLen sCap hd hs cur.toArray t hg cs hn hsrc (by simpa using hfit) h1
    (h _ (Lib.hid (by simpa [splice] using setRow_heap w g _ _ t _ hg)) (Lib.hid (grownBy_setRow _ _ _)))

set_option maxHeartbeats 4000000 in
set_option maxRecDepth 100000 in
theorem ins_room (base vb g n cap x : Nat) (l : List Nat) (w : World) (hl : l.length = n) (h0 : 0 < n) (hown : w.ownsRow base 3 1 (.slice (some ⟨g, 0, none⟩) n cap) n (n64s l)) (hbase : base ≤ w.heap.size) (hcap : n + 1 ≤ cap)
    (hv : w.heap[vb]? = some (.cells #[.int .i64 (x : Int)] 3 (0, 0))) (hne : vb ≠ g) :
    Calls Tryz.prog 128 #[.slice (some ⟨g, 0, none⟩) n cap, .int .i64 0, .slice (some ⟨vb, 0, none⟩) 1 1] w (InsPost base (some g) w (x :: l)) := by
  have hg := (hown.lt g rfl).2
  have hbg := (hown.lt g rfl).1
  obtain ⟨cur, hrow, hcm, hcs, htake⟩ : ∃ cur : Array Value, w.heap[g]? = some (.cells cur 3 (0, 0)) ∧ cap ≤ maxLen ∧ cur.size = cap ∧ cur.toList.take n = n64s l := by
    rcases hown.2 with ⟨h, -⟩ | ⟨g', cap', cur, h, -, h1, -, h3, h4, h5⟩
    · cases h
    · injection h with h _ hc
      injection h with h
      injection h with h
      subst h hc
      exact ⟨cur, h1, h3, by omega, by rw [← h5, Nat.mul_one]⟩
  obtain ⟨Z, hZ⟩ : ∃ Z : List Value, Z = cur.toList := ⟨_, rfl⟩
  have hZl : Z.length = cap := by rw [hZ]; simpa using hcs
  have hrow' : w.heap[g]? = some (.cells Z.toArray 3 (0, 0)) := by rw [hZ, Array.toArray_toList]; exact hrow
  have hov : ∀ lb cb, (callFunc 157 #[.slice (some ⟨vb, 0, none⟩) 1 1, .slice (some ⟨g, 1, none⟩) lb cb]).run Tryz.prog w = .ok (.value (.bool false)) w := fun lb cb => by
    rw [run_callFunc_extern Tryz.func157 (by kernel_rfl) (by kernel_rfl) (by kernel_rfl) (e := Extern.SlicesOverlaps.overlaps #[22, 22] #[4]) (by kernel_rfl),
      Lib.run_overlaps_apart w 22 4 3 Tryz.underlying22 1 Tryz.sizeOf3 ⟨vb, 0, none⟩ ⟨g, 1, none⟩ 1 1 lb cb hne 3 3 1 cap (by simp [World.shape?, hv]) (by simp [World.shape?, hrow, hcs]) (by omega) (by simp [World.frozen?, hv]) (by simp [World.frozen?, hv])]
    rfl
  have hsv : ∀ W : World, W.heap[vb]? = w.heap[vb]? → ∀ j u, ([.int .i64 (x : Int)] : List Value)[j]? = some u → W.cell? ((⟨vb, 0, none⟩ : Addr).add j) = some u := by
    intro W hW j u hu
    match j, hu with
    | 0, hu =>
      rw [Addr.add_lit]
      simp only [List.getElem?_cons_zero, Option.some.injEq] at hu
      simp [World.cell?, hW, hv, hu]
    | j + 1, hu => simp at hu
  have hso : ∀ j u, (n64s l)[j]? = some u → (w.drew).cell? ((⟨g, 0, none⟩ : Addr).add j) = some u := by
    intro j u hu
    rw [Addr.add_lit, Nat.zero_add]
    show w.cell? _ = _
    rw [hown.cellAt j (by
      have := (List.getElem?_eq_some_iff.1 hu).1
      rw [n64s_length] at this; omega)]
    exact hu
  have hsz : (Tryz.prog.info? 3).map (·.size) = some 1 := by kernel_rfl
  have q1 : ((n : Int) == 0) = false := by simp; omega
  have q2 : ((0 : Int) == (n : Int)) = false := by simp; omega
  have q3 : ¬ ((cap : Int) < (n : Int) + 1) := by omega
  have q4 : (n : Int) + 1 ≤ (cap : Int) := by omega
  have hl1 : ([.int .i64 (x : Int)] : List Value).length = Nat.min 1 (n + 1) := by simp only [Nat.min_def]; split <;> simp; omega
  have hl2 : (n64s l).length = Nat.min (n + 1) n := by rw [n64s_length, hl]; simp only [Nat.min_def]; split <;> omega
  have hfit2 : 1 + (n64s l).length ≤ Z.length := by rw [n64s_length, hl, hZl]; omega
  have hfit1 : 0 + ([.int .i64 (x : Int)] : List Value).length ≤ (splice Z 1 (n64s l)).length := by rw [length_splice _ _ _ hfit2]; simp; omega
  have hone1 : ∀ v ∈ ([.int .i64 (x : Int)] : List Value), v.oneCell' = true := by intro v hv; simp at hv; rw [hv]; rfl
  have HM1 := Lib.hid hl1
  have HM2 := Lib.hid hl2
  have HF1 := Lib.hid hfit1
  have HF2 := Lib.hid hfit2
  have HN1 := Lib.hid hone1
  have HSV := Lib.hid hsv
  have HSO := Lib.hid hso
  have HSZ := Lib.hid hsz
  have HROW := Lib.hid hrow'
  have HZL := Lib.hid hZl
  have HLL := Lib.hid hl
  have HBG := Lib.hid hbg
  have HNE := Lib.hid hne
  have HGW := Lib.hid hg
  have HVW : Hid (vb < w.heap.size) := Lib.hid (Array.getElem?_eq_some_iff.1 hv).1
  unfold maxLen at hcm
  have hG1 : ¬ (cap = 1) := by omega
  have hn1 : ¬ (n = 0) := by omega
  clear hsv hso hsz hrow hrow' hZ hZl hcs htake hown hv hl hl1 hl2 hfit1 hfit2 hone1 hbg hne
  go_enter Tryz.func128, Tryz.ntmps128
  go_wp2_with (simp only [hov])
  have hwr1 : IntKind.i64.wrap 1 = 1 := by rw [IntKind.wrap_i64]; omega
  have hle1 : (1 : Int) ≤ (n : Int) + 1 := by omega
  have hle0 : (0 : Int) ≤ (n : Int) + 1 := by omega
  have hcap0 : ¬ (cap = 0) := by omega
  clear hov
  go_region_law ((refine step_copy_row rfl (.tmp 73) (.tmp 76) 35 35 rfl 3 Tryz.underlying35 HSZ.out g 1 n (cap - 1) (n + 1) cap ⟨g, 0, none⟩ (by simp [Act.eval, Act.put]) (by simp [Act.eval, Act.put]) Z 3 HROW.out (n64s l) HM2.out HSO.out HF2.out (n64s_one l) ?_; intro w2 HG2 HW2))
  have HB2 : Hid (Below base w w2) := Lib.hid ((Below.refl _ w).drew.grown HW2.out hbase (fun k hk => by injection hk with hk; have := HBG.out; omega))
  have HV2 : Hid (w2.heap[vb]? = w.heap[vb]?) := Lib.hid (HW2.out.block vb HVW.out (fun e => HNE.out (by injection e)))
  go_wp2_with ((with_reducible refine wpList_copy_row (o := ⟨some 82, _, _, _, _, _⟩) rfl _ _ _ _ rfl 3 Tryz.underlying35 HSZ.out g 0 _ _ _ _ _ rfl rfl (splice Z 1 (n64s l)) 3 HG2.out [.int .i64 (x : Int)] HM1.out (HSV.out _ HV2.out) HF1.out HN1.out ?_); intro w3 HG3 HW3)
  have HB3 : Hid (Below base w w3) := Lib.hid (HB2.out.grown HW3.out (by have := HW2.out.size; exact Nat.le_trans hbase this) (fun k hk => by injection hk with hk; have := HBG.out; omega))
  go_ret
  refine ⟨_, rfl, HB3.out, ?_, only_trans (only_trans (only_drew (only_refl w (some g))) HW2.out) HW3.out⟩
  refine ⟨by simp [n64s_length], Or.inr ⟨g, cap, _, by simp [HLL.out], HBG.out, HG3.out, by simp [HLL.out]; omega, by unfold maxLen; omega, ?_, ?_⟩⟩
  · rw [List.size_toArray, length_splice _ _ _ HF1.out, length_splice _ _ _ HF2.out, HZL.out, Nat.mul_one]
  · rw [List.toList_toArray, List.length_cons, HLL.out, Nat.mul_one]
    exact take_ins2 (by rw [n64s_length, HLL.out]) (by rw [HZL.out]; omega)

/-- slices.Insert at the head of a row of our own: the value comes first -/
theorem ins_any (base vb x : Nat) (l : List Nat) (v : Value) (w : World) (hown : w.ownsRow base 3 1 v l.length (n64s l)) (hbase : base ≤ w.heap.size) (hn : l.length ≤ 1000000000)
    (hv : w.heap[vb]? = some (.cells #[.int .i64 (x : Int)] 3 (0, 0))) (hne : v.ownBlock ≠ some vb) :
    Calls Tryz.prog 128 #[v, .int .i64 0, .slice (some ⟨vb, 0, none⟩) 1 1] w (InsPost base v.ownBlock w (x :: l)) := by
  have hc : w.cell? ⟨vb, 0, none⟩ = some (.int .i64 (x : Int)) := by simp [World.cell?, hv]
  by_cases h0 : l.length = 0
  · obtain rfl : l = [] := List.eq_nil_of_length_eq_zero h0
    exact ins_nil base vb 1 x v w hown hbase hc
  · rcases hown.2 with ⟨-, h⟩ | ⟨g, cap, cur, rfl, -, -, hnc, -⟩
    · exact absurd h h0
    · by_cases hcap : cap = l.length
      · subst hcap
        exact ins_grow base vb 1 g l.length x l w rfl (by omega) hown hbase hn hc
      · exact ins_room base vb g l.length cap x l w rfl (by omega) hown hbase (by omega) hv (by intro e; exact hne (by rw [e]; rfl))
end Go.Proofs.YtlildanamfjnmaaGreatDoor
