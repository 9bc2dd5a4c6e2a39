/-
  The reference's naturals: insert, natDiv, natGCD.
-/
import Derived.Test.YtldjemlmjfpmjaaGreatDoorRA
import Derived.Laws.CopyOwn
import Derived.Deep.RegionLaw
import Derived.Lib.Overlaps
import Derived.Lib.AppendZerosOnto
import Derived.Lib.AppendZeros
import Derived.Laws.Externs
import Derived.Deep.RegionHeld3
import Derived.Deep.DeepCutAuto
import Derived.Deep.LoopGhost
namespace Go.Proofs.YtldjemlmjfpmjaaGreatDoor
open Go.RowKit

theorem take_ins1 {Z Y : List Value} {x : Value} {n : Nat} (hY : Y.length = n) (hZ : n + 1 ≤ Z.length) : (splice (splice Z 0 [x]) 1 Y).take (n + 1) = x :: Y := by
  subst hY
  simp [splice]
theorem take_ins2 {Z Y : List Value} {x : Value} {n : Nat} (hY : Y.length = n) (hZ : n + 1 ≤ Z.length) : (splice (splice Z 1 Y) 0 [x]).take (n + 1) = x :: Y := by
  subst hY
  cases Z with
  | nil => simp at hZ
  | cons z Z => simp [splice]
theorem n64s_one (l : List Nat) : ∀ v ∈ n64s l, v.oneCell' = true := by
  intro v hv
  simp only [n64s, List.mem_map] at hv
  obtain ⟨d, -, rfl⟩ := hv
  rfl

/-- append of a slice of another slice type with the same elements -/
theorem append_types {P : Program} {t t' e e' : TypeId} (ht : P.underlying t = some (.slice e)) (ht' : P.underlying t' = some (.slice e')) (ty : TypeId) (A : Option Addr) (n c : Nat) (y : Value) (w : World) :
    (Builtin.append_ #[t, t'] ty #[.slice A n c, y]).run P w = (Builtin.append_ #[t, t] ty #[.slice A n c, y]).run P w := by
  simp only [Builtin.append_, List.getElem?_toArray, List.getElem?_cons_zero, List.getElem?_cons_succ, Sem.run_bind, run_underlying ht, run_underlying ht', Result.andThen_ok]

/-- a row with a new head; nothing but the old row and what is new has turned -/
def InsPost (base : Nat) (row : Option Nat) (w : World) (xs : List Nat) (e : Ending) (w' : World) : Prop := ∃ v, e = .returned v ∧ Below base w w' ∧ w'.ownsRow base 3 1 v xs.length (n64s xs) ∧ w.grownBy w' row
theorem grownBy_of_below {a w : World} (h : Below a.heap.size a w) (row : Option Nat) : a.grownBy w row := ⟨h.os, h.tape, h.output, h.size, fun i hi _ => h.block i hi⟩

set_option maxHeartbeats 2000000 in
set_option maxRecDepth 100000 in
theorem ins_nil (base vb cv x : Nat) (v : Value) (w : World) (hown : w.ownsRow base 3 1 v 0 []) (hbase : base ≤ w.heap.size) (hv : w.cell? ⟨vb, 0, none⟩ = some (.int .i64 (x : Int))) :
    Calls Tryz.prog 155 #[v, .int .i64 0, .slice (some ⟨vb, 0, none⟩) 1 cv] w (InsPost base v.ownBlock w [x]) := by
  obtain ⟨i0, hi, hz0, hz1, hz2⟩ := info_parts info_int
  obtain ⟨A, c, rfl⟩ : ∃ A c, v = .slice A 0 c := by
    rcases hown.2 with ⟨h, -⟩ | ⟨g, cap, cur, h, -⟩
    · exact ⟨_, _, h⟩
    · exact ⟨_, _, h⟩
  have hnews : ∀ j u, ([.int .i64 (x : Int)] : List Value)[j]? = some u → w.cell? ((⟨vb, 0, none⟩ : Addr).add j) = some u := by
    intro j u hu
    match j, hu with
    | 0, hu => rw [Addr.add_lit]; simp at hu; rw [← hu]; exact hv
    | j + 1, hu => simp at hu
  obtain ⟨v', w1, hrun, hown', hgrow, -⟩ := run_append_own (P := Tryz.prog) w base 50 50 3 i0 (.int .i64 0) 1 8 Tryz.underlying50 hi hz0 hz1 hz2 rfl (by decide) _ _ _ hown ⟨vb, 0, none⟩ 1 cv [.int .i64 (x : Int)] rfl hnews (by simp [Value.oneCell']) (by unfold maxLen; omega) (by omega) hbase
  rw [← append_types Tryz.underlying50 Tryz.underlying22] at hrun
  have HRUN := Lib.hid hrun
  have HLT := Lib.hid hown.lt
  have HOWN := Lib.hid hown'
  have HG := Lib.hid hgrow
  clear hnews hown hv hrun hown' hgrow
  go_enter Tryz.func155, Tryz.ntmps155
  go_wp2_with (at_builtin; go_must (refine Lib.wpList_append_run _ rfl _ _ _ _ rfl _ _ rfl rfl _ _ HRUN.out ?_))
  go_ret
  exact ⟨_, rfl, (Below.refl _ _).grown HG.out hbase (fun k hk => (HLT.out k hk).1), by simpa [n64s] using HOWN.out, HG.out⟩

theorem zeros_size (k : Nat) : (Builtin.zeroCells (Value.int .i64 0).cells k).size = k := by
  simp [Builtin.zeroCells, Value.cells]

set_option maxHeartbeats 4000000 in
set_option maxRecDepth 100000 in
theorem ins_grow (base vb cv g n x : Nat) (l : List Nat) (w : World) (hl : l.length = n) (h0 : 0 < n) (hown : w.ownsRow base 3 1 (.slice (some ⟨g, 0, none⟩) n n) n (n64s l)) (hbase : base ≤ w.heap.size) (hn : n ≤ 1000000000)
    (hv : w.cell? ⟨vb, 0, none⟩ = some (.int .i64 (x : Int))) :
    Calls Tryz.prog 155 #[.slice (some ⟨g, 0, none⟩) n n, .int .i64 0, .slice (some ⟨vb, 0, none⟩) 1 cv] w (InsPost base (some g) w (x :: l)) := by
  obtain ⟨i0, hi, hz0, hz1, hz2⟩ := info_parts info_int
  have hg := (hown.lt g rfl).2
  have hvb := World.block_lt_of_cell? w _ hv
  have hold : (Builtin.firstCells i0.size 0 (.slice (some ⟨g, 0, none⟩) 0 n)).run Tryz.prog w.drew = .ok ([] : List Value).toArray w.drew := by
    rw [hz1]
    exact run_firstCells_some w.drew 1 0 ⟨g, 0, none⟩ 0 n [] (by simp) (fun j v hj => by simp at hj)
  have hrz : ∀ ty, (Builtin.append_ #[50, 3] ty #[.slice (some ⟨g, 0, none⟩) 0 n, .int .i64 ((n : Int) + 1)]).run Tryz.prog w =
      .ok (.slice (some ⟨w.heap.size, 0, none⟩) (n + 1) (grownCap w (n + 1) n 3)) (w.drew.alloc (.cells (([] : List Value).toArray ++ Builtin.zeroCells (Value.int .i64 0).cells (n + 1) ++ Builtin.zeroCells (Value.int .i64 0).cells (grownCap w (n + 1) n 3 - (n + 1))) 3)) := fun ty => by
    have h := Lib.run_append_grow_zeros w 50 3 ty 3 i0 _ .i64 .i64 Tryz.underlying50 Tryz.underlying3 hi hz0 (some ⟨g, 0, none⟩) 0 n [] hold (n + 1) (by omega) (by omega) (by omega) (by omega) (by rw [hz2]; omega) (by rw [hz2, Nat.zero_add]; exact growslice_fits (by omega) (by omega))
    rw [Nat.zero_add] at h
    exact h
  obtain ⟨G, hG⟩ : ∃ G, G = grownCap w (n + 1) n 3 := ⟨_, rfl⟩
  have hGn : n + 1 ≤ G := by rw [hG]; exact grownCap_ge w _ _ _
  have hG63 : G ≤ maxLen := by rw [hG]; exact grownCap_le_maxLen w (n + 1) n 3 (by unfold maxLen; omega)
  obtain ⟨Z, hZ⟩ : ∃ Z : List Value, Z.toArray = ([] : List Value).toArray ++ Builtin.zeroCells (Value.int .i64 0).cells (n + 1) ++ Builtin.zeroCells (Value.int .i64 0).cells (G - (n + 1)) := ⟨(([] : List Value).toArray ++ Builtin.zeroCells (Value.int .i64 0).cells (n + 1) ++ Builtin.zeroCells (Value.int .i64 0).cells (G - (n + 1))).toList, by simp⟩
  have hZl : Z.length = G := by
    have h := congrArg Array.size hZ
    simp only [List.size_toArray, Array.size_append, zeros_size, List.length_nil] at h
    omega
  rw [← hG, ← hZ] at hrz
  obtain ⟨W1, hW1⟩ : ∃ W1, W1 = w.drew.alloc (.cells Z.toArray 3) := ⟨_, rfl⟩
  rw [← hW1] at hrz
  have hrow : W1.heap[w.heap.size]? = some (.cells Z.toArray 3 (0, 0)) := by rw [hW1]; exact heap_alloc_new w.drew _
  have hBW : Below w.heap.size w W1 := by rw [hW1]; exact (Below.refl _ w).drew.alloc (Nat.le_refl _) _
  have hsv : ∀ W, Below w.heap.size w W → ∀ j u, ([.int .i64 (x : Int)] : List Value)[j]? = some u → W.cell? ((⟨vb, 0, none⟩ : Addr).add j) = some u := by
    intro W hW j u hu
    match j, hu with
    | 0, hu => rw [Addr.add_lit]; simp at hu; rw [← hu]; exact (hW.cell (p := ⟨vb, 0, none⟩) hvb).trans hv
    | j + 1, hu => simp at hu
  have hso : ∀ W, Below w.heap.size w W → ∀ j u, (n64s l)[j]? = some u → W.cell? ((⟨g, 0, none⟩ : Addr).add j) = some u := by
    intro W hW j u hu
    rw [Addr.add_lit, Nat.zero_add]
    refine (hW.cell (p := ⟨g, j, none⟩) hg).trans ?_
    rw [hown.cellAt j (by
      have := (List.getElem?_eq_some_iff.1 hu).1
      rw [n64s_length] at this; omega)]
    exact hu
  have hsz : (Tryz.prog.info? 3).map (·.size) = some 1 := by kernel_rfl
  have q1 : ((n : Int) == 0) = false := by simp; omega
  have q2 : ((0 : Int) == (n : Int)) = false := by simp; omega
  have q3 : (n : Int) < (n : Int) + 1 := by omega
  have hl1 : ([.int .i64 (x : Int)] : List Value).length = Nat.min 1 (n + 1) := by simp only [Nat.min_def]; split <;> simp; omega
  have hl2 : (n64s l).length = Nat.min n n := by rw [n64s_length, hl]; simp
  have hfit1 : 0 + ([.int .i64 (x : Int)] : List Value).length ≤ Z.length := by simp; omega
  have hfit2 : 1 + (n64s l).length ≤ (splice Z 0 [.int .i64 (x : Int)]).length := by rw [length_splice _ _ _ hfit1, n64s_length, hl, hZl]; omega
  have hone1 : ∀ v ∈ ([.int .i64 (x : Int)] : List Value), v.oneCell' = true := by intro v hv; simp at hv; rw [hv]; rfl
  have HM1 := Lib.hid hl1
  have HM2 := Lib.hid hl2
  have HF1 := Lib.hid hfit1
  have HF2 := Lib.hid hfit2
  have HN1 := Lib.hid hone1
  have HSV := Lib.hid hsv
  have HSO := Lib.hid hso
  have HSZ := Lib.hid hsz
  have HROW := Lib.hid hrow
  have HBW := Lib.hid hBW
  have HZL := Lib.hid hZl
  have HLL := Lib.hid hl
  have HRZ := Lib.hid hrz
  unfold maxLen at hG63
  have hG1 : ¬ (G = 1) := by omega
  have hn1 : ¬ (n = 0) := by omega
  clear hold hrz hG hZ hZl hW1 hrow hBW hsv hso hsz hown hv hl hl1 hl2 hfit1 hfit2 hone1
  go_enter Tryz.func155, Tryz.ntmps155
  go_wp2_with (first
    | (at_builtin; refine Lib.wpList_append_run _ rfl _ _ _ _ rfl _ _ rfl rfl _ _ (HRZ.out _) ?_)
    | ((with_reducible refine wpList_copy_splice (o := ⟨some 45, _, _, _, _, _⟩) rfl _ _ _ _ rfl 3 Tryz.underlying50 HSZ.out _ _ _ _ _ _ rfl rfl w.heap.size 0 Z 3 HROW.out [.int .i64 (x : Int)] HM1.out (fun _ => ⟨rfl, _, rfl, HSV.out _ HBW.out⟩) HF1.out HN1.out w.heap.size w HBW.out (Nat.le_refl _) ?_); intro w2 HG2 hB2; have HB2 := Lib.hid hB2; clear hB2))
  have hwr1 : IntKind.i64.wrap 1 = 1 := by rw [IntKind.wrap_i64]; omega
  have hle1 : (1 : Int) ≤ (n : Int) + 1 := by omega
  go_region_law ((refine step_copy_splice rfl (.tmp 50) (.tmp 53) 50 50 rfl 3 Tryz.underlying50 HSZ.out (some ⟨w.heap.size, 1, none⟩) (some ⟨g, 0, none⟩) n (G - 1) n n (by simp [Act.eval, Act.put]) (by simp [Act.eval, Act.put]) w.heap.size 1 (splice Z 0 [.int .i64 (x : Int)]) 3 HG2.out (n64s l) HM2.out (fun _ => ⟨rfl, _, rfl, HSO.out _ HB2.out.drew⟩) HF2.out (n64s_one l) w.heap.size w HB2.out.drew (Nat.le_refl _) ?_; intro w3 HG3 hB3; have HB3 := Lib.hid hB3; clear hB3))
  go_wp2
  go_ret
  refine ⟨_, rfl, HB3.out.mono hbase, ?_, grownBy_of_below HB3.out _⟩
  refine ⟨by simp [n64s_length], Or.inr ⟨w.heap.size, G, _, by simp [HLL.out], hbase, HG3.out, by simp [HLL.out]; omega, by unfold maxLen; omega, ?_, ?_⟩⟩
  · rw [List.size_toArray, length_splice _ _ _ HF2.out, length_splice _ _ _ HF1.out, HZL.out, Nat.mul_one]
  · rw [List.toList_toArray, List.length_cons, HLL.out, Nat.mul_one]
    exact take_ins1 (by rw [n64s_length, HLL.out]) (by rw [HZL.out]; omega)

theorem grownBy_setRow (w : World) (g : Nat) (cs : Array Value) : w.grownBy (w.setRow g cs) (some g) :=
  ⟨rfl, rfl, rfl, by simp [World.setRow], fun k _ hne => setRow_other w g k cs (by rintro rfl; exact hne rfl)⟩
/-- copy into a row that is known whole, as one step of a region that draws its order: every other block is as it was -/
theorem step_copy_row {P : Program} {ops : Array Oper} {o : Oper} {a : Act} {w : World} {K : Act → World → Prop} {Q : Exit → Act → World → Prop} {E : Prop} (hgd : o.guard = none) (d s : Operand) (dT sT : TypeId)
    (ho : o.op = .call { callee := .builtin .copy, args := #[d, s], argTypes := #[dT, sT] }) (elem : TypeId) (hu : P.underlying dT = some (.slice elem)) (hsz : (P.info? elem).map (·.size) = some 1)
    (g off dLen dCap sLen sCap : Nat) (ad : Addr) (hd : a.eval d = .slice (some ⟨g, off, none⟩) dLen dCap) (hs : a.eval s = .slice (some ad) sLen sCap)
    (cur : List Value) (t : TypeId) (hg : w.heap[g]? = some (.cells cur.toArray t (0, 0))) (cs : List Value) (hn : cs.length = Nat.min sLen dLen)
    (hsrc : ∀ j v, cs[j]? = some v → w.cell? (ad.add j) = some v) (hfit : off + cs.length ≤ cur.length) (h1 : ∀ v ∈ cs, v.oneCell' = true)
    (h : ∀ w', Hid (w'.heap[g]? = some (.cells (splice cur off cs).toArray t (0, 0))) → Hid (w.grownBy w' (some g)) → K (a.put o.dst (goInt cs.length)) w') :
    if Region.wanted o (yielded ops a.tmps) = true then Oper.wp P o a w K Q else E := by
  have hw : Region.wanted o (yielded ops a.tmps) = true := by simp [Region.wanted, hgd]
  rw [if_pos hw]
  have hrun := run_copy_row (P := P) w dT sT o.type elem g off dLen dCap ad sLen sCap cur.toArray t cs hu hsz hg hn hsrc (by simpa using hfit) h1
  unfold Oper.wp
  simp [execOp, ho, resolve, invoke, builtin, hd, hs, hrun, Result.andThen]
  refine h _ (Lib.hid ?_) (Lib.hid (grownBy_setRow _ _ _))
  simpa [splice] using setRow_heap w g _ _ t _ hg

theorem wpList_copy_row {P : Program} {w : World} {ops : Array Oper} {rest : List Oper} {o : Oper} {a : Act} {Q : Exit → Act → World → Prop} (hgd : o.guard = none) (d s : Operand) (dT sT : TypeId)
    (ho : o.op = .call { callee := .builtin .copy, args := #[d, s], argTypes := #[dT, sT] }) (elem : TypeId) (hu : P.underlying dT = some (.slice elem)) (hsz : (P.info? elem).map (·.size) = some 1)
    (g off dLen dCap sLen sCap : Nat) (ad : Addr) (hd : a.eval d = .slice (some ⟨g, off, none⟩) dLen dCap) (hs : a.eval s = .slice (some ad) sLen sCap)
    (cur : List Value) (t : TypeId) (hg : w.heap[g]? = some (.cells cur.toArray t (0, 0))) (cs : List Value) (hn : cs.length = Nat.min sLen dLen)
    (hsrc : ∀ j v, cs[j]? = some v → w.cell? (ad.add j) = some v) (hfit : off + cs.length ≤ cur.length) (h1 : ∀ v ∈ cs, v.oneCell' = true)
    (h : ∀ w', Hid (w'.heap[g]? = some (.cells (splice cur off cs).toArray t (0, 0))) → Hid (w.grownBy w' (some g)) → wpList P ops Q rest (a.put o.dst (goInt cs.length)) w') : wpList P ops Q (o :: rest) a w :=
  wpList_copy_own hgd d s dT sT ho elem hu hsz g off dLen dCap ad sLen sCap hd hs cur.toArray t hg cs hn hsrc (by simpa using hfit) h1
    (h _ (Lib.hid (by simpa [splice] using setRow_heap w g _ _ t _ hg)) (Lib.hid (grownBy_setRow _ _ _)))

set_option maxHeartbeats 4000000 in
set_option maxRecDepth 100000 in
theorem ins_room (base vb g n cap x : Nat) (l : List Nat) (w : World) (hl : l.length = n) (h0 : 0 < n) (hown : w.ownsRow base 3 1 (.slice (some ⟨g, 0, none⟩) n cap) n (n64s l)) (hbase : base ≤ w.heap.size) (hcap : n + 1 ≤ cap)
    (hv : w.heap[vb]? = some (.cells #[.int .i64 (x : Int)] 3 (0, 0))) (hne : vb ≠ g) :
    Calls Tryz.prog 155 #[.slice (some ⟨g, 0, none⟩) n cap, .int .i64 0, .slice (some ⟨vb, 0, none⟩) 1 1] w (InsPost base (some g) w (x :: l)) := by
  have hg := (hown.lt g rfl).2
  have hbg := (hown.lt g rfl).1
  obtain ⟨cur, hrow, hcm, hcs, htake⟩ : ∃ cur : Array Value, w.heap[g]? = some (.cells cur 3 (0, 0)) ∧ cap ≤ maxLen ∧ cur.size = cap ∧ cur.toList.take n = n64s l := by
    rcases hown.2 with ⟨h, -⟩ | ⟨g', cap', cur, h, -, h1, -, h3, h4, h5⟩
    · cases h
    · injection h with h _ hc
      injection h with h
      injection h with h
      subst h hc
      exact ⟨cur, h1, h3, by omega, by rw [← h5, Nat.mul_one]⟩
  obtain ⟨Z, hZ⟩ : ∃ Z : List Value, Z = cur.toList := ⟨_, rfl⟩
  have hZl : Z.length = cap := by rw [hZ]; simpa using hcs
  have hrow' : w.heap[g]? = some (.cells Z.toArray 3 (0, 0)) := by rw [hZ, Array.toArray_toList]; exact hrow
  have hov : ∀ lb cb, (callFunc 193 #[.slice (some ⟨vb, 0, none⟩) 1 1, .slice (some ⟨g, 1, none⟩) lb cb]).run Tryz.prog w = .ok (.value (.bool false)) w := fun lb cb => by
    rw [run_callFunc_extern Tryz.func193 (by kernel_rfl) (by kernel_rfl) (by kernel_rfl) (e := Extern.SlicesOverlaps.overlaps #[22, 22] #[4]) (by kernel_rfl),
      Lib.run_overlaps_apart w 22 4 3 Tryz.underlying22 1 Tryz.sizeOf3 ⟨vb, 0, none⟩ ⟨g, 1, none⟩ 1 1 lb cb hne 3 3 1 cap (by simp [World.shape?, hv]) (by simp [World.shape?, hrow, hcs]) (by omega) (by simp [World.frozen?, hv]) (by simp [World.frozen?, hv])]
    rfl
  have hsv : ∀ W : World, W.heap[vb]? = w.heap[vb]? → ∀ j u, ([.int .i64 (x : Int)] : List Value)[j]? = some u → W.cell? ((⟨vb, 0, none⟩ : Addr).add j) = some u := by
    intro W hW j u hu
    match j, hu with
    | 0, hu =>
      rw [Addr.add_lit]
      simp only [List.getElem?_cons_zero, Option.some.injEq] at hu
      simp [World.cell?, hW, hv, hu]
    | j + 1, hu => simp at hu
  have hso : ∀ j u, (n64s l)[j]? = some u → (w.drew).cell? ((⟨g, 0, none⟩ : Addr).add j) = some u := by
    intro j u hu
    rw [Addr.add_lit, Nat.zero_add]
    show w.cell? _ = _
    rw [hown.cellAt j (by
      have := (List.getElem?_eq_some_iff.1 hu).1
      rw [n64s_length] at this; omega)]
    exact hu
  have hsz : (Tryz.prog.info? 3).map (·.size) = some 1 := by kernel_rfl
  have q1 : ((n : Int) == 0) = false := by simp; omega
  have q2 : ((0 : Int) == (n : Int)) = false := by simp; omega
  have q3 : ¬ ((cap : Int) < (n : Int) + 1) := by omega
  have q4 : (n : Int) + 1 ≤ (cap : Int) := by omega
  have hl1 : ([.int .i64 (x : Int)] : List Value).length = Nat.min 1 (n + 1) := by simp only [Nat.min_def]; split <;> simp; omega
  have hl2 : (n64s l).length = Nat.min (n + 1) n := by rw [n64s_length, hl]; simp only [Nat.min_def]; split <;> omega
  have hfit2 : 1 + (n64s l).length ≤ Z.length := by rw [n64s_length, hl, hZl]; omega
  have hfit1 : 0 + ([.int .i64 (x : Int)] : List Value).length ≤ (splice Z 1 (n64s l)).length := by rw [length_splice _ _ _ hfit2]; simp; omega
  have hone1 : ∀ v ∈ ([.int .i64 (x : Int)] : List Value), v.oneCell' = true := by intro v hv; simp at hv; rw [hv]; rfl
  have HM1 := Lib.hid hl1
  have HM2 := Lib.hid hl2
  have HF1 := Lib.hid hfit1
  have HF2 := Lib.hid hfit2
  have HN1 := Lib.hid hone1
  have HSV := Lib.hid hsv
  have HSO := Lib.hid hso
  have HSZ := Lib.hid hsz
  have HROW := Lib.hid hrow'
  have HZL := Lib.hid hZl
  have HLL := Lib.hid hl
  have HBG := Lib.hid hbg
  have HNE := Lib.hid hne
  have HGW := Lib.hid hg
  have HVW : Hid (vb < w.heap.size) := Lib.hid (Array.getElem?_eq_some_iff.1 hv).1
  unfold maxLen at hcm
  have hG1 : ¬ (cap = 1) := by omega
  have hn1 : ¬ (n = 0) := by omega
  clear hsv hso hsz hrow hrow' hZ hZl hcs htake hown hv hl hl1 hl2 hfit1 hfit2 hone1 hbg hne
  go_enter Tryz.func155, Tryz.ntmps155
  go_wp2_with (simp only [hov])
  have hwr1 : IntKind.i64.wrap 1 = 1 := by rw [IntKind.wrap_i64]; omega
  have hle1 : (1 : Int) ≤ (n : Int) + 1 := by omega
  have hle0 : (0 : Int) ≤ (n : Int) + 1 := by omega
  have hcap0 : ¬ (cap = 0) := by omega
  clear hov
  go_region_law ((refine step_copy_row rfl (.tmp 73) (.tmp 76) 50 50 rfl 3 Tryz.underlying50 HSZ.out g 1 n (cap - 1) (n + 1) cap ⟨g, 0, none⟩ (by simp [Act.eval, Act.put]) (by simp [Act.eval, Act.put]) Z 3 HROW.out (n64s l) HM2.out HSO.out HF2.out (n64s_one l) ?_; intro w2 HG2 HW2))
  have HB2 : Hid (Below base w w2) := Lib.hid ((Below.refl _ w).drew.grown HW2.out hbase (fun k hk => by injection hk with hk; have := HBG.out; omega))
  have HV2 : Hid (w2.heap[vb]? = w.heap[vb]?) := Lib.hid (HW2.out.block vb HVW.out (fun e => HNE.out (by injection e)))
  go_wp2_with ((with_reducible refine wpList_copy_row (o := ⟨some 82, _, _, _, _, _⟩) rfl _ _ _ _ rfl 3 Tryz.underlying50 HSZ.out g 0 _ _ _ _ _ rfl rfl (splice Z 1 (n64s l)) 3 HG2.out [.int .i64 (x : Int)] HM1.out (HSV.out _ HV2.out) HF1.out HN1.out ?_); intro w3 HG3 HW3)
  have HB3 : Hid (Below base w w3) := Lib.hid (HB2.out.grown HW3.out (by have := HW2.out.size; exact Nat.le_trans hbase this) (fun k hk => by injection hk with hk; have := HBG.out; omega))
  go_ret
  refine ⟨_, rfl, HB3.out, ?_, only_trans (only_trans (only_drew (only_refl w (some g))) HW2.out) HW3.out⟩
  refine ⟨by simp [n64s_length], Or.inr ⟨g, cap, _, by simp [HLL.out], HBG.out, HG3.out, by simp [HLL.out]; omega, by unfold maxLen; omega, ?_, ?_⟩⟩
  · rw [List.size_toArray, length_splice _ _ _ HF1.out, length_splice _ _ _ HF2.out, HZL.out, Nat.mul_one]
  · rw [List.toList_toArray, List.length_cons, HLL.out, Nat.mul_one]
    exact take_ins2 (by rw [n64s_length, HLL.out]) (by rw [HZL.out]; omega)

/-- slices.Insert at the head of a row of our own: the value comes first -/
theorem ins_any (base vb x : Nat) (l : List Nat) (v : Value) (w : World) (hown : w.ownsRow base 3 1 v l.length (n64s l)) (hbase : base ≤ w.heap.size) (hn : l.length ≤ 1000000000)
    (hv : w.heap[vb]? = some (.cells #[.int .i64 (x : Int)] 3 (0, 0))) (hne : v.ownBlock ≠ some vb) :
    Calls Tryz.prog 155 #[v, .int .i64 0, .slice (some ⟨vb, 0, none⟩) 1 1] w (InsPost base v.ownBlock w (x :: l)) := by
  have hc : w.cell? ⟨vb, 0, none⟩ = some (.int .i64 (x : Int)) := by simp [World.cell?, hv]
  by_cases h0 : l.length = 0
  · obtain rfl : l = [] := List.eq_nil_of_length_eq_zero h0
    exact ins_nil base vb 1 x v w hown hbase hc
  · rcases hown.2 with ⟨-, h⟩ | ⟨g, cap, cur, rfl, -, -, hnc, -⟩
    · exact absurd h h0
    · by_cases hcap : cap = l.length
      · subst hcap
        exact ins_grow base vb 1 g l.length x l w rfl (by omega) hown hbase hn hc
      · exact ins_room base vb g l.length cap x l w rfl (by omega) hown hbase (by omega) hv (by intro e; exact hne (by rw [e]; rfl))
end Go.Proofs.YtldjemlmjfpmjaaGreatDoor

namespace Go.Proofs.YtldjemlmjfpmjaaGreatDoor
open Go.RowKit

theorem rbelow_drewN {B : Nat} {a w : World} (h : Below B a w) (n : Nat) : Below B a (w.drewN n) := ⟨h.os, h.tape, h.output, h.size, h.block⟩
theorem Pt.drewN {w : World} {v : Value} {n : Nat} (h : Pt w v n) (k : Nat) : Pt (w.drewN k) v n := h
theorem Pt.drew {w : World} {v : Value} {n : Nat} (h : Pt w v n) : Pt w.drew v n := h
theorem Pt.alloc {w : World} {v : Value} {n : Nat} (h : Pt w v n) (o : Obj) : Pt (w.alloc o) v n := Sl.alloc h o
theorem tidy_cons_dg {x r : Nat} (hx : x < 10000) : Mth.tidy (x :: Mth.dg 10000 r) = Mth.dg 10000 (x + 10000 * r) := by
  rw [Mth.tidy_eq (b := 10000) (by omega) _ (by
    intro d hd
    rcases List.mem_cons.1 hd with rfl | h
    · exact hx
    · exact Mth.dg_lt (by omega) r d h)]
  simp only [Mth.val]
  rw [Mth.val_dg (by omega)]
theorem rsub_any (m n : Nat) (va vb : Value) (w : World) (ha : Pt w va m) (hb : Pt w vb n) (hs : (Mth.dg 10000 m).length ≤ 1000000000) (ht : (Mth.dg 10000 n).length ≤ 1000000000) (h : n ≤ m) :
    Calls Tryz.prog 156 #[va, vb, .int .i64 (-1)] w (CarryPost w.heap.size w (m - n)) := by
  have e : ((m : Int) + -1 * (n : Int)).toNat = m - n := by omega
  have h := radd_list (Mth.dg 10000 m) (Mth.dg 10000 n) (-1) (Or.inr rfl) (Mth.dg_lt (by omega) m) (Mth.dg_lt (by omega) n) va vb w ha hb hs ht (by rw [Mth.val_dg (by omega), Mth.val_dg (by omega)]; omega)
  rwa [Mth.val_dg (by omega), Mth.val_dg (by omega), e] at h
theorem radd_any (m n : Nat) (va vb : Value) (w : World) (ha : Pt w va m) (hb : Pt w vb n) (hs : (Mth.dg 10000 m).length ≤ 1000000000) (ht : (Mth.dg 10000 n).length ≤ 1000000000) :
    Calls Tryz.prog 156 #[va, vb, .int .i64 1] w (CarryPost w.heap.size w (m + n)) := by
  have e : ((m : Int) + 1 * (n : Int)).toNat = m + n := by omega
  have h := radd_list (Mth.dg 10000 m) (Mth.dg 10000 n) 1 (Or.inl rfl) (Mth.dg_lt (by omega) m) (Mth.dg_lt (by omega) n) va vb w ha hb hs ht (by rw [Mth.val_dg (by omega), Mth.val_dg (by omega)]; omega)
  rwa [Mth.val_dg (by omega), Mth.val_dg (by omega), e] at h

/-- a quotient and a rest -/
def RDiv (m n : Nat) (w : World) (e : Ending) (w' : World) : Prop := ∃ q r, e = .returned (.tuple #[q, r]) ∧ Below w.heap.size w w' ∧ Pt w' q (m / n) ∧ Pt w' r (m % n)

set_option maxHeartbeats 1000000 in
set_option maxRecDepth 100000 in
theorem rdiv_small (m n : Nat) (va vb : Value) (w : World) (ha : Pt w va m) (hb : Pt w vb n) (hs : (Mth.dg 10000 m).length ≤ 100000000) (ht : (Mth.dg 10000 n).length ≤ 100000000) (h : m < n) :
    Calls Tryz.prog 110 #[va, vb] w (RDiv m n w) := by
  have HC := Lib.hid (rcmp_any m n va vb w ha hb (by omega) (by omega))
  have HA := Lib.hid ha
  have HLT := Lib.hid h
  clear ha hb h
  go_enter Tryz.func110, Tryz.ntmps110
  go_wp2_with fail
  refine HC.out.mono ?_
  rintro e w1 ⟨z, rfl, hz, k, rfl⟩
  have hz1 : z < 0 := by have := HLT.out; omega
  clear hz
  go_wp2
  go_ret2
  exact ⟨_, _, rfl, rbelow_drewN (Below.refl _ _) k, by rw [Nat.div_eq_of_lt HLT.out]; exact Pt.zero _, by rw [Nat.mod_eq_of_lt HLT.out]; exact HA.out.drewN k⟩
end Go.Proofs.YtldjemlmjfpmjaaGreatDoor

namespace Go.Proofs.YtldjemlmjfpmjaaGreatDoor
open Go.RowKit

theorem mem_cons_lt {Q : List Nat} {b d : Nat} (h : ∀ x ∈ Q, x < b) (hd : d < b) : ∀ x ∈ d :: Q, x < b := by
  intro x hx
  rcases List.mem_cons.1 hx with rfl | h1
  · exact hd
  · exact h x h1
/-- a slice of another row than the one that has turned -/
theorem Sl.grown {w w' : World} {v : Value} {xs : List Value} {row : Option Nat} (h : Sl w v xs) (hg : w.grownBy w' row) (hne : ∀ k, v.ownBlock = some k → row = some k → False) : Sl w' v xs := by
  obtain ⟨A, c, e, h1, h2, h3⟩ := h
  refine ⟨A, c, e, h1, h2, fun h0 => ?_⟩
  obtain ⟨b, o, rfl, h4⟩ := h3 h0
  refine ⟨b, o, rfl, fun j u hu => ?_⟩
  have h5 := h4 j u hu
  have hb : b < w.heap.size := World.block_lt_of_cell? w _ h5
  exact (World.cell?_of_block (a := ⟨b, o + j, none⟩) (hg.block b hb (fun e2 => hne b (by rw [e]; rfl) e2.symm))).trans h5

set_option maxHeartbeats 8000000 in
set_option maxRecDepth 100000 in
theorem rdiv_big (m n : Nat) (va vb : Value) (w : World) (ha : Pt w va m) (hb : Pt w vb n) (hs : (Mth.dg 10000 m).length ≤ 100000000) (ht : (Mth.dg 10000 n).length ≤ 100000000) (h : n ≤ m) (hn0 : 0 < n) :
    Calls Tryz.prog 110 #[va, vb] w (RDiv m n w) := by
  have HC := Lib.hid (rcmp_any m n va vb w ha hb (by omega) (by omega))
  have HB := Lib.hid hb
  have HLT := Lib.hid h
  have HN0 := Lib.hid hn0
  obtain ⟨A, c, rfl, h1, h2, h3⟩ := ha
  obtain ⟨A', c', rfl, -, -, -⟩ := hb
  obtain ⟨la, hla⟩ : ∃ la, Mth.dg 10000 m = la := ⟨_, rfl⟩
  obtain ⟨nb, hnb⟩ : ∃ nb, (Mth.dg 10000 n).length = nb := ⟨_, rfl⟩
  have hnb0 : 0 < nb := by rw [← hnb]; exact List.length_pos_iff.2 (Mth.dg_ne_nil (by omega) hn0)
  have hle : nb ≤ la.length := by rw [← hla, ← hnb]; exact Mth.dg_len_mono (by omega) h
  have hlow : 10000 ^ (nb - 1) ≤ n := by rw [← hnb]; exact Mth.pow_le_of_dg (by omega) hn0
  have hval : Mth.val 10000 la = m := by rw [← hla]; exact Mth.val_dg (by omega) m
  have hlad : ∀ d ∈ la, d < 10000 := by rw [← hla]; exact Mth.dg_lt (by omega) m
  have HNB := Lib.hid hnb
  rw [hla] at hs
  simp only [n64s_length] at h1 h3
  rw [hnb] at ht
  rw [hla] at h1 h3
  rw [n64s_length, hla] at HC
  rw [n64s_length, hnb] at HC HB
  rw [n64s_length, n64s_length, hla, hnb]
  obtain ⟨b, o, rfl, hc⟩ := h3 (by omega)
  obtain ⟨from_, hf⟩ : ∃ f, la.length - nb = f := ⟨_, rfl⟩
  have hR0 : Mth.val 10000 (la.drop (from_ + 1)) < n := by
    have h5 := Mth.val_lt (b := 10000) (by omega) (la.drop (from_ + 1)) (fun d hd => hlad d (List.mem_of_mem_drop hd))
    rw [List.length_drop, show la.length - (from_ + 1) = nb - 1 by omega] at h5
    omega
  have HCELL : Hid (∀ j, j < la.length → w.cell? ⟨b, o + j, none⟩ = some (.int .i64 ((la[j]?.getD 0 : Nat) : Int))) := Lib.hid fun j hj => hc j _ (n64s_at hj)
  have hbw : b < w.heap.size := World.block_lt_of_cell? w _ (HCELL.out 0 (by omega))
  have HSL : Hid (∀ W : World, (∃ k, W = w.drewN k) → ∀ A0 c0, (A0 = some ⟨b, o + (from_ + 1), none⟩ ∨ la.length = from_ + 1) → la.length - (from_ + 1) ≤ c0 → c0 ≤ maxLen → Sl W (.slice A0 (la.length - (from_ + 1)) c0) (n64s (la.drop (from_ + 1)))) := Lib.hid fun W ⟨k, hk⟩ A0 c0 hA h5 h6 => by
    subst hk
    refine ⟨A0, c0, by rw [n64s_length, List.length_drop], by rw [n64s_length, List.length_drop]; exact h5, h6, fun h7 => ?_⟩
    rw [n64s_length, List.length_drop] at h7
    rcases hA with hA | hA
    · refine ⟨b, o + (from_ + 1), hA, fun j u hu => ?_⟩
      have := hc (from_ + 1 + j) u (by rw [← hu, n64s, n64s, List.getElem?_map, List.getElem?_map, List.getElem?_drop])
      rw [Nat.add_assoc]
      exact this
    · omega
  have HVAL := Lib.hid hval
  have HLAD := Lib.hid hlad
  have HR0 := Lib.hid hR0
  have HF := Lib.hid hf
  have hfi : (la.length : Int) - (nb : Int) = (from_ : Int) := by omega
  have hf1 : (from_ : Int) + 1 ≤ (la.length : Int) := by omega
  have hf2 : from_ + 1 ≤ la.length := by omega
  have h2m := h2
  unfold maxLen at h2
  clear hval hlad hnb hR0 hf hla hc h3 h hlow hn0
  have HF2 := Lib.hid hf2
  have HHS := Lib.hid hs
  have HFI := Lib.hid hfi
  have HH1 := Lib.hid h1
  go_enter Tryz.func110, Tryz.ntmps110
  go_wp2_with fail
  refine HC.out.mono ?_
  rintro e w1 ⟨z, rfl, hz, k, rfl⟩
  have hz1 : ¬ (z < 0) := by have := HLT.out; omega
  clear hz
  go_upto_region 5 with fail
  go_cut [8] (fun a8 wx => Pt wx a8 (Mth.val 10000 (la.drop (from_ + 1))) ∧ Below w.heap.size w wx)
  case first =>
    by_cases hcap : c = from_ + 1
    · have hl : la.length = from_ + 1 := by omega
      have HSLV : Hid (Sl (w.drewN k) (.slice (some ⟨b, o, none⟩) 0 0) (n64s (la.drop (from_ + 1)))) := Lib.hid (by
        have h := HSL.out (w.drewN k) ⟨k, rfl⟩ (some ⟨b, o, none⟩) 0 (Or.inr hl) (by omega) (by unfold maxLen; omega)
        rwa [hl, Nat.sub_self] at h)
      have hl0 : la.length - (from_ + 1) = 0 := by omega
      have hc0 : c - (from_ + 1) = 0 := by omega
      go_wp2_with fail
      refine (rclone_any (la.drop (from_ + 1)) _ _ HSLV.out (by rw [List.length_drop]; have := HHS.out; omega)).mono ?_
      rintro e w2 ⟨v2, rfl, hB2, hown2⟩
      have hsl2 := Sl.of_own hown2
      have HB2 : Hid (Below w.heap.size w w2) := Lib.hid ((rbelow_drewN (Below.refl _ w) k).trans hB2)
      clear hB2 hown2 hl0 hc0 hcap hl
      go_wp2_with fail
      refine (tidy_any (la.drop (from_ + 1)) v2 w2 hsl2 (by rw [List.length_drop]; have := HHS.out; omega)).mono ?_
      rintro e w3 ⟨v3, rfl, hS3, rfl⟩
      have HP3 : Hid (Pt w2 v3 (Mth.val 10000 (la.drop (from_ + 1)))) := Lib.hid (by
        unfold Pt
        rw [← Mth.tidy_eq (by omega) _ (fun d hd => HLAD.out d (List.mem_of_mem_drop hd))]
        exact hS3)
      clear hS3 hsl2
      go_wp2_with fail
      go_meet
      exact ⟨HP3.out, HB2.out⟩
    · have HSLV : Hid (Sl (w.drewN k) (.slice (some ⟨b, o + (from_ + 1), none⟩) (la.length - (from_ + 1)) (c - (from_ + 1))) (n64s (la.drop (from_ + 1)))) := Lib.hid (by
        exact HSL.out (w.drewN k) ⟨k, rfl⟩ _ (c - (from_ + 1)) (Or.inl rfl) (by omega) (by unfold maxLen; omega))
      go_wp2_with fail
      refine (rclone_any (la.drop (from_ + 1)) _ _ HSLV.out (by rw [List.length_drop]; have := HHS.out; omega)).mono ?_
      rintro e w2 ⟨v2, rfl, hB2, hown2⟩
      have hsl2 := Sl.of_own hown2
      have HB2 : Hid (Below w.heap.size w w2) := Lib.hid ((rbelow_drewN (Below.refl _ w) k).trans hB2)
      clear hB2 hown2 hcap
      go_wp2_with fail
      refine (tidy_any (la.drop (from_ + 1)) v2 w2 hsl2 (by rw [List.length_drop]; have := HHS.out; omega)).mono ?_
      rintro e w3 ⟨v3, rfl, hS3, rfl⟩
      have HP3 : Hid (Pt w2 v3 (Mth.val 10000 (la.drop (from_ + 1)))) := Lib.hid (by
        unfold Pt
        rw [← Mth.tidy_eq (by omega) _ (fun d hd => HLAD.out d (List.mem_of_mem_drop hd))]
        exact hS3)
      clear hS3 hsl2
      go_wp2_with fail
      go_meet
      exact ⟨HP3.out, HB2.out⟩
  case rest =>
    obtain ⟨hP3, hB2⟩ := hcut
    have HP3 := Lib.hid hP3
    have HB2 := Lib.hid hB2
    clear hP3 hB2 HSL hz1 hfi hf1 hf2 hs
    go_wp2
    go_loopg [6, 8, 9] (from_ + 1) (fun k a6 a8 a9 wr => ∃ (i : Int) (r : Nat) (Q : List Nat), a9 = .int .i64 i ∧ i = (k : Int) - 1 ∧ k ≤ from_ + 1 ∧ wr.ownsRow w.heap.size 3 1 a6 Q.length (n64s Q) ∧ Pt wr a8 r ∧ r < n ∧ (∀ d ∈ Q, d < 10000) ∧ Q.length = from_ + 1 - k ∧
      Mth.val 10000 (la.drop k) = Mth.val 10000 Q * n + r ∧ Below w.heap.size w wr)
    case atStart => exact ⟨_, _, [], rfl, by omega, by omega, World.ownsRow_nil _ _ _ _, HP3.out, HR0.out, by simp, by simp, by simp [Mth.val], HB2.out⟩
    case round =>
      obtain ⟨i, r, Q, rfl, hik, hk, hown, hr, hrn, hQ, hQl, hv, hB⟩ := hrel
      have HPR := Lib.hid hr
      have HRN := Lib.hid hrn
      have HQ := Lib.hid hQ
      have HQL := Lib.hid hQl
      have HV := Lib.hid hv
      have HOWN := Lib.hid hown
      have hBs := hB.size
      have HBR := Lib.hid hB
      have hQs : Q.length ≤ 100000001 := by have := HHS.out; have := HF2.out; omega
      obtain ⟨A8, k8, c8, rfl⟩ := hr.shape
      clear hr hrn hQ hQl hv hown hB
      by_cases h0 : gk = 0
      · subst h0
        obtain rfl : i = -1 := by omega
        clear hik hk
        go_wp2_with fail
        refine (tidy_any Q _ _ (Sl.of_own HOWN.out) (by omega)).mono ?_
        rintro e w4 ⟨v4, rfl, hS4, rfl⟩
        have hv := HV.out
        rw [List.drop_zero, HVAL.out] at hv
        have hd : m / n = Mth.val 10000 Q ∧ m % n = r := by
          have hn0 := HN0.out
          have hrn := HRN.out
          subst hv
          rw [Nat.mul_comm]
          constructor
          · rw [Nat.mul_add_div hn0, Nat.div_eq_of_lt hrn, Nat.add_zero]
          · rw [Nat.mul_add_mod, Nat.mod_eq_of_lt hrn]
        have HD := Lib.hid hd
        have HS4 := Lib.hid hS4
        clear hd hS4 hv
        go_wp2
        go_ret2
        refine ⟨_, _, rfl, HBR.out, ?_, ?_⟩
        · rw [HD.out.1]
          unfold Pt
          rw [← Mth.tidy_eq (by omega) Q HQ.out]
          exact HS4.out
        · rw [HD.out.2]; exact HPR.out
      · obtain ⟨q, rfl⟩ : ∃ q : Nat, gk = q + 1 := ⟨gk - 1, by omega⟩
        obtain rfl : i = (q : Int) := by omega
        have hql : q < la.length := by have := HF2.out; omega
        have hq0 : (0 : Int) ≤ (q : Int) := by omega
        have hq2 : (q : Int) < (la.length : Int) := by omega
        have g1 := (Below.cell HBR.out (p := ⟨b, o + q, none⟩) hbw).trans (HCELL.out q hql)
        have b1 := Mth.getD_lt (by omega) HLAD.out q
        obtain ⟨x, hx⟩ : ∃ x, la[q]?.getD 0 = x := ⟨_, rfl⟩
        rw [hx] at g1 b1
        have HX := Lib.hid hx
        have HQ2 := Lib.hid hql
        have HBW : Hid (b < wr.heap.size) := Lib.hid (by omega)
        have HS : Hid (∀ w', Below wr.heap.size wr w' → w'.cell? ⟨b, o + q, none⟩ = some (.int .i64 (x : Int))) := Lib.hid fun w' hb => (hb.cell (p := ⟨b, o + q, none⟩) HBW.out).trans g1
        have HLR : Hid ((Mth.dg 10000 r).length ≤ nb) := Lib.hid (by have := Mth.dg_len_mono (b := 10000) (by omega) (Nat.le_of_lt HRN.out); rw [HNB.out] at this; exact this)
        have HKK := Lib.hid hk
        clear hx hql h0 hik hk
        go_upto_region 9 with fail
        go_cut [8] (fun a8 wx => Pt wx a8 (x + 10000 * r) ∧ Below wr.heap.size wr wx ∧ ∀ k, a8.ownBlock = some k → wr.heap.size ≤ k)
        case first =>
          go_region_held3 (fun w' => w'.cell? ⟨b, o + q, none⟩ = some (.int .i64 (x : Int)))
            (first | exact g1 | exact HS.out _ HC2.out | exact HS.out _ HC1.out | go_keep)
            (first
              | (go_at_call 154; refine (rclone_any (Mth.dg 10000 r) _ _ (by first | exact HPR.out | exact Sl.alloc HPR.out _) (by have := HLR.out; omega)).mono ?_; rintro e w4 ⟨v4, rfl, hB4, hown4⟩
                 first
                   | (have HC1 : Hid (Below wr.heap.size wr w4) := Lib.hid ((Below.refl _ wr).drew.trans hB4)
                      have HINS := Lib.hid (ins_any _ w4.heap.size x (Mth.dg 10000 r) v4 _ (hown4.alloc (.cells #[.int .i64 (x : Int)] 3)) (by have := HC1.out.size; simp; omega) (by have := HLR.out; omega) (heap_alloc_new w4 _) (fun e => absurd (hown4.lt _ e).2 (Nat.lt_irrefl _)))
                      have HTR : Hid (∀ W, Below wr.heap.size (w4.alloc (.cells #[.int .i64 (x : Int)] 3)) W → Below wr.heap.size wr W) := Lib.hid fun W hW => (HC1.out.alloc HC1.out.size _).trans hW)
                   | (have HC1 : Hid (Below wr.heap.size wr w4) := Lib.hid ((((Below.refl _ wr).drew).alloc (Nat.le_refl _) _).trans (hB4.mono (by simp)))
                      have HINS := Lib.hid (ins_any _ wr.heap.size x (Mth.dg 10000 r) v4 _ hown4 hB4.size (by have := HLR.out; omega) ((hB4.block wr.heap.size (by simp)).trans (heap_alloc_new wr.drew _)) (fun e => absurd (hown4.lt _ e).1 (by simp)))
                      have HTR : Hid (∀ W, Below (wr.drew.alloc (.cells #[.int .i64 (x : Int)] 3)).heap.size w4 W → Below wr.heap.size wr W) := Lib.hid fun W hW => HC1.out.trans (hW.mono (by simp)))
                 clear hB4 hown4)
              | (go_at_call 155; refine HINS.out.mono ?_; rintro e w5 ⟨v5, rfl, hB5, hown5, -⟩; have HC2 : Hid (Below wr.heap.size wr w5) := Lib.hid (HTR.out _ hB5); have HSL5 := Lib.hid (Sl.of_own hown5); have HLT5 := Lib.hid hown5.lt; clear hB5 hown5)
              | (go_at_call 112; refine (tidy_own (x :: Mth.dg 10000 r) v5 _ HSL5.out (by rw [List.length_cons]; have := HLR.out; omega)).mono ?_; rintro e w6 ⟨v6, rfl, hS6, hob6, rfl⟩; have HOB6 : Hid (∀ k, v6.ownBlock = some k → wr.heap.size ≤ k) := Lib.hid (fun k hk => by have h := (HLT5.out k (by rw [← hob6]; exact hk)).1; simp at h; omega); clear hob6; have HP6 : Hid (Pt w5 v6 (x + 10000 * r)) := Lib.hid (by unfold Pt; rw [← tidy_cons_dg b1]; exact hS6); clear hS6))
          all_goals
            go_wp2_with fail
            go_meet
            exact ⟨HP6.out, HC2.out, HOB6.out⟩
        case rest =>
          obtain ⟨hP6, hC2, hob6⟩ := hcut
          have HOB6 := Lib.hid hob6
          have HUL : Hid (∀ k, u6.ownBlock = some k → k < wr.heap.size) := Lib.hid fun k hk => (HOWN.out.lt k hk).2
          clear hob6
          obtain ⟨r1, hr1⟩ : ∃ r1, x + 10000 * r = r1 := ⟨_, rfl⟩
          have hr1n : r1 < 10000 * n := by have := HRN.out; omega
          obtain ⟨D, hD⟩ : ∃ D, r1 / n = D := ⟨_, rfl⟩
          have hD9 : D ≤ 9999 := by
            have : r1 / n < 10000 := Nat.div_lt_of_lt_mul (by rw [Nat.mul_comm]; exact hr1n)
            omega
          have hlr1 : (Mth.dg 10000 r1).length ≤ nb + 2 := by
            refine Nat.le_trans (Mth.dg_len_mono (by omega) (Nat.le_of_lt hr1n)) (Nat.le_trans (Mth.dg_len_mul (by omega) _ _) ?_)
            have h2 := Mth.dg_len_le (b := 10000) (by omega) 2 10000 (by omega)
            have := HNB.out
            omega
          have hstep : Mth.val 10000 (la.drop q) = Mth.val 10000 (D :: Q) * n + r1 % n := by
            rw [Mth.val_drop _ _ _ HQ2.out, HX.out, HV.out]
            simp only [Mth.val]
            have h3 := Nat.div_add_mod r1 n
            rw [hD] at h3
            rw [Nat.add_mul, Nat.mul_assoc, Nat.mul_comm D n]
            omega
          have HDM : Hid (∀ k, n * k ≤ r1 ↔ k ≤ D) := Lib.hid fun k => by rw [← hD, Nat.le_div_iff_mul_le HN0.out, Nat.mul_comm]
          have HLM : Hid (∀ k, k ≤ 9999 → (Mth.dg 10000 (n * k)).length ≤ nb + 1) := Lib.hid fun k hk => by
            refine Nat.le_trans (Mth.dg_len_mul (by omega) _ _) ?_
            have h2 := Mth.dg_len_le (b := 10000) (by omega) 1 k (by omega)
            have := HNB.out
            omega
          have HLK : Hid (∀ k, k ≤ 9999 → (Mth.dg 10000 k).length ≤ 1) := Lib.hid fun k hk => Mth.dg_len_le (b := 10000) (by omega) 1 k (by omega)
          have HSUB : Hid (r1 - n * D = r1 % n) := Lib.hid (by have := Nat.div_add_mod r1 n; rw [hD] at this; omega)
          have HD0 : Hid (D = 0 → r1 % n = r1) := Lib.hid (by intro h; have := Nat.div_add_mod r1 n; rw [hD, h] at this; omega)
          have HLR1 := Lib.hid hlr1
          have HST := Lib.hid hstep
          have HRM : Hid (r1 % n < n) := Lib.hid (Nat.mod_lt _ HN0.out)
          rw [hr1] at hP6
          have HB5 : Hid (Below w.heap.size w wc) := Lib.hid (HBR.out.trans (hC2.mono hBs))
          have HPR1 := Lib.hid hP6
          have HN5 : Hid (Pt wc (.slice A' nb c') n) := Lib.hid (HB.out.below HB5.out)
          have HOW5 : Hid (wc.ownsRow w.heap.size 3 1 u6 Q.length (n64s Q)) := Lib.hid (own_below HOWN.out hC2)
          have hw5 : w.heap.size ≤ wc.heap.size := HB5.out.size
          have HWOC : Hid (wr.heap.size ≤ wc.heap.size) := Lib.hid hC2.size
          clear hr1n hD hlr1 hstep hr1 hP6 hC2 g1 b1
          go_wp2
          obtain ⟨wo, rfl⟩ : ∃ wo : World, wo = wr := ⟨_, rfl⟩
          go_loopw [10, 11] (fun a10 a11 wi => ∃ lo hi : Nat, a10 = .int .i64 lo ∧ a11 = .int .i64 hi ∧ lo ≤ D ∧ D ≤ hi ∧ hi ≤ 9999 ∧ Below wc.heap.size wc wi) (fun a10 a11 _ => (intOf a11 - intOf a10).toNat)
          case atStart => exact ⟨0, 9999, rfl, rfl, by omega, hD9, by omega, Below.refl _ _⟩
          case round =>
            obtain ⟨lo, hi, rfl, rfl, hlo, hhi, hh9, hBi⟩ := hrel
            have HBI := Lib.hid hBi
            have hBis := hBi.size
            clear hBi
            by_cases hlt : lo < hi
            · obtain ⟨mid, hmid⟩ : ∃ mid, (lo + hi + 1) / 2 = mid := ⟨_, rfl⟩
              have hm1 : ((lo : Int) + (hi : Int) + 1) / 2 = (mid : Int) := by omega
              have hm2 : lo < mid := by omega
              have hm3 : mid ≤ hi := by omega
              have hlti : (lo : Int) < (hi : Int) := by omega
              have hwm : IntKind.u64.wrap (mid : Int) = (mid : Int) := by rw [IntKind.wrap_u64]; omega
              have HOFM := Lib.hid (fun W => rof_any mid W (by omega))
              clear hmid
              go_wp2_with fail
              refine (HOFM.out _).mono ?_
              rintro e w6 ⟨v6, rfl, hN6, hB6⟩
              have HBI6 : Hid (Below wc.heap.size wc w6) := Lib.hid (HBI.out.trans (hB6.mono hBis))
              have hmul := rmul_any n mid _ v6 w6 (HN5.out.below HBI6.out) hN6 (by rw [HNB.out]; omega) (by have := HLK.out mid (by omega); omega)
              have HMUL := Lib.hid hmul
              clear hmul hN6 hB6
              go_wp2_with fail
              refine HMUL.out.mono ?_
              rintro e w7 ⟨v7, rfl, hB7, hN7, -⟩
              have HBI7 : Hid (Below wc.heap.size wc w7) := Lib.hid (HBI6.out.trans (hB7.mono HBI6.out.size))
              have hcmp := rcmp_any (n * mid) r1 v7 u8 w7 hN7 (HPR1.out.below HBI7.out) (by have := HLM.out mid (by omega); omega) (by have := HLR1.out; omega)
              have HCMP := Lib.hid hcmp
              clear hcmp hN7 hB7
              go_wp2_with fail
              refine HCMP.out.mono ?_
              rintro e w8 ⟨z2, rfl, hz2, k2, rfl⟩
              have HBI8 : Hid (Below wc.heap.size wc (w7.drewN k2)) := Lib.hid (rbelow_drewN HBI7.out k2)
              have HZ2 := Lib.hid hz2
              clear hz2
              by_cases hz0 : z2 ≤ 0
              · have hmd : mid ≤ D := (HDM.out mid).1 (by have := HZ2.out; omega)
                go_wp2
                go_roundw
                case rel => exact ⟨mid, hi, rfl, rfl, hmd, hhi, hh9, HBI8.out⟩
                case measure => simp [intOf]; omega
              · have hmd : ¬ (mid ≤ D) := fun h => by have := (HDM.out mid).2 h; have := HZ2.out; omega
                go_wp2
                go_roundw
                case rel => exact ⟨lo, mid - 1, rfl, by go_num, hlo, by omega, by omega, HBI8.out⟩
                case measure => simp [intOf]; omega
            · obtain rfl : lo = D := by omega
              obtain rfl : hi = lo := by omega
              have HOWI : Hid (wr.ownsRow w.heap.size 3 1 u6 Q.length (n64s Q)) := Lib.hid (own_below HOW5.out HBI.out)
              have HBE : Hid (Below w.heap.size w wr) := Lib.hid (HB5.out.trans (HBI.out.mono hw5))
              have hwr : w.heap.size ≤ wr.heap.size := HBE.out.size
              by_cases hd0 : hi = 0
              · subst hd0
                have HINS := Lib.hid (ins_any w.heap.size wr.heap.size 0 Q u6 _ (HOWI.out.alloc (.cells #[.int .i64 ((0 : Nat) : Int)] 3)) (by simp; omega) (by omega) (heap_alloc_new wr _) (fun e => absurd (HOWI.out.lt _ e).2 (Nat.lt_irrefl _)))
                have HP : Hid (Pt wr u8 (r1 % n)) := Lib.hid (by rw [HD0.out rfl]; exact HPR1.out.below HBI.out)
                clear hlt hlo hhi hD9
                go_wp2_with fail
                refine HINS.out.mono ?_
                rintro e w9 ⟨v9, rfl, hB9, hown9, hgr9⟩
                have HOWN9 := Lib.hid hown9
                have HB9 : Hid (Below w.heap.size w w9) := Lib.hid ((HBE.out.alloc hwr _).trans hB9)
                have HP9 : Hid (Pt w9 u8 (r1 % n)) := Lib.hid (Sl.grown (HP.out.alloc _) hgr9 (fun k h1 h2 => absurd (HUL.out k h2) (by have := HOB6.out k h1; omega)))
                clear hown9 hB9 hgr9
                go_wp2
                go_roundg q
                case rel => exact ⟨(q : Int) - 1, r1 % n, 0 :: Q, rfl, rfl, by have := HKK.out; omega, HOWN9.out, HP9.out, HRM.out, mem_cons_lt HQ.out (by omega), by have := HQL.out; have := HKK.out; simp; omega, HST.out, HB9.out⟩
                case measure => omega
              · have hd1 : (0 : Int) < (hi : Int) := by omega
                have hwd : IntKind.u64.wrap (hi : Int) = (hi : Int) := by rw [IntKind.wrap_u64]; omega
                have HOFD := Lib.hid (fun W => rof_any hi W (by omega))
                clear hlt hlo hhi
                go_wp2_with fail
                refine (HOFD.out _).mono ?_
                rintro e w6 ⟨v6, rfl, hN6, hB6⟩
                have HBI6 : Hid (Below wc.heap.size wc w6) := Lib.hid (HBI.out.trans (hB6.mono hBis))
                have hmul := rmul_any n hi _ v6 w6 (HN5.out.below HBI6.out) hN6 (by rw [HNB.out]; omega) (by have := HLK.out hi hD9; omega)
                have HMUL := Lib.hid hmul
                clear hmul hN6 hB6
                go_wp2_with fail
                refine HMUL.out.mono ?_
                rintro e w7 ⟨v7, rfl, hB7, hN7, -⟩
                have HBI7 : Hid (Below wc.heap.size wc w7) := Lib.hid (HBI6.out.trans (hB7.mono HBI6.out.size))
                have hsub := rsub_any r1 (n * hi) u8 v7 w7 (HPR1.out.below HBI7.out) hN7 (by have := HLR1.out; omega) (by have := HLM.out hi hD9; omega) ((HDM.out hi).2 (Nat.le_refl _))
                rw [HSUB.out] at hsub
                have HSB := Lib.hid hsub
                clear hsub hN7 hB7
                go_wp2_with fail
                refine HSB.out.mono ?_
                rintro e w8 ⟨v8, rfl, hB8, hN8, hob8⟩
                have hw7 := HBI7.out.size
                have hw8 := hB8.size
                have HBI8 : Hid (Below wc.heap.size wc w8) := Lib.hid (HBI7.out.trans (hB8.mono hw7))
                have HB8 : Hid (Below w.heap.size w w8) := Lib.hid (HB5.out.trans (HBI8.out.mono hw5))
                have HOW8 : Hid (w8.ownsRow w.heap.size 3 1 u6 Q.length (n64s Q)) := Lib.hid (own_below HOW5.out HBI8.out)
                have HINS := Lib.hid (ins_any w.heap.size w8.heap.size hi Q u6 _ (HOW8.out.alloc (.cells #[.int .i64 (hi : Int)] 3)) (by simp; omega) (by omega) (heap_alloc_new w8 _) (fun e => absurd (HOW8.out.lt _ e).2 (Nat.lt_irrefl _)))
                have HN8 := Lib.hid hN8
                have HWC : Hid (wo.heap.size ≤ wc.heap.size) := Lib.hid HWOC.out
                have HOB8 := Lib.hid hob8
                clear hN8 hB8 hob8
                go_wp2_with fail
                refine HINS.out.mono ?_
                rintro e w9 ⟨v9, rfl, hB9, hown9, hgr9⟩
                have HOWN9 := Lib.hid hown9
                have HB9 : Hid (Below w.heap.size w w9) := Lib.hid ((HB8.out.alloc (by omega) _).trans hB9)
                have HP9 : Hid (Pt w9 v8 (r1 % n)) := Lib.hid (Sl.grown (HN8.out.alloc _) hgr9 (fun k h1 h2 => absurd (HUL.out k h2) (by have := HOB8.out k h1; have := HWC.out; omega)))
                clear hown9 hB9 hgr9
                go_wp2
                go_roundg q
                case rel => exact ⟨(q : Int) - 1, r1 % n, hi :: Q, rfl, rfl, by have := HKK.out; omega, HOWN9.out, HP9.out, HRM.out, mem_cons_lt HQ.out (by omega), by have := HQL.out; have := HKK.out; simp; omega, HST.out, HB9.out⟩
                case measure => omega

theorem rdiv_any (m n : Nat) (va vb : Value) (w : World) (ha : Pt w va m) (hb : Pt w vb n) (hs : (Mth.dg 10000 m).length ≤ 100000000) (ht : (Mth.dg 10000 n).length ≤ 100000000) (hn0 : 0 < n) :
    Calls Tryz.prog 110 #[va, vb] w (RDiv m n w) := by
  by_cases h : m < n
  · exact rdiv_small m n va vb w ha hb hs ht h
  · exact rdiv_big m n va vb w ha hb hs ht (by omega) hn0
end Go.Proofs.YtldjemlmjfpmjaaGreatDoor

namespace Go.Proofs.YtldjemlmjfpmjaaGreatDoor
open Go.RowKit

/-- a number, and nothing below the call's own has turned -/
def RNat (m : Nat) (w : World) (e : Ending) (w' : World) : Prop := ∃ v, e = .returned v ∧ Below w.heap.size w w' ∧ Pt w' v m

set_option maxHeartbeats 2000000 in
set_option maxRecDepth 100000 in
theorem rgcd_any (m n : Nat) (va vb : Value) (w : World) (ha : Pt w va m) (hb : Pt w vb n) (hs : (Mth.dg 10000 m).length ≤ 100000000) (ht : (Mth.dg 10000 n).length ≤ 100000000) :
    Calls Tryz.prog 71 #[va, vb] w (RNat (Nat.gcd m n) w) := by
  have HA := Lib.hid ha
  have HB := Lib.hid hb
  clear ha hb
  go_enter Tryz.func71, Tryz.ntmps71
  go_wp2
  go_loopg [0, 1] n (fun k a0 a1 wr => ∃ x : Nat, Pt wr a0 x ∧ Pt wr a1 k ∧ Nat.gcd x k = Nat.gcd m n ∧ (Mth.dg 10000 x).length ≤ 100000000 ∧ (Mth.dg 10000 k).length ≤ 100000000 ∧ Below w.heap.size w wr)
  case atStart => exact ⟨m, HA.out, HB.out, rfl, hs, ht, Below.refl _ _⟩
  case round =>
    obtain ⟨x, hx, hy, hg, hlx, hly, hB⟩ := hrel
    have HX := Lib.hid hx
    have HY := Lib.hid hy
    have HG := Lib.hid hg
    have hBs := hB.size
    obtain ⟨A, c, rfl, h1, h2, h3⟩ := hx
    obtain ⟨A', c', rfl, h1', h2', h3'⟩ := hy
    have HX2 : Hid (Pt wr (.slice A (Mth.dg 10000 x).length c) x) := Lib.hid (by have := HX.out; rwa [n64s_length] at this)
    have HY2 : Hid (Pt wr (.slice A' (Mth.dg 10000 gk).length c') gk) := Lib.hid (by have := HY.out; rwa [n64s_length] at this)
    rw [n64s_length, n64s_length]
    clear h3 h3' hg HX HY h1 h2 h1' h2'
    obtain ⟨ly, hly'⟩ : ∃ ly, (Mth.dg 10000 gk).length = ly := ⟨_, rfl⟩
    obtain ⟨lx, hlx'⟩ : ∃ lx, (Mth.dg 10000 x).length = lx := ⟨_, rfl⟩
    by_cases hk0 : gk = 0
    · have hl0 : ly = 0 := by rw [← hly', hk0, Mth.dg_zero]; rfl
      have HGX : Hid (Nat.gcd m n = x) := Lib.hid (by rw [← HG.out, hk0, Nat.gcd_zero_right])
      rw [hly', hl0]
      clear hly' hl0 hlx' hk0 HY2
      go_wp2
      go_ret
      exact ⟨_, rfl, hB, by rw [HGX.out]; exact HX2.out⟩
    · have hl1 : 0 < ly := by rw [← hly']; exact List.length_pos_iff.2 (Mth.dg_ne_nil (b := 10000) (n := gk) (by omega) (by omega))
      have hl2 : (0 : Int) < (ly : Int) := by omega
      have hdiv := rdiv_any x gk _ _ wr HX2.out HY2.out hlx hly (by omega)
      have HM1 := Lib.hid (Mth.dg_len_mono (b := 10000) (by omega) (Nat.le_of_lt (Nat.mod_lt x (by omega : 0 < gk))))
      have HSTEP : Hid (Nat.gcd gk (x % gk) = Nat.gcd m n) := Lib.hid (by rw [← HG.out, Nat.gcd_comm gk, ← Nat.gcd_rec, Nat.gcd_comm])
      have HLY := Lib.hid hly
      have HK0 := Lib.hid hk0
      rw [hly', hlx'] at hdiv
      have HY3 := HY2.out
      rw [hly'] at HY3
      rw [hly', hlx']
      have HY4 := Lib.hid HY3
      have HDIV := Lib.hid hdiv
      have HLYE := Lib.hid hly'
      clear hdiv HY3 hly' hlx' hk0 hly hlx HY2 HX2
      go_wp2_with fail
      refine HDIV.out.mono ?_
      rintro e w2 ⟨q, r, rfl, hB2, hq, hr⟩
      have HR := Lib.hid hr
      have HY5 := Lib.hid (HY4.out.below hB2)
      have HB2 := Lib.hid (hB.trans (hB2.mono hBs))
      obtain ⟨A2, k2, c2, rfl⟩ := hq.shape
      obtain ⟨A3, k3, c3, rfl⟩ := hr.shape
      clear hq hr hB2
      go_wp2
      go_roundg (x % gk)
      case rel => exact ⟨gk, HY5.out, HR.out, HSTEP.out, HLY.out, by have := HM1.out; have := HLY.out; omega, HB2.out⟩
      case measure => exact Nat.mod_lt x (by have := HK0.out; omega)
end Go.Proofs.YtldjemlmjfpmjaaGreatDoor
