/-
  The law NumCodes: the walk.
-/
import Derived.Test.YtmbccjncgikehaaGreatDoorNums
import Derived.Test.YtmbccjncgikehaaGreatDoorStream
import Derived.Test.YtmbccjncgikehaaGreatDoorBytes
import Derived.Deep.AppendLies
import Derived.Deep.RegionHeld3
import Derived.Deep.RegionLaw
namespace Go.Proofs.YtmbccjncgikehaaGreatDoor
open Go.RowKit

/-- two lists of one length that agree outside i0 .. i0 + 3 -/
def Close (l m : List Nat) (i0 i : Nat) : Prop := m.length = l.length ∧ ∀ j, (j < i0 ∨ i ≤ j) → m[j]? = l[j]?
theorem Close.refl (l : List Nat) (i0 : Nat) : Close l l i0 i0 := ⟨rfl, fun _ _ => rfl⟩
theorem Close.set {l m : List Nat} {i0 i : Nat} (h : Close l m i0 i) (hi : i0 ≤ i) (x : Nat) : Close l (m.set i x) i0 (i + 1) := by
  refine ⟨by rw [List.length_set, h.1], fun j hj => ?_⟩
  rw [List.getElem?_set_ne (by omega)]
  exact h.2 j (by omega)
theorem Close.code_ne {l m : List Nat} {i0 i : Nat} (h : Close l m i0 i) (h1 : i0 ≤ i) (h2 : i ≤ i0 + 4) (hl : ∀ x ∈ l, x < 2 ^ 8) (hm : ∀ x ∈ m, x < 2 ^ 8) (hne : l ≠ m) : code m ≠ code l := by
  have hlen := h.1
  have split : ∀ k : List Nat, k = k.take i0 ++ (k.drop i0).take (i - i0) ++ k.drop i := fun k => by
    rw [List.append_assoc, show k.drop i = (k.drop i0).drop (i - i0) by rw [List.drop_drop]; congr 1; omega, List.take_append_drop, List.take_append_drop]
  have ea : m.take i0 = l.take i0 := by
    apply List.ext_getElem?
    intro j
    rw [List.getElem?_take, List.getElem?_take]
    split
    · rw [h.2 j (by omega)]
    · rfl
  have ez : m.drop i = l.drop i := by
    apply List.ext_getElem?
    intro j
    rw [List.getElem?_drop, List.getElem?_drop, h.2 _ (by omega)]
  intro hc
  have hc2 : crc m = crc l := by
    unfold code at hc
    have h3 : (4294967295 ^^^ crc m : Nat) = 4294967295 ^^^ crc l := by omega
    have h4 := congrArg (4294967295 ^^^ ·) h3
    simpa [← Nat.xor_assoc] using h4
  unfold crc at hc2
  rw [split m, split l, ea, ez] at hc2
  refine Mth.cc_burst (p := POLY) (by decide) (by decide) 4294967295 (l.take i0) ((m.drop i0).take (i - i0)) ((l.drop i0).take (i - i0)) (l.drop i) ?_ ?_ ?_ ?_ ?_ hc2
  · simp [hlen]
  · rw [List.length_take]; omega
  · exact fun e he => hm e (List.mem_of_mem_drop (List.mem_of_mem_take he))
  · exact fun e he => hl e (List.mem_of_mem_drop (List.mem_of_mem_take he))
  · intro e
    apply hne
    rw [split l, split m, ea, ez, e]
theorem code_nil : code [] = 0 := by decide

/-- the cells of block g from its head on are the bytes l -/
def Rb (w : World) (g : Nat) (l : List Nat) : Prop := ∀ j, j < l.length → w.cell? ⟨g, j, none⟩ = some (.int .u8 ((l[j]?.getD 0 : Nat) : Int))
theorem Rb.adv {w w' : World} {g g' : Nat} {l : List Nat} (h : Rb w g l) (ha : Adv w w' g') (hg : g ≠ g') : Rb w' g l := fun j hj => ((ha.2.2 ⟨g, j, none⟩ hg).1).trans (h j hj)
theorem Rb.drewN {w : World} {g : Nat} {l : List Nat} (h : Rb w g l) (q : Nat) : Rb (w.drewN q) g l := h
theorem Rb.drew {w : World} {g : Nat} {l : List Nat} (h : Rb w g l) : Rb w.drew g l := h
theorem Rb.far {w : World} {g : Nat} {l : List Nat} (h : Rb w g l) {p : Addr} (hp : p.block ≠ g) (u : Value) : Rb (w.setCell p u) g l := fun j hj => by
  rw [World.cell?_setCell_other _ _ _ _ (by intro e; apply hp; rw [e])]
  exact h j hj
theorem Rb.set {w : World} {g : Nat} {l : List Nat} (h : Rb w g l) {i : Nat} (hi : i < l.length) (x : Nat) : Rb (w.setCell ⟨g, i, none⟩ (.int .u8 (x : Int))) g (l.set i x) := by
  intro j hj
  rw [List.length_set] at hj
  by_cases e : i = j
  · subst e
    rw [World.cell?_setCell_same _ _ _ (h i hi)]
    simp [hj]
  · rw [World.cell?_setCell_other _ _ _ _ (by intro h; apply e; injection h with _ h), h j hj]
    simp [e]
theorem Rb.below {w w' : World} {B g : Nat} {l : List Nat} (h : Rb w g l) (hb : Below B w w') (hg : g < B) : Rb w' g l := fun j hj => (hb.cell (p := ⟨g, j, none⟩) hg).trans (h j hj)
theorem Rb.bi {w : World} {g c : Nat} {l : List Nat} (h : Rb w g l) (h1 : l.length ≤ c) (h2 : c ≤ maxLen) (hb : ∀ x ∈ l, x < 2 ^ 8) : BI w (.slice (some ⟨g, 0, none⟩) l.length c) l := by
  refine ⟨⟨some ⟨g, 0, none⟩, c, by rw [u8s_length], by rw [u8s_length]; exact h1, h2, fun _ => ⟨g, 0, rfl, fun j u hu => ?_⟩⟩, Nat.le_trans h1 h2, hb⟩
  have hj : j < l.length := by
    have := (List.getElem?_eq_some_iff.1 hu).1
    rwa [u8s_length] at this
  rw [u8s_at hj] at hu
  injection hu with hu
  subst hu
  rw [Nat.zero_add]
  exact h j hj
theorem own_bi {w : World} {B n : Nat} {v : Value} {l : List Nat} (h : w.ownsRow B 5 1 v n (u8s l)) (hl : l.length ≤ maxLen) (hb : ∀ x ∈ l, x < 2 ^ 8) : BI w v l := ⟨Sl.of_own h, hl, hb⟩
theorem own_adv {w w' : World} {B n g : Nat} {v : Value} {xs : List Value} (h : w.ownsRow B 5 1 v n xs) (ha : Adv w w' g) (hg : g < B) : w'.ownsRow B 5 1 v n xs := by
  refine h.kept (row := some g) ha.1 ?_
  cases ho : v.ownBlock with
  | none => exact Or.inl rfl
  | some k =>
    right
    intro e
    injection e with e
    subst e
    have := (h.lt _ ho).1
    omega

set_option maxHeartbeats 1000000 in
set_option maxRecDepth 100000 in
theorem codes_law (v : Value) (ws : List Int) (w : World) (hv : LI w v ws) (htab : Tabs w) :
    Calls Tryz.prog 7 #[v] w fun e w' => e = .returned (.bool true) ∧ Below w.heap.size w w' := by
  obtain ⟨A, c, rfl⟩ := hv.form
  obtain ⟨i0, hi, hz0, hz1, hz2⟩ := info_parts info_u8
  have HN := Lib.hid (fun W (h : Tabs W) => nums_any W h)
  have HT := Lib.hid htab
  have HNX := Lib.hid next_any
  have HRG := Lib.hid range_any
  have HCD := Lib.hid code_any
  have HCR := Lib.hid coded_any
  have hst : Strm (w.alloc (.cells #[.slice A ws.length c, .int .i64 0] 44)) w.heap.size A c ws 0 := by
    have hcell : ∀ j u, #[Value.slice A ws.length c, .int .i64 0][j]? = some u → (w.alloc (.cells #[.slice A ws.length c, .int .i64 0] 44)).cell? ⟨w.heap.size, j, none⟩ = some u := by
      intro j u hu
      rw [cell_of_row _ _ _ _ _ (0, 0) (heap_alloc_new w _)]
      exact hu
    refine ⟨hcell 0 _ rfl, hcell 1 _ rfl, by unfold World.frozen?; simp only [heap_alloc_new]; rfl, hv.2.1, hv.2.2, fun h0 => ?_⟩
    obtain ⟨b, o, e, hc⟩ := hv.at_ h0
    exact ⟨b, o, e, World.block_lt_of_cell? w _ (hc 0 h0), fun j hj => (World.cell?_alloc_lt w _ _ (World.block_lt_of_cell? w _ (hc j hj))).trans (hc j hj)⟩
  have HST := Lib.hid hst
  obtain ⟨n, hn⟩ : ∃ n, ws.length = n := ⟨_, rfl⟩
  rw [hn] at HST ⊢
  have HL := Lib.hid hn
  clear htab hv hst hn
  go_enter Tryz.func7, Tryz.ntmps7
  go_wp2_with fail
  refine (HNX.out _ _ _ _ _ _ 40 HST.out (by omega) (by omega) (by omega) (by omega)).mono ?_
  rintro e w1 ⟨z0, rfl, z1, z2, hs1, ha1⟩
  have HB1 : Hid (Below w.heap.size w w1) := Lib.hid (ha1.below (Nat.le_refl _) (by simp) ((Below.refl _ _).alloc (Nat.le_refl _) _))
  have hsz1 : w1.heap.size = w.heap.size + 1 := by rw [ha1.2.1]; simp
  have HS1 := Lib.hid hs1
  have HZ1 := Lib.hid hsz1
  clear hs1 ha1 hsz1
  go_wp2
  go_loopw [4, 14] (fun a4 a14 wr => ∃ (k : Nat) (L : List Nat) (a : Int), a14 = .int .i64 k ∧ (k : Int) ≤ z0 ∧ L.length = k ∧ (∀ x ∈ L, x < 2 ^ 8) ∧ wr.ownsRow (w.heap.size + 1) 5 1 a4 k (u8s L) ∧ Strm wr w.heap.size A c ws a ∧ 0 ≤ a ∧ a ≤ k + 1 ∧ Below w.heap.size w wr ∧ w.heap.size + 1 ≤ wr.heap.size) (fun _ a14 _ => 64 - (intOf a14).toNat)
  case atStart => exact ⟨0, [], _, rfl, z1, rfl, fun x hx => (by cases hx), World.ownsRow_nil _ _ _ _, HS1.out, by omega, by omega, HB1.out, by rw [HZ1.out]; exact Nat.le_refl _⟩
  case round =>
    obtain ⟨k, L, a, rfl, hk, hLk, hLb, hown, hs, hap, hak, hB, hsz⟩ := hrel
    have HLK := Lib.hid hLk
    have HLB := Lib.hid hLb
    have HO := Lib.hid hown
    have HS := Lib.hid hs
    have HBW := Lib.hid hB
    have HSZ := Lib.hid hsz
    clear hLk hLb hown hs hB hsz
    by_cases hlt : (k : Int) < z0
    · have hk39 : k < 39 := by omega
      go_wp2_with fail
      refine (HNX.out _ _ _ _ _ _ 256 HS.out (by omega) (by omega) (by omega) (by omega)).mono ?_
      rintro e w2 ⟨z, rfl, y1, y2, hs2, ha2⟩
      obtain ⟨Z, rfl⟩ : ∃ Z : Nat, z = (Z : Int) := ⟨z.toNat, by omega⟩
      have hw8 : IntKind.u8.wrap (Z : Int) = (Z : Int) := by simp [IntKind.wrap, IntKind.signed, IntKind.bits]; omega
      have HO2 := Lib.hid (own_adv HO.out ha2 (by omega))
      have HS2 := Lib.hid hs2
      have hsz2 := ha2.2.1
      have HSZ2 : Hid (w2.heap.size = wr.heap.size) := Lib.hid hsz2
      have HB2 : Hid (Below w.heap.size w w2) := Lib.hid (ha2.below (Nat.le_refl _) (by have := HSZ.out; omega) HBW.out)
      have hmx : k + 1 ≤ maxLen := by unfold maxLen; omega
      have hZ : Z < 2 ^ 8 := by omega
      have hsx : w.heap.size + 1 ≤ w2.heap.size := by have := HSZ.out; omega
      have HZZ := Lib.hid hZ
      have HW8 := Lib.hid hw8
      clear hs2 ha2 hsz2 hZ hw8
      go_wp2_with (at_builtin; refine wpList_append_own _ rfl _ _ 45 rfl (w.heap.size + 1) 5 i0 (.int .u8 0) 1 1 Tryz.underlying45 hi hz0 hz1 hz2 rfl (by decide) _ _ _ rfl (HO2.out.alloc _) ⟨w2.heap.size, 0, none⟩ 1 1 [.int .u8 (Z : Int)] rfl rfl (cell_one_new _ _ _) (by simp [Value.oneCell']) hmx (by omega) (by simp; omega) ?_; intro v' w3 hown' hgrow _)
      go_roundw
      case rel =>
        have hg := (HB2.out.alloc (by omega) (.cells #[.int .u8 (Z : Int)] 5)).grown hgrow (by simp; omega) (fun q hq => by have := (HO2.out.lt q hq).1; omega)
        have hs3 := (HS2.out.below ((Below.refl (w.heap.size + 1) w2).alloc hsx (.cells #[.int .u8 (Z : Int)] 5)) (Nat.lt_succ_self _)).below (((Below.refl (w.heap.size + 1) _)).grown hgrow (by simp; omega) (fun q hq => (HO2.out.lt q hq).1)) (Nat.lt_succ_self _)
        refine ⟨k + 1, L ++ [Z], a + 1, by go_num, by push_cast; omega, by simp [HLK.out], ?_, ?_, hs3, by omega, by push_cast; omega, hg, ?_⟩
        · intro x hx
          rcases List.mem_append.1 hx with h | h
          · exact HLB.out x h
          · simp at h; subst h; exact HZZ.out
        · rw [u8s_append]; exact hown'
        · have := hgrow.size; simp at this; omega
      case measure => simp [intOf]; omega
    · obtain rfl : z0 = (k : Int) := by omega
      have hk39 : k ≤ 39 := by omega
      have hbi := own_bi HO.out (by rw [HLK.out]; unfold maxLen; omega) HLB.out
      have HBI := Lib.hid hbi
      obtain ⟨N, hN⟩ : ∃ N, code L = N := ⟨_, rfl⟩
      have HCN : Hid (∀ v W, BI W v L → Calls Tryz.prog 34 #[v] W fun e w' => e = .returned (.int .i64 N) ∧ w' = W) := Lib.hid (fun v W h => by have := HCD.out L v W h; rw [hN] at this; exact this)
      have HRN : Hid (∀ v W, BI W v L → Calls Tryz.prog 35 #[v] W fun e w' => e = .returned (.int .i64 N) ∧ w' = W) := Lib.hid (fun v W h => by have := HCR.out L v W h; rw [hN] at this; exact this)
      have HNN := Lib.hid hN
      clear hN
      by_cases hk0 : k = 0
      · have hLnil : L = [] := List.eq_nil_of_length_eq_zero (by rw [HLK.out]; exact hk0)
        have hN0 : N = 0 := by rw [← HNN.out, hLnil]; exact code_nil
        subst hLnil hN0 hk0
        have hform := hbi.form
        simp only [List.length_nil] at hform
        obtain ⟨A', c', rfl⟩ := hform
        clear hbi
        go_wp2_with fail
        refine (HCN.out _ _ HBI.out).mono ?_
        rintro e w4 ⟨rfl, rfl⟩
        go_wp2_with fail
        refine (HN.out _ (HT.out.low HBW.out)).mono ?_
        rintro e w5 ⟨rfl, hB5⟩
        have HB5 := Lib.hid hB5
        clear hB5
        go_wp2_with fail
        refine (HRN.out _ _ (HBI.out.below HB5.out)).mono ?_
        rintro e w6 ⟨rfl, rfl⟩
        go_wp2
        go_ret
        exact ⟨rfl, HBW.out.trans (HB5.out.mono HBW.out.size)⟩
      · obtain ⟨bv, cap1, rfl, hbv, hbv2⟩ := HO.out.form (by omega)
        have hc1 : k ≤ cap1 ∧ cap1 ≤ maxLen := by
          rcases HO.out.2 with ⟨e, -⟩ | ⟨g, cap, cur, e, -, -, e1, e2, -⟩
          · cases e
          · injection e with e3 e4 e5
            subst e5
            exact ⟨e1, e2⟩
        have hrb : Rb wr bv L := fun j hj => by
          have h := HO.out.cells (g := bv) rfl j _ (u8s_at hj)
          rwa [Addr.add_lit, Nat.zero_add] at h
        have HRB := Lib.hid hrb
        have HC1 := Lib.hid hc1
        have hne0 : ((k : Int) == 0) = false := by simp; omega
        clear hbi hrb hc1
        go_wp2_with fail
        refine (HCN.out _ _ HBI.out).mono ?_
        rintro e w4 ⟨rfl, rfl⟩
        go_wp2_with fail
        refine (HN.out _ (HT.out.low HBW.out)).mono ?_
        rintro e w5 ⟨rfl, hB5⟩
        have HB5 := Lib.hid hB5
        clear hB5
        go_wp2_with fail
        refine (HRN.out _ _ (HBI.out.below HB5.out)).mono ?_
        rintro e w6 ⟨rfl, rfl⟩
        go_wp2_with fail
        refine (clone8_any L _ _ (HBI.out.below HB5.out) (by rw [HLK.out]; omega) (by rw [HLK.out]; omega)).mono ?_
        rintro e w7 ⟨v7, rfl, hB7, hown7⟩
        rw [HLK.out] at hown7
        obtain ⟨gc, cap2, rfl, hgc, hgc2⟩ := hown7.form (by omega)
        have hc2 : k ≤ cap2 ∧ cap2 ≤ maxLen := by
          rcases hown7.2 with ⟨e, -⟩ | ⟨g, cap, cur, e, -, -, e1, e2, -⟩
          · cases e
          · injection e with e3 e4 e5
            subst e5
            exact ⟨e1, e2⟩
        have hrc : Rb w7 gc L := fun j hj => by
          have h := hown7.cells (g := gc) rfl j _ (u8s_at hj)
          rwa [Addr.add_lit, Nat.zero_add] at h
        have hfc : ∀ j, w7.frozen? ⟨gc, j, none⟩ = false := fun j => hown7.frozenAt j
        have hb5s := HB5.out.size
        have hS7 := (HS.out.below HB5.out (by have := HSZ.out; omega)).below hB7 (by have := HSZ.out; omega)
        have hbv7 := (HRB.out.below HB5.out hbv2).below hB7 (by omega)
        have hbw7 := (HBW.out.trans (HB5.out.mono (by have := HSZ.out; omega))).trans (hB7.mono (by have := HSZ.out; omega))
        have hw7s := hB7.size
        have HRC := Lib.hid hrc
        have HFC := Lib.hid hfc
        have HC2 := Lib.hid hc2
        have HS7 := Lib.hid hS7
        have HBV7 := Lib.hid hbv7
        have HBW7 := Lib.hid hbw7
        have hgc3 : w.heap.size + 1 ≤ gc := by have := HSZ.out; omega
        have hwz : w.heap.size < w7.heap.size := by omega
        have hgb : gc ≠ bv := by omega
        clear hB7 hown7 hrc hfc hc2 hS7 hbv7 hbw7
        go_wp2_with fail
        refine (HNX.out _ _ _ _ _ _ (k : Int) HS7.out (by omega) (by omega) (by omega) (by omega)).mono ?_
        rintro e w8 ⟨z8, rfl, y1, y2, hs8, ha8⟩
        obtain ⟨I0, rfl⟩ : ∃ I0 : Nat, z8 = (I0 : Int) := ⟨z8.toNat, by omega⟩
        have HS8 := Lib.hid hs8
        have HA8 := Lib.hid ha8
        clear hs8 ha8
        go_wp2_with fail
        refine (HRG.out _ _ _ _ _ _ 1 4 HS8.out (by omega) (by omega) (by omega) (by omega) (by omega)).mono ?_
        rintro e w9 ⟨K0, rfl, x1, x2, hs9, ha9⟩
        have HS9 := Lib.hid hs9
        have HA9 := Lib.hid ha9
        clear hs9 ha9
        go_wp2
        have hAB9 : Rb w9 bv L := (HBV7.out.adv HA8.out (by omega)).adv HA9.out (by omega)
        have hAC9 : Rb w9 gc L := (HRC.out.adv HA8.out (by omega)).adv HA9.out (by omega)
        have hF9 : ∀ j, w9.frozen? ⟨gc, j, none⟩ = false := fun j => by
          rw [(HA9.out.2.2 ⟨gc, j, none⟩ (by show gc ≠ _; omega)).2, (HA8.out.2.2 ⟨gc, j, none⟩ (by show gc ≠ _; omega)).2]
          exact HFC.out j
        have hB9 : Below w.heap.size w w9 := HA9.out.below (Nat.le_refl _) (by rw [HA8.out.2.1]; exact hwz) (HA8.out.below (Nat.le_refl _) hwz HBW7.out)
        have hsz9 : gc < w9.heap.size := by rw [HA9.out.2.1, HA8.out.2.1]; exact hgc2
        have HAB := Lib.hid hAB9
        have HAC := Lib.hid hAC9
        have HF := Lib.hid hF9
        have HB9 := Lib.hid hB9
        have hI0 : I0 < k := by omega
        clear hAB9 hAC9 hF9 hB9
        go_loopw [7, 8] (fun a7 a8 wt => ∃ (I : Nat) (K : Int) (M : List Nat) (a : Int), a7 = .int .i64 I ∧ a8 = .int .i64 K ∧ I0 ≤ I ∧ (I : Int) + K ≤ I0 + K0 ∧ 0 ≤ K ∧ I ≤ k ∧ Close L M I0 I ∧ (∀ x ∈ M, x < 2 ^ 8) ∧ Rb wt gc M ∧ Rb wt bv L ∧ (∀ j, wt.frozen? ⟨gc, j, none⟩ = false) ∧ Strm wt w.heap.size A c ws a ∧ 0 ≤ a ∧ a + K ≤ 60 ∧ Below w.heap.size w wt ∧ gc < wt.heap.size) (fun _ a8 _ => (intOf a8).toNat)
        case atStart => exact ⟨I0, K0, L, _, rfl, rfl, Nat.le_refl _, Int.le_refl _, by omega, by omega, Close.refl _ _, HLB.out, HAC.out, HAB.out, HF.out, HS9.out, by omega, by omega, HB9.out, hsz9⟩
        case round =>
          obtain ⟨I, K, M, a', rfl, rfl, hII, hIK, hK0, hIk, hcl, hMb, hrM, hrL, hfr, hst, ha0, haK, hBt, hst2⟩ := hrel
          have HCL := Lib.hid hcl
          have HMB := Lib.hid hMb
          have HRM := Lib.hid hrM
          have HRL := Lib.hid hrL
          have HFR := Lib.hid hfr
          have HST2 := Lib.hid hst
          have HBT := Lib.hid hBt
          have hML : M.length = k := by rw [HCL.out.1]; exact HLK.out
          have HML := Lib.hid hML
          clear hcl hMb hrM hrL hfr hst hBt hML
          by_cases hgo : 0 < K ∧ I < k
          · obtain ⟨g1, g2⟩ := hgo
            have g2' : (I : Int) < (k : Int) := by omega
            have hcI := HRM.out I (by rw [HML.out]; exact g2)
            have hfI := HFR.out I
            obtain ⟨x, hx⟩ : ∃ x, M[I]?.getD 0 = x := ⟨_, rfl⟩
            have hx8 : x < 256 := by
              have hIl : I < M.length := by rw [HML.out]; exact g2
              have h := HMB.out _ (List.getElem_mem hIl)
              rw [← hx, List.getElem?_eq_getElem hIl]
              exact h
            rw [hx] at hcI
            clear hx
            go_wp2_with fail
            go_region_with
              ((first
                | (go_at_call 33
                   refine (HNX.out _ _ _ _ _ _ 256 (by first | exact HST2.out | exact HST2.out.drew) (by omega) (by omega) (by omega) (by omega)).mono ?_
                   rintro e w10 ⟨z, rfl, zz1, zz2, hs10, ha9⟩
                   have hq1 := (ha9.2.2 ⟨gc, I, none⟩ (by show gc ≠ _; omega)).1.trans hcI
                   have hq2 := (ha9.2.2 ⟨gc, I, none⟩ (by show gc ≠ _; omega)).2.trans hfI)))
            all_goals
              obtain ⟨Z, rfl⟩ : ∃ Z : Nat, z = (Z : Int) := ⟨z.toNat, by omega⟩
              have hw8 : IntKind.u8.wrap (Z : Int) = (Z : Int) := by simp [IntKind.wrap, IntKind.signed, IntKind.bits]; omega
              have hxz := u8_xor_nat x Z hx8 (by omega)
              have hX8 : x ^^^ Z < 2 ^ 8 := Nat.xor_lt_two_pow (n := 8) hx8 (by omega)
              obtain ⟨X, hX⟩ : ∃ X, x ^^^ Z = X := ⟨_, rfl⟩
              rw [hX] at hxz hX8
              rw [hw8, hxz]
              have hwr : w10.heap.size = wr.heap.size := ha9.2.1
              have hIM : I < M.length := by rw [HML.out]; exact g2
              have R1 : Hid (Rb (w10.setCell ⟨gc, I, none⟩ (.int .u8 (X : Int))) gc (M.set I X)) := Lib.hid ((by first | exact HRM.out.adv ha9 (by omega) | exact HRM.out.drew.adv ha9 (by omega) : Rb w10 gc M).set hIM X)
              have R2 : Hid (Rb (w10.setCell ⟨gc, I, none⟩ (.int .u8 (X : Int))) bv L) := Lib.hid ((by first | exact HRL.out.adv ha9 (by omega) | exact HRL.out.drew.adv ha9 (by omega) : Rb w10 bv L).far (p := ⟨gc, I, none⟩) (by show gc ≠ bv; omega) _)
              have R3 : Hid (∀ j, (w10.setCell ⟨gc, I, none⟩ (.int .u8 (X : Int))).frozen? ⟨gc, j, none⟩ = false) := Lib.hid (fun j => by rw [World.frozen?_setCell, (ha9.2.2 ⟨gc, j, none⟩ (by show gc ≠ _; omega)).2]; exact HFR.out j)
              have R4 : Hid (Strm (w10.setCell ⟨gc, I, none⟩ (.int .u8 (X : Int))) w.heap.size A c ws (a' + 1)) := Lib.hid (hs10.below ((Below.refl (w.heap.size + 1) w10).setCell (p := ⟨gc, I, none⟩) hgc3 _) (Nat.lt_succ_self _))
              have R5 : Hid (Below w.heap.size w (w10.setCell ⟨gc, I, none⟩ (.int .u8 (X : Int)))) := Lib.hid ((ha9.below (Nat.le_refl _) (by first | omega | (show _ < wr.heap.size; omega)) (by first | exact HBT.out | exact HBT.out.drew)).setCell (p := ⟨gc, I, none⟩) (by show _ ≤ gc; omega) _)
              have R6 : Hid (gc < (w10.setCell ⟨gc, I, none⟩ (.int .u8 (X : Int))).heap.size) := Lib.hid (by simp [World.setCell]; omega)
              have R7 : Hid (∀ y ∈ M.set I X, y < 2 ^ 8) := Lib.hid (fun y hy => by
                rcases List.mem_or_eq_of_mem_set hy with h | h
                · exact HMB.out y h
                · subst h; exact hX8)
              clear hs10 ha9 hxz hX8 hX hw8 hwr hIM hq1 hq2 hcI hfI
              go_wp2
              go_roundw
              case rel => exact ⟨I + 1, K - 1, M.set I X, a' + 1, by go_num, rfl, by omega, by push_cast; omega, by omega, by omega, HCL.out.set hII X, R7.out, R1.out, R2.out, R3.out, R4.out, by omega, by omega, R5.out, R6.out⟩
              case measure => simp [intOf]; omega
          · have hbL : BI wr (.slice (some ⟨bv, 0, none⟩) k cap1) L := by
              have := HRL.out.bi (by rw [HLK.out]; exact HC1.out.1) HC1.out.2 HLB.out
              rwa [HLK.out] at this
            have hbM : BI wr (.slice (some ⟨gc, 0, none⟩) k cap2) M := by
              have := HRM.out.bi (by rw [HML.out]; exact HC2.out.1) HC2.out.2 HMB.out
              rwa [HML.out] at this
            have HEQ := Lib.hid (equal8_any L M _ _ wr hbL hbM (by rw [HLK.out, HML.out]) (by rw [HLK.out]; omega))
            have HBM := Lib.hid hbM
            have hII4 : I ≤ I0 + 4 := by omega
            clear hbL hbM
            rcases (show K = 0 ∨ (0 < K ∧ I = k) by omega) with rfl | ⟨g1, rfl⟩
            all_goals
              clear hgo
              by_cases hLM : L = M
              · have HE2 := HEQ.out
                rw [decide_eq_true hLM] at HE2
                have HE := Lib.hid HE2
                clear HE2 hLM HEQ
                go_wp2_with fail
                refine HE.out.mono ?_
                rintro e w11 ⟨rfl, q, rfl⟩
                go_wp2
                go_ret
                exact ⟨rfl, below_drewN HBT.out q⟩
              · have HE2 := HEQ.out
                rw [decide_eq_false hLM] at HE2
                have HE := Lib.hid HE2
                have hcne := HCL.out.code_ne hII hII4 HLB.out HMB.out hLM
                rw [HNN.out] at hcne
                obtain ⟨N2, hN2⟩ : ∃ N2, code M = N2 := ⟨_, rfl⟩
                rw [hN2] at hcne
                have hnb : (N2 != N) = true := by simpa using hcne
                have HCM : Hid (∀ q, Calls Tryz.prog 34 #[.slice (some ⟨gc, 0, none⟩) _ cap2] (wr.drewN q) fun e w' => e = .returned (.int .i64 N2) ∧ w' = wr.drewN q) := Lib.hid (fun q => by
                  have := HCD.out M _ (wr.drewN q) (show BI (wr.drewN q) _ M from HBM.out)
                  rw [hN2] at this
                  exact this)
                clear HE2 hLM HEQ hcne hN2
                go_wp2_with fail
                refine HE.out.mono ?_
                rintro e w11 ⟨rfl, q, rfl⟩
                go_wp2_with fail
                refine (HCM.out q).mono ?_
                rintro e w12 ⟨rfl, rfl⟩
                go_wp2
                go_ret
                exact ⟨rfl, below_drewN HBT.out q⟩
end Go.Proofs.YtmbccjncgikehaaGreatDoor
