/-
  Owned rows beside blocks; the packer; the bytes of a model.
  Equal and SameModel; models with the same bytes are equal.
-/
import Derived.Test.YtkcdgaijklhnaaaGreatDoorK05
import Derived.Deep.RegionHeld3
import Derived.Deep.QuietTactic
import Derived.RegionTactic
namespace Go.Proofs.YtkcdgaijklhnaaaGreatDoor
open Go.RowKit
theorem Ow.ne_bk {α : Type} {k : Nat} {E : Cl → List Value → α → Prop} {T T' : TypeId} {w : World} {C : Cl} {base O : Nat} {v : Value} {xs : List α} {cs : Array Value} (h : Ow k E T w C base v xs) (hb : Bk w O T' cs) (hT : T ≠ T') : v.ownBlock ≠ some O := by
  obtain ⟨ds, ho, -, -⟩ := h
  rcases ho.2 with ⟨rfl, -⟩ | ⟨g, cap, cur, rfl, -, hg, -⟩
  · intro e; cases e
  · intro e
    injection e with e
    subst e
    unfold Bk at hb
    rw [hg] at hb
    injection hb with hb
    injection hb with _ hb
    exact hT hb
theorem Ow.beside {α : Type} {k : Nat} {R : Cl → Nat → Nat → α → Prop} {E : Cl → List Value → α → Prop} (L : Cells k R E) {T : TypeId} {w : World} {C : Cl} {base : Nat} {v : Value} {xs : List α} (h : Ow k E T w C base v xs) {p : Addr} (hp : v.ownBlock ≠ some p.block) (u : Value) : Ow k E T (w.setCell p u) C base v xs :=
  Frm.ow (S := isB p.block) L ((Frm.refl _ w).set (fun _ => by simp [isB]) u) h (fun b hb => by rw [isB_false]; rintro rfl; exact hp hb) (Keeps.refl _)
theorem Ow.left_bk {α : Type} {k : Nat} {E : Cl → List Value → α → Prop} {T T' : TypeId} {w w' : World} {C : Cl} {base O : Nat} {v : Value} {xs : List α} {cs : Array Value} (h : Ow k E T w C base v xs) (hb : Bk w O T' cs) (hT : T ≠ T') (hg : w.grownBy w' v.ownBlock) : Bk w' O T' cs :=
  (hg.block _ hb.lt (fun e => Ow.ne_bk h hb hT e.symm)).trans hb
def RByte (C : Cl) (b o : Nat) (x : Int) : Prop := C ⟨b, o, none⟩ = some (.int .u8 x)
def EByte (_ : Cl) (cs : List Value) (x : Int) : Prop := cs = [.int .u8 x]
theorem cellsByte : Cells 1 RByte EByte where
  pos := by decide
  down := fun {C b o x} h => ⟨_, rfl, rfl, fun i u hu => by
    match i, hu with
    | 0, hu => simp at hu; subst hu; exact h
    | i + 1, hu => simp at hu⟩
  up := fun {C b o x cs} h hc => by subst h; exact hc 0 _ rfl
  keep := fun h _ => h
  one := fun h u hu => by subst h; simp at hu; rcases hu with rfl; rfl
  len := fun h => by subst h; rfl
theorem inf_byte : Inf Tryz.prog 5 1 1 := inf_of (z := .int .u8 0) (by kernel_rfl) rfl (by decide)
end Go.Proofs.YtkcdgaijklhnaaaGreatDoor
namespace Go.Proofs.YtkcdgaijklhnaaaGreatDoor
open Go.RowKit
structure Pk (w0 w : World) (pb : Nat) (l : List Int) : Prop where
  below : Below w0.heap.size w0 w
  hi : w0.heap.size ≤ pb
  ex : ∃ v, Bk w pb 77 #[v] ∧ Ow 1 EByte 5 w (fun _ => none) w0.heap.size v l
theorem Pk.step {w0 w w' : World} {pb : Nat} {l : List Int} (h : Pk w0 w pb l) (hb : Below w.heap.size w w') : Pk w0 w' pb l := by
  obtain ⟨v, h1, h2⟩ := h.ex
  exact ⟨behind h.below hb, h.hi, v, h1.low hb, Ow.below cellsByte h2 hb (Keeps.refl _)⟩
theorem Pk.put {w0 w w8 : World} {pb : Nat} {l l' : List Int} {v v' : Value} (hb : Below w0.heap.size w0 w) (hi : w0.heap.size ≤ pb) (h1 : Bk w pb 77 #[v]) (h2 : Ow 1 EByte 5 w (fun _ => none) w0.heap.size v l)
    (hO : Ow 1 EByte 5 w8 (fun _ => none) w0.heap.size v' l') (hB : Below w0.heap.size w w8) (hg : w.grownBy w8 v.ownBlock) : Pk w0 (w8.setCell ⟨pb, 0, none⟩ v') pb l' := by
  have h8 : Bk w8 pb 77 #[v] := Ow.left_bk h2 h1 (by decide) hg
  exact ⟨(hb.trans hB).setCell (p := ⟨pb, 0, none⟩) hi _, hi, v', h8.set 0 v', Ow.beside cellsByte hO (p := ⟨pb, 0, none⟩) (Ow.ne_bk hO h8 (by decide)) _⟩
def PkF (w w' : World) : Prop := ∀ b T cs, T ≠ 5 → T ≠ 77 → Bk w b T cs → Bk w' b T cs
theorem PkF.refl (w : World) : PkF w w := fun _ _ _ _ _ h => h
theorem PkF.trans {a b c : World} (h : PkF a b) (k : PkF b c) : PkF a c := fun x T cs h1 h2 h3 => k x T cs h1 h2 (h x T cs h1 h2 h3)
theorem PkF.put {w w8 : World} {ob : Obj} {base pb : Nat} {l : List Int} {v v' : Value} (h2 : Ow 1 EByte 5 (w.alloc ob) (fun _ => none) base v l) (h1 : Bk (w.alloc ob) pb 77 #[v])
    (hg : (w.alloc ob).grownBy w8 v.ownBlock) : PkF w (w8.setCell ⟨pb, 0, none⟩ v') := fun b T cs n1 n2 hb => by
  have k1 := Ow.left_bk h2 (hb.alloc ob) (Ne.symm n1) hg
  have k2 := Ow.left_bk h2 h1 (by decide) hg
  refine k1.far (p := ⟨pb, 0, none⟩) ?_ _
  rintro rfl
  unfold Bk at k1 k2
  rw [k1] at k2
  injection k2 with e
  injection e with _ e
  exact n2 e
def lowB (u : Int) : Int := u
def moreB (u : Int) : Int := bits BinOp.or IntKind.u8 (u % 256) 128
def unB (n : Int) : Int := if n < 0 then IntKind.u64.wrap (wrap64 (wrap64 (-2 * n) - 1)) else IntKind.u64.wrap (wrap64 (2 * n))
def packU : Nat → Int → List Int
  | 0, u => [lowB u]
  | f + 1, u => if 128 ≤ u then moreB u :: packU f (u / 128) else [lowB u]
set_option maxHeartbeats 2000000 in
set_option maxRecDepth 100000 in
theorem packN_any (n : Int) (w0 w : World) (pb : Nat) (l : List Int) (h : Pk w0 w pb l) (hl : l.length ≤ 900000) :
    Calls Tryz.prog 48 #[.pointer (some ⟨pb, 0, none⟩), .int .i64 n] w fun e w' => e = .returned (.tuple #[]) ∧ Pk w0 w' pb (l ++ packU 10 (unB n)) ∧ PkF w w' := by
  have HP := Lib.hid h
  clear h
  have hun : 0 ≤ unB n ∧ unB n < 18446744073709551616 := by
    unfold unB
    split <;> simp [IntKind.wrap, IntKind.signed, IntKind.bits] <;> omega
  have HU := Lib.hid hun
  clear hun
  by_cases hn : n < 0
  · go_enter Tryz.func48, Tryz.ntmps48
    go_wp2_with fail
    go_loopw [4] (fun a4 wr => ∃ (u : Int) (f : Nat) (out : List Int), a4 = .int .u64 u ∧ 0 ≤ u ∧ u < 128 ^ (f + 1) ∧ f ≤ 10 ∧ Pk w0 wr pb out ∧ out ++ packU f u = l ++ packU 10 (unB n) ∧ out.length + f ≤ 900010 ∧ PkF w wr) (fun a4 _ => (intOf a4).toNat)
    case atStart =>
      refine ⟨unB n, 10, l, ?_, HU.out.1, by have := HU.out.2; exact Int.lt_of_lt_of_le this (by decide), by omega, HP.out, rfl, by omega, PkF.refl _⟩
      first | (simp [unB, hn]; done) | simp [unB, show ¬ n < 0 by omega]
    case round =>
      obtain ⟨u, f, out, rfl, u0, u1, hf, hpk, heq, hlen, hfr⟩ := hrel
      have HFR := Lib.hid hfr
      clear hfr
      have HK := Lib.hid hpk
      have HEQ := Lib.hid heq
      obtain ⟨v, hb, hO⟩ := hpk.ex
      obtain ⟨A, m, c, rfl⟩ := hO.form
      have hc0 := hb.cell 0
      have hf0 := hb.frozen 0
      simp only [List.getElem?_toArray, List.getElem?_cons_zero] at hc0
      have HO := Lib.hid hO
      have HBK := Lib.hid hb
      clear hpk heq hO hb
      by_cases hu : 128 ≤ u
      · go_wp2_with (at_builtin; refine wpList_append_Ow cellsByte inf_byte _ rfl _ _ 31 rfl w0.heap.size Tryz.underlying31 (.slice A m c) out (fun _ => none) rfl (Ow.below cellsByte HO.out (laid (Below.refl _ _) _) (Keeps.refl _)) ⟨wr.heap.size, 0, none⟩ 1 1 [_] [_] rfl rfl (Enc.single cellsByte rfl) (one_news _ #[_] _) (by simp; omega) (Nat.le_trans HK.out.below.size (laid (Below.refl _ wr) _).size) ?_; intro v' w8 hown' hB8 hgr; obtain ⟨A8, m8, c8, rfl⟩ := hown'.form; have h8 := Ow.left_bk (Ow.below cellsByte HO.out (laid (Below.refl _ _) _) (Keeps.refl _)) (HBK.out.alloc _) (by decide) hgr; have hc8 := h8.cell 0; have hf8 := h8.frozen 0; simp only [List.getElem?_toArray, List.getElem?_cons_zero] at hc8; have HP8 := Lib.hid (Pk.put (laid HK.out.below _) HK.out.hi (HBK.out.alloc _) (Ow.below cellsByte HO.out (laid (Below.refl _ _) _) (Keeps.refl _)) hown' hB8 hgr); have HF8 := Lib.hid (HFR.out.trans (PkF.put (Ow.below cellsByte HO.out (laid (Below.refl _ _) _) (Keeps.refl _)) (HBK.out.alloc _) hgr : PkF _ (w8.setCell ⟨pb, 0, none⟩ (.slice A8 m8 c8)))); clear hown' hB8 hgr h8 hc0 hf0)
        go_roundw
        case rel =>
          obtain ⟨f', rfl⟩ : ∃ f', f = f' + 1 := by
            cases f with
            | zero => exfalso; simp at u1; omega
            | succ f' => exact ⟨f', rfl⟩
          have h7 : u / 128 < 128 ^ (f' + 1) := by
            rw [Int.pow_succ] at u1
            omega
          refine ⟨u / 128, f', _, ?_, by omega, h7, by omega, HP8.out, ?_, by simp; omega, HF8.out⟩
          · rfl
          · rw [← HEQ.out, packU, if_pos hu, List.append_assoc]
            rfl
        case measure => simp [intOf]; omega
      · go_wp2_with (at_builtin; refine wpList_append_Ow cellsByte inf_byte _ rfl _ _ 31 rfl w0.heap.size Tryz.underlying31 (.slice A m c) out (fun _ => none) rfl (Ow.below cellsByte HO.out (laid (Below.refl _ _) _) (Keeps.refl _)) ⟨wr.heap.size, 0, none⟩ 1 1 [_] [_] rfl rfl (Enc.single cellsByte rfl) (one_news _ #[_] _) (by simp; omega) (Nat.le_trans HK.out.below.size (laid (Below.refl _ wr) _).size) ?_; intro v' w8 hown' hB8 hgr; obtain ⟨A8, m8, c8, rfl⟩ := hown'.form; have h8 := Ow.left_bk (Ow.below cellsByte HO.out (laid (Below.refl _ _) _) (Keeps.refl _)) (HBK.out.alloc _) (by decide) hgr; have hc8 := h8.cell 0; have hf8 := h8.frozen 0; simp only [List.getElem?_toArray, List.getElem?_cons_zero] at hc8; have HP8 := Lib.hid (Pk.put (laid HK.out.below _) HK.out.hi (HBK.out.alloc _) (Ow.below cellsByte HO.out (laid (Below.refl _ _) _) (Keeps.refl _)) hown' hB8 hgr); have HF8 := Lib.hid (HFR.out.trans (PkF.put (Ow.below cellsByte HO.out (laid (Below.refl _ _) _) (Keeps.refl _)) (HBK.out.alloc _) hgr : PkF _ (w8.setCell ⟨pb, 0, none⟩ (.slice A8 m8 c8)))); clear hown' hB8 hgr h8 hc0 hf0)
        go_end0
        refine ⟨rfl, ?_, HF8.out⟩
        have he := HEQ.out
        have hp : packU f u = [u] := by
          cases f with
          | zero => rfl
          | succ f' => rw [packU, if_neg (by omega)]; rfl
        rw [hp] at he
        rw [← he]
        exact HP8.out
  · go_enter Tryz.func48, Tryz.ntmps48
    go_wp2_with fail
    go_loopw [4] (fun a4 wr => ∃ (u : Int) (f : Nat) (out : List Int), a4 = .int .u64 u ∧ 0 ≤ u ∧ u < 128 ^ (f + 1) ∧ f ≤ 10 ∧ Pk w0 wr pb out ∧ out ++ packU f u = l ++ packU 10 (unB n) ∧ out.length + f ≤ 900010 ∧ PkF w wr) (fun a4 _ => (intOf a4).toNat)
    case atStart =>
      refine ⟨unB n, 10, l, ?_, HU.out.1, by have := HU.out.2; exact Int.lt_of_lt_of_le this (by decide), by omega, HP.out, rfl, by omega, PkF.refl _⟩
      first | (simp [unB]; done) | simp [unB, show ¬ n < 0 by omega]
    case round =>
      obtain ⟨u, f, out, rfl, u0, u1, hf, hpk, heq, hlen, hfr⟩ := hrel
      have HFR := Lib.hid hfr
      clear hfr
      have HK := Lib.hid hpk
      have HEQ := Lib.hid heq
      obtain ⟨v, hb, hO⟩ := hpk.ex
      obtain ⟨A, m, c, rfl⟩ := hO.form
      have hc0 := hb.cell 0
      have hf0 := hb.frozen 0
      simp only [List.getElem?_toArray, List.getElem?_cons_zero] at hc0
      have HO := Lib.hid hO
      have HBK := Lib.hid hb
      clear hpk heq hO hb
      by_cases hu : 128 ≤ u
      · go_wp2_with (at_builtin; refine wpList_append_Ow cellsByte inf_byte _ rfl _ _ 31 rfl w0.heap.size Tryz.underlying31 (.slice A m c) out (fun _ => none) rfl (Ow.below cellsByte HO.out (laid (Below.refl _ _) _) (Keeps.refl _)) ⟨wr.heap.size, 0, none⟩ 1 1 [_] [_] rfl rfl (Enc.single cellsByte rfl) (one_news _ #[_] _) (by simp; omega) (Nat.le_trans HK.out.below.size (laid (Below.refl _ wr) _).size) ?_; intro v' w8 hown' hB8 hgr; obtain ⟨A8, m8, c8, rfl⟩ := hown'.form; have h8 := Ow.left_bk (Ow.below cellsByte HO.out (laid (Below.refl _ _) _) (Keeps.refl _)) (HBK.out.alloc _) (by decide) hgr; have hc8 := h8.cell 0; have hf8 := h8.frozen 0; simp only [List.getElem?_toArray, List.getElem?_cons_zero] at hc8; have HP8 := Lib.hid (Pk.put (laid HK.out.below _) HK.out.hi (HBK.out.alloc _) (Ow.below cellsByte HO.out (laid (Below.refl _ _) _) (Keeps.refl _)) hown' hB8 hgr); have HF8 := Lib.hid (HFR.out.trans (PkF.put (Ow.below cellsByte HO.out (laid (Below.refl _ _) _) (Keeps.refl _)) (HBK.out.alloc _) hgr : PkF _ (w8.setCell ⟨pb, 0, none⟩ (.slice A8 m8 c8)))); clear hown' hB8 hgr h8 hc0 hf0)
        go_roundw
        case rel =>
          obtain ⟨f', rfl⟩ : ∃ f', f = f' + 1 := by
            cases f with
            | zero => exfalso; simp at u1; omega
            | succ f' => exact ⟨f', rfl⟩
          have h7 : u / 128 < 128 ^ (f' + 1) := by
            rw [Int.pow_succ] at u1
            omega
          refine ⟨u / 128, f', _, ?_, by omega, h7, by omega, HP8.out, ?_, by simp; omega, HF8.out⟩
          · rfl
          · rw [← HEQ.out, packU, if_pos hu, List.append_assoc]
            rfl
        case measure => simp [intOf]; omega
      · go_wp2_with (at_builtin; refine wpList_append_Ow cellsByte inf_byte _ rfl _ _ 31 rfl w0.heap.size Tryz.underlying31 (.slice A m c) out (fun _ => none) rfl (Ow.below cellsByte HO.out (laid (Below.refl _ _) _) (Keeps.refl _)) ⟨wr.heap.size, 0, none⟩ 1 1 [_] [_] rfl rfl (Enc.single cellsByte rfl) (one_news _ #[_] _) (by simp; omega) (Nat.le_trans HK.out.below.size (laid (Below.refl _ wr) _).size) ?_; intro v' w8 hown' hB8 hgr; obtain ⟨A8, m8, c8, rfl⟩ := hown'.form; have h8 := Ow.left_bk (Ow.below cellsByte HO.out (laid (Below.refl _ _) _) (Keeps.refl _)) (HBK.out.alloc _) (by decide) hgr; have hc8 := h8.cell 0; have hf8 := h8.frozen 0; simp only [List.getElem?_toArray, List.getElem?_cons_zero] at hc8; have HP8 := Lib.hid (Pk.put (laid HK.out.below _) HK.out.hi (HBK.out.alloc _) (Ow.below cellsByte HO.out (laid (Below.refl _ _) _) (Keeps.refl _)) hown' hB8 hgr); have HF8 := Lib.hid (HFR.out.trans (PkF.put (Ow.below cellsByte HO.out (laid (Below.refl _ _) _) (Keeps.refl _)) (HBK.out.alloc _) hgr : PkF _ (w8.setCell ⟨pb, 0, none⟩ (.slice A8 m8 c8)))); clear hown' hB8 hgr h8 hc0 hf0)
        go_end0
        refine ⟨rfl, ?_, HF8.out⟩
        have he := HEQ.out
        have hp : packU f u = [u] := by
          cases f with
          | zero => rfl
          | succ f' => rw [packU, if_neg (by omega)]; rfl
        rw [hp] at he
        rw [← he]
        exact HP8.out
theorem packU_len : ∀ (f : Nat) (u : Int), (packU f u).length ≤ f + 1
  | 0, u => by simp [packU]
  | f + 1, u => by
    unfold packU
    split
    · have := packU_len f (u / 128); simp; omega
    · simp
def packN (n : Int) : List Int := packU 10 (unB n)
def packS (l : List Int) : List Int := l.flatMap packN
def packL (l : List Int) : List Int := packN l.length ++ packS l
theorem packN_len (n : Int) : (packN n).length ≤ 11 := packU_len 10 _
theorem packS_len (l : List Int) : (packS l).length ≤ 11 * l.length := by
  induction l with
  | nil => simp [packS]
  | cons x l ih =>
    have := packN_len x
    simp only [packS, List.flatMap_cons, List.length_append, List.length_cons] at ih ⊢
    omega
theorem packS_snoc (l : List Int) (x : Int) : packS (l ++ [x]) = packS l ++ packN x := by simp [packS]
theorem packS_take {l : List Int} {j : Nat} {x : Int} (h : l[j]? = some x) : packS (l.take (j + 1)) = packS (l.take j) ++ packN x := by
  rw [List.take_add_one, h]; exact packS_snoc _ _
theorem packL_len (l : List Int) : (packL l).length ≤ 11 * (l.length + 1) := by
  have h1 := packN_len l.length
  have h2 := packS_len l
  simp only [packL, List.length_append]
  omega
set_option maxHeartbeats 2000000 in
set_option maxRecDepth 100000 in
theorem packL_any (xs : List Int) (v : Value) (w0 w : World) (pb : Nat) (l : List Int) (h : Pk w0 w pb l) (hv : RInts w0.cell? v xs) (hx : xs.length ≤ 2000) (hl : l.length ≤ 800000) :
    Calls Tryz.prog 49 #[.pointer (some ⟨pb, 0, none⟩), v] w fun e w' => e = .returned (.tuple #[]) ∧ Pk w0 w' pb (l ++ packL xs) ∧ PkF w w' := by
  have HN := Lib.hid packN_any
  have HP := Lib.hid h
  have HV := Lib.hid hv
  obtain ⟨A, n, c, rfl⟩ := hv.sl
  have hn := hv.len
  have HL := Lib.hid hn
  have h2 : (n : Int) ≤ 2000 := by omega
  have hx2 : n ≤ 2000 := by omega
  have HX := Lib.hid hx
  clear h hv hn hx
  go_enter Tryz.func49, Tryz.ntmps49
  go_wp2_with fail
  go_at_call 48
  refine (HN.out _ _ _ _ _ HP.out (by omega)).mono ?_
  rintro e w1 ⟨rfl, hp1, hf1⟩
  have HP1 := Lib.hid hp1
  have HF1 := Lib.hid hf1
  clear hp1 hf1
  go_wp2_with fail
  go_loopw [12] (fun a12 wr => ∃ j : Nat, a12 = .int .i64 j ∧ j ≤ n ∧ Pk w0 wr pb (l ++ packN n ++ packS (xs.take j)) ∧ PkF w wr) (fun a12 _ => n - (intOf a12).toNat)
  case atStart => exact ⟨0, rfl, by omega, by simpa [packS, packN] using HP1.out, HF1.out⟩
  case round =>
    obtain ⟨j, rfl, hj, hp, hf⟩ := hrel
    have HPJ := Lib.hid hp
    have HFJ := Lib.hid hf
    clear hp hf
    by_cases hlt : j < n
    · have hlt2 : (j : Int) < (n : Int) := by omega
      have hjl : j < xs.length := by have := HL.out; omega
      obtain ⟨x, hx⟩ : ∃ x, xs[j]? = some x := ⟨_, List.getElem?_eq_getElem hjl⟩
      have hvw := Rws.mono HV.out (fun b o y hy => Keeps.of_below (HPJ.out.below) _ _ hy : ∀ b o y, RInt w0.cell? b o y → RInt _ b o y)
      obtain ⟨b, o, rfl, hc⟩ := Rws.at_ hvw (by omega)
      have hcj := hc j x hx
      rw [Nat.mul_one] at hcj
      unfold RInt at hcj
      have HXJ := Lib.hid hx
      clear hx hc hvw
      go_wp2_with fail
      go_at_call 48
      refine (HN.out _ _ _ _ _ HPJ.out (by
        have h3 := packN_len n
        have h4 := packS_len (xs.take j)
        have h5 : (xs.take j).length ≤ 2000 := by rw [List.length_take]; have := HX.out; omega
        simp only [List.length_append]
        omega)).mono ?_
      rintro e w2 ⟨rfl, hp2, hf2⟩
      have HP2 := Lib.hid hp2
      have HF2 := Lib.hid (HFJ.out.trans hf2)
      clear hp2 hf2
      go_wp2_with fail
      go_roundw
      case rel => exact ⟨j + 1, by go_num, by omega, by rw [packS_take HXJ.out, ← List.append_assoc]; exact HP2.out, HF2.out⟩
      case measure => simp [intOf]; omega
    · obtain rfl : j = n := by omega
      have HF : Hid (xs.take j = xs) := Lib.hid (List.take_of_length_le (by have := HL.out; omega))
      go_wp2
      go_end0
      refine ⟨rfl, ?_, HFJ.out⟩
      have := HPJ.out
      rw [HF.out, List.append_assoc] at this
      unfold packL
      rw [← HL.out]
      exact this
end Go.Proofs.YtkcdgaijklhnaaaGreatDoor
namespace Go.Proofs.YtkcdgaijklhnaaaGreatDoor
open Go.RowKit
def packLs (l : List (List Int)) : List Int := l.flatMap packL
def mbytes (m : LModel) : List Int := packS [m.kind, m.vocab, m.width, m.top] ++ packLs (listsM m)
theorem packLs_take {l : List (List Int)} {j : Nat} {x : List Int} (h : l[j]? = some x) : packLs (l.take (j + 1)) = packLs (l.take j) ++ packL x := by
  rw [List.take_add_one, h]; simp [packLs]
theorem packLs_len (l : List (List Int)) (h : ∀ x ∈ l, x.length ≤ 2000) : (packLs l).length ≤ 22011 * l.length := by
  induction l with
  | nil => simp [packLs]
  | cons x l ih =>
    have h1 := packL_len x
    have h2 := h x (by simp)
    have h3 := ih fun y hy => h y (List.mem_cons_of_mem _ hy)
    simp only [packLs, List.flatMap_cons, List.length_append, List.length_cons] at h3 ⊢
    omega
theorem lit4 (a b c d : Int) {j : Nat} (hj : j < 4) : ∃ x, [a, b, c, d][j]? = some x ∧ (#[.int .i64 a, .int .i64 b, .int .i64 c, .int .i64 d] : Array Value)[j]? = some (.int .i64 x) := by
  match j, hj with
  | 0, _ => exact ⟨a, rfl, rfl⟩
  | 1, _ => exact ⟨b, rfl, rfl⟩
  | 2, _ => exact ⟨c, rfl, rfl⟩
  | 3, _ => exact ⟨d, rfl, rfl⟩
theorem lit7 {C : Cl} {m : LModel} {a b c d e f g : Value} (h : RInts C a m.cuts ∧ RInts C b m.embed ∧ RInts C c m.place ∧ RInts C d m.mix ∧ RInts C e m.out ∧ RInts C f m.soft ∧ RInts C g m.odds) {j : Nat} (hj : j < 7) :
    ∃ x v, (listsM m)[j]? = some x ∧ (#[a, b, c, d, e, f, g] : Array Value)[j]? = some v ∧ RInts C v x := by
  obtain ⟨h1, h2, h3, h4, h5, h6, h7⟩ := h
  match j, hj with
  | 0, _ => exact ⟨_, a, rfl, rfl, h1⟩
  | 1, _ => exact ⟨_, b, rfl, rfl, h2⟩
  | 2, _ => exact ⟨_, c, rfl, rfl, h3⟩
  | 3, _ => exact ⟨_, d, rfl, rfl, h4⟩
  | 4, _ => exact ⟨_, e, rfl, rfl, h5⟩
  | 5, _ => exact ⟨_, f, rfl, rfl, h6⟩
  | 6, _ => exact ⟨_, g, rfl, rfl, h7⟩
set_option maxHeartbeats 4000000 in
set_option maxRecDepth 100000 in
theorem mbytes_any (m : LModel) (v : Value) (w : World) (hv : VModel w.cell? v m) (hl : ∀ x ∈ listsM m, x.length ≤ 2000) :
    Calls Tryz.prog 10 #[v] w fun e w' => ∃ v', e = .returned v' ∧ Below w.heap.size w w' ∧ Ow 1 EByte 5 w' (fun _ => none) w.heap.size v' (mbytes m) := by
  obtain ⟨a, b, c, d, e, f, g, rfl, hr⟩ := hv
  obtain ⟨⟨A1, n1, c1, rfl⟩, ⟨A2, n2, c2, rfl⟩, ⟨A3, n3, c3, rfl⟩, ⟨A4, n4, c4, rfl⟩, ⟨A5, n5, c5, rfl⟩, ⟨A6, n6, c6, rfl⟩, ⟨A7, n7, c7, rfl⟩⟩ := (⟨hr.1.sl, hr.2.1.sl, hr.2.2.1.sl, hr.2.2.2.1.sl, hr.2.2.2.2.1.sl, hr.2.2.2.2.2.1.sl, hr.2.2.2.2.2.2.sl⟩ : _ ∧ _ ∧ _ ∧ _ ∧ _ ∧ _ ∧ _)
  obtain ⟨K, hK⟩ : ∃ q, m.kind = q := ⟨_, rfl⟩
  obtain ⟨V, hV⟩ : ∃ q, m.vocab = q := ⟨_, rfl⟩
  obtain ⟨D, hD⟩ : ∃ q, m.width = q := ⟨_, rfl⟩
  obtain ⟨T, hT⟩ : ∃ q, m.top = q := ⟨_, rfl⟩
  have HM : Hid (mbytes m = packS [K, V, D, T] ++ packLs (listsM m)) := Lib.hid (by rw [mbytes, hK, hV, hD, hT])
  rw [hK, hV, hD, hT]
  obtain ⟨W1, hW1⟩ : ∃ W1, W1 = w.alloc (.cells #[.int .i64 K, .int .i64 V, .int .i64 D, .int .i64 T, .slice A1 n1 c1, .slice A2 n2 c2, .slice A3 n3 c3, .slice A4 n4 c4, .slice A5 n5 c5, .slice A6 n6 c6, .slice A7 n7 c7] 27) := ⟨_, rfl⟩
  have z1 : W1.heap.size = w.heap.size + 1 := by rw [hW1]; exact World.size_alloc _ _
  have hb0 : Bk W1 w.heap.size 27 #[.int .i64 K, .int .i64 V, .int .i64 D, .int .i64 T, .slice A1 n1 c1, .slice A2 n2 c2, .slice A3 n3 c3, .slice A4 n4 c4, .slice A5 n5 c5, .slice A6 n6 c6, .slice A7 n7 c7] := by rw [hW1]; exact Bk.new _ _ _
  have hB1 : Below w.heap.size w W1 := by rw [hW1]; exact laid (Below.refl _ _) _
  obtain ⟨W2, hW2⟩ : ∃ W2, W2 = W1.alloc (.cells #[.slice none 0 0] 77) := ⟨_, rfl⟩
  obtain ⟨pb, hpb⟩ : ∃ pb, pb = w.heap.size + 1 := ⟨_, rfl⟩
  have hb1 : Bk W2 pb 77 #[.slice none 0 0] := by rw [hW2, hpb, ← z1]; exact Bk.new _ _ _
  have hb02 : Bk W2 w.heap.size 27 #[.int .i64 K, .int .i64 V, .int .i64 D, .int .i64 T, .slice A1 n1 c1, .slice A2 n2 c2, .slice A3 n3 c3, .slice A4 n4 c4, .slice A5 n5 c5, .slice A6 n6 c6, .slice A7 n7 c7] := by rw [hW2]; exact hb0.alloc _
  obtain ⟨W3, hW3⟩ : ∃ W3, W3 = W2.alloc (.cells #[.int .i64 K, .int .i64 V, .int .i64 D, .int .i64 T] 3) := ⟨_, rfl⟩
  have z2 : W2.heap.size = w.heap.size + 1 + 1 := by rw [hW2, World.size_alloc, z1]
  obtain ⟨rb, hrb⟩ : ∃ rb, rb = w.heap.size + 1 + 1 := ⟨_, rfl⟩
  have hb2 : Bk W3 rb 3 #[.int .i64 K, .int .i64 V, .int .i64 D, .int .i64 T] := by rw [hW3, hrb, ← z2]; exact Bk.new _ _ _
  have hb03 : Bk W3 w.heap.size 27 #[.int .i64 K, .int .i64 V, .int .i64 D, .int .i64 T, .slice A1 n1 c1, .slice A2 n2 c2, .slice A3 n3 c3, .slice A4 n4 c4, .slice A5 n5 c5, .slice A6 n6 c6, .slice A7 n7 c7] := by rw [hW3]; exact hb02.alloc _
  have hPk0 : Pk W1 W3 pb [] := ⟨by rw [hW3, hW2]; exact laid (laid (Below.refl _ _) _) _, by omega, .slice none 0 0, by rw [hW3]; exact hb1.alloc _, Ow.nil _ _ _ _ _ _⟩
  have HL7 : Hid (∀ j, j < 7 → ∃ x u, (listsM m)[j]? = some x ∧ (#[.slice A1 n1 c1, .slice A2 n2 c2, .slice A3 n3 c3, .slice A4 n4 c4, .slice A5 n5 c5, .slice A6 n6 c6, .slice A7 n7 c7] : Array Value)[j]? = some u ∧ RInts W1.cell? u x ∧ x.length ≤ 2000) := Lib.hid fun j hj => by
    obtain ⟨x, u, h1, h2, h3⟩ := lit7 hr hj
    exact ⟨x, u, h1, h2, Rws.mono h3 fun b o y hy => Keeps.of_below hB1 _ _ hy, hl x (List.mem_of_getElem? h1)⟩
  have HLL := Lib.hid (fun l hl => packLs_len l hl)
  have HLM := Lib.hid hl
  have HN := Lib.hid packN_any
  have HLP := Lib.hid packL_any
  have HW1 := Lib.hid hW1
  have HW2 := Lib.hid hW2
  have HW3 := Lib.hid hW3
  have HPB := Lib.hid hpb
  have HRB := Lib.hid hrb
  have HB1 := Lib.hid hB1
  have HB2 := Lib.hid hb2
  have HB0 := Lib.hid hb03
  have HP0 := Lib.hid hPk0
  have HZ1 := Lib.hid z1
  have m0 := hb02.cell 0
  have m1 := hb02.cell 1
  have m2 := hb02.cell 2
  have m3 := hb02.cell 3
  simp only [List.getElem?_toArray, List.getElem?_cons_zero, List.getElem?_cons_succ] at m0 m1 m2 m3
  clear hW1 hW2 hW3 hpb hrb hB1 hb0 hb1 hb2 hb02 hb03 hPk0 z1 z2 hr hl hK hV hD hT
  go_enter Tryz.func10, Tryz.ntmps10
  go_wp2_with fail
  rw [← HW1.out, ← HW2.out, ← HW3.out, ← HRB.out, ← HPB.out]
  clear m0 m1 m2 m3
  go_loopw [20] (fun a20 wr => ∃ j : Nat, a20 = .int .i64 j ∧ j ≤ 4 ∧ Pk W1 wr pb (packS ([K, V, D, T].take j)) ∧ PkF W3 wr) (fun a20 _ => 4 - (intOf a20).toNat)
  case atStart => exact ⟨0, rfl, by omega, by simpa [packS] using HP0.out, PkF.refl _⟩
  case round =>
    obtain ⟨j, rfl, hj, hp, hf⟩ := hrel
    have HPJ := Lib.hid hp
    have HFJ := Lib.hid hf
    clear hp hf
    by_cases hlt : j < 4
    · have hlt2 : (j : Int) < 4 := by omega
      obtain ⟨x, hx, hcx⟩ := lit4 K V D T hlt
      have hcj := (HFJ.out rb 3 _ (by decide) (by decide) HB2.out).cell j
      rw [hcx] at hcj
      have HX := Lib.hid hx
      clear hx hcx
      go_wp2_with fail
      go_at_call 48
      refine (HN.out _ _ _ _ _ HPJ.out (by
        have h4 := packS_len ([K, V, D, T].take j)
        have h5 : ([K, V, D, T].take j).length ≤ 4 := by rw [List.length_take]; simp; omega
        omega)).mono ?_
      rintro e w2 ⟨rfl, hp2, hf2⟩
      have HP2 := Lib.hid hp2
      have HF2 := Lib.hid (HFJ.out.trans hf2)
      clear hp2 hf2
      go_wp2_with fail
      go_roundw
      case rel => exact ⟨j + 1, by go_num, by omega, by rw [packS_take HX.out]; exact HP2.out, HF2.out⟩
      case measure => simp [intOf]; omega
    · obtain rfl : j = 4 := by omega
      have hb := HFJ.out w.heap.size _ _ (by decide) (by decide) HB0.out
      have HBW := Lib.hid hb
      have m4 := hb.cell 4
      have m5 := hb.cell 5
      have m6 := hb.cell 6
      have m7 := hb.cell 7
      have m8 := hb.cell 8
      have m9 := hb.cell 9
      have m10 := hb.cell 10
      simp only [List.getElem?_toArray, List.getElem?_cons_zero, List.getElem?_cons_succ] at m4 m5 m6 m7 m8 m9 m10
      clear hb hlt hj
      go_wp2_with fail
      obtain ⟨W4, hW4⟩ : ∃ W4, W4 = wr.alloc (.cells #[.slice A1 n1 c1, .slice A2 n2 c2, .slice A3 n3 c3, .slice A4 n4 c4, .slice A5 n5 c5, .slice A6 n6 c6, .slice A7 n7 c7] 22) := ⟨_, rfl⟩
      have hb4 : Bk W4 wr.heap.size 22 #[.slice A1 n1 c1, .slice A2 n2 c2, .slice A3 n3 c3, .slice A4 n4 c4, .slice A5 n5 c5, .slice A6 n6 c6, .slice A7 n7 c7] := by rw [hW4]; exact Bk.new _ _ _
      obtain ⟨rc, hrc⟩ : ∃ rc, rc = wr.heap.size := ⟨_, rfl⟩
      rw [← hrc] at hb4
      have HP4 : Hid (Pk W1 W4 pb (packS [K, V, D, T])) := Lib.hid (by rw [hW4]; exact HPJ.out.step (laid (Below.refl _ _) _))
      have HB4 := Lib.hid hb4
      rw [← hW4, ← hrc]
      clear hW4 hb4 hrc m4 m5 m6 m7 m8 m9 m10
      push_cast
      go_loopw [44] (fun a44 wr => ∃ j : Nat, a44 = .int .i64 j ∧ j ≤ 7 ∧ Pk W1 wr pb (packS [K, V, D, T] ++ packLs ((listsM m).take j)) ∧ PkF W4 wr) (fun a44 _ => 7 - (intOf a44).toNat)
      case atStart => exact ⟨0, rfl, by omega, by simpa [packLs] using HP4.out, PkF.refl _⟩
      case round =>
        obtain ⟨j, rfl, hj, hp, hf⟩ := hrel
        have HPK := Lib.hid hp
        have HFK := Lib.hid hf
        clear hp hf
        by_cases hlt : j < 7
        · have hlt2 : (j : Int) < 7 := by omega
          obtain ⟨x, u, hx, hcx, hux, hxl⟩ := HL7.out j hlt
          have hcj := (HFK.out rc 22 _ (by decide) (by decide) HB4.out).cell j
          rw [hcx] at hcj
          have HX := Lib.hid hx
          have HUX := Lib.hid hux
          have HXL := Lib.hid hxl
          clear hx hcx hux hxl
          go_wp2_with fail
          go_at_call 49
          refine (HLP.out x _ _ _ _ _ HPK.out HUX.out HXL.out (by
            have h4 := packS_len [K, V, D, T]
            have h5 := HLL.out ((listsM m).take j) fun y hy => HLM.out y (List.mem_of_mem_take hy)
            have h6 : ((listsM m).take j).length ≤ 7 := by rw [List.length_take]; omega
            simp only [List.length_append, List.length_cons, List.length_nil] at h4 ⊢
            omega)).mono ?_
          rintro e w2 ⟨rfl, hp2, hf2⟩
          have HP2 := Lib.hid hp2
          have HF2 := Lib.hid (HFK.out.trans hf2)
          clear hp2 hf2
          go_wp2_with fail
          go_roundw
          case rel => exact ⟨j + 1, by go_num, by omega, by rw [packLs_take HX.out, ← List.append_assoc]; exact HP2.out, HF2.out⟩
          case measure => simp [intOf]; omega
        · obtain rfl : j = 7 := by omega
          obtain ⟨v, hbv, hO⟩ := HPK.out.ex
          have hcv := hbv.cell 0
          simp only [List.getElem?_toArray, List.getElem?_cons_zero] at hcv
          have HO := Lib.hid hO
          clear hbv hO
          go_wp2
          go_ret
          refine ⟨_, rfl, (HB1.out).trans (HPK.out.below.mono (by rw [HZ1.out]; omega)), ?_⟩
          rw [HM.out]
          have h7 : (listsM m).take 7 = listsM m := rfl
          have := HO.out
          rw [h7] at this
          exact Ow.base this (by rw [HZ1.out]; omega)
end Go.Proofs.YtkcdgaijklhnaaaGreatDoor
namespace Go.Proofs.YtkcdgaijklhnaaaGreatDoor
open Go.RowKit
def RBytes (C : Cl) (v : Value) (xs : List Int) : Prop := Rws 1 RByte C v xs
theorem tok2 : True := trivial
set_option maxHeartbeats 1000000 in
set_option maxRecDepth 100000 in
theorem equal_byte (xs ys : List Int) (v u : Value) (w : World) (hv : RBytes w.cell? v xs) (hu : RBytes w.cell? u ys) :
    Calls Tryz.prog 9 #[v, u] w fun e w' => e = .returned (.bool (eqL iEq xs ys)) ∧ Below w.heap.size w w' := by
  obtain ⟨A, c, rfl, -, -, hmx⟩ := Rws.shape hv
  obtain ⟨A2, c2, rfl, -, -, hmx2⟩ := Rws.shape hu
  have HV := Lib.hid hv
  have HU := Lib.hid hu
  obtain ⟨n, hn⟩ : ∃ n, xs.length = n := ⟨_, rfl⟩
  obtain ⟨m, hm⟩ : ∃ m, ys.length = m := ⟨_, rfl⟩
  rw [hn] at hmx HV ⊢
  rw [hm] at hmx2 HU ⊢
  have HL := Lib.hid hn
  have HM := Lib.hid hm
  have hn2 : (n : Int) ≤ 1000000 := by omega
  have hm2 : (m : Int) ≤ 1000000 := by omega
  clear hv hu
  by_cases hnm : n = m
  · subst hnm
    have hne0 : ((n : Int) != (n : Int)) = false := by simp
    clear hn hm
    go_enter Tryz.func9, Tryz.ntmps9
    go_wp2
    go_loopw [13] (fun a13 wr => ∃ (j q : Nat), a13 = .int .i64 j ∧ wr = w.drewN q ∧ j ≤ n ∧ eqL iEq (xs.take j) (ys.take j) = true) (fun a13 _ => n - (intOf a13).toNat)
    case atStart => exact ⟨0, 0, rfl, rfl, by omega, rfl⟩
    case round =>
      obtain ⟨j, q, rfl, rfl, hj, ht⟩ := hrel
      have HTK := Lib.hid ht
      clear ht
      by_cases hlt : j < n
      · have hlt2 : (j : Int) < (n : Int) := by omega
        have hjl : j < xs.length := by rw [HL.out]; exact hlt
        have hjm : j < ys.length := by rw [HM.out]; exact hlt
        obtain ⟨b, o, rfl, hc⟩ := Rws.at_ HV.out (by rw [HL.out]; omega)
        obtain ⟨b2, o2, rfl, hc2⟩ := Rws.at_ HU.out (by rw [HM.out]; omega)
        obtain ⟨x, hx⟩ : ∃ x, xs[j]? = some x := ⟨_, List.getElem?_eq_getElem hjl⟩
        obtain ⟨y, hy⟩ : ∃ y, ys[j]? = some y := ⟨_, List.getElem?_eq_getElem hjm⟩
        have hEp := hc j x hx
        have hEr := hc2 j y hy
        rw [Nat.mul_one] at hEp
        rw [Nat.mul_one] at hEr
        have HX := Lib.hid hx
        have HY := Lib.hid hy
        clear hc hc2 hx hy
        have p0 : _ = _ := hEp
        have r0 : _ = _ := hEr
        obtain ⟨bq, hbq⟩ : ∃ bq, iEq x y = bq := ⟨_, rfl⟩
        have hne : (x != y) = !bq := by rw [← hbq]; rfl
        have HQ := Lib.hid hbq
        clear hbq
        cases bq with
        | true =>
          have HN : Hid (eqL iEq (xs.take (j + 1)) (ys.take (j + 1)) = true) := Lib.hid (by rw [eqL_take HX.out HY.out, HTK.out, HQ.out]; rfl)
          go_wp2
          go_quiet (fail)
          go_wp2
          go_roundw
          case rel => exact ⟨j + 1, q + nq, by go_num, by first | rfl | exact World.drewN_drewN _ _ _, by omega, HN.out⟩
          case measure => simp [intOf]; omega
        | false =>
          have HN : Hid (eqL iEq xs ys = false) := Lib.hid (eqL_no HX.out HY.out HQ.out)
          go_wp2
          go_quiet (fail)
          go_wp2
          go_ret
          refine ⟨ret_bool HN.out.symm, ?_⟩
          exact drawn (drawn (Below.refl _ w) _) _
      · obtain rfl : j = n := by omega
        have hE1 := HTK.out
        rw [List.take_of_length_le (by rw [HL.out]; omega), List.take_of_length_le (by rw [HM.out]; omega)] at hE1
        have HE1 := Lib.hid hE1
        clear hE1
        go_wp2
        go_ret
        exact ⟨ret_bool HE1.out.symm, drawn (Below.refl _ w) _⟩
  · have hne0 : ((n : Int) != (m : Int)) = true := by simp; omega
    have HN : Hid (eqL iEq xs ys = false) := Lib.hid (eqL_len (by rw [hn, hm]; exact hnm))
    clear hn hm
    go_enter Tryz.func9, Tryz.ntmps9
    go_wp2
    go_ret
    exact ⟨ret_bool HN.out.symm, Below.refl _ _⟩
set_option maxHeartbeats 4000000 in
set_option maxRecDepth 100000 in
theorem same_any (ma mb : LModel) (a b : Value) (w : World) (ha : VModel w.cell? a ma) (hb : VModel w.cell? b mb) (hla : ∀ x ∈ listsM ma, x.length ≤ 2000) (hlb : ∀ x ∈ listsM mb, x.length ≤ 2000) :
    Calls Tryz.prog 16 #[a, b] w fun e w' => e = .returned (.bool (eqL iEq (mbytes ma) (mbytes mb))) ∧ Below w.heap.size w w' := by
  obtain ⟨ap, bp, cp, dp, ep, fp, gp, rfl, hrp⟩ := ha
  obtain ⟨⟨Ap1, np1, cp1, rfl⟩, ⟨Ap2, np2, cp2, rfl⟩, ⟨Ap3, np3, cp3, rfl⟩, ⟨Ap4, np4, cp4, rfl⟩, ⟨Ap5, np5, cp5, rfl⟩, ⟨Ap6, np6, cp6, rfl⟩, ⟨Ap7, np7, cp7, rfl⟩⟩ := (⟨hrp.1.sl, hrp.2.1.sl, hrp.2.2.1.sl, hrp.2.2.2.1.sl, hrp.2.2.2.2.1.sl, hrp.2.2.2.2.2.1.sl, hrp.2.2.2.2.2.2.sl⟩ : _ ∧ _ ∧ _ ∧ _ ∧ _ ∧ _ ∧ _)
  have hMp : VModel w.cell? (.agg #[.int .i64 ma.kind, .int .i64 ma.vocab, .int .i64 ma.width, .int .i64 ma.top, .slice Ap1 np1 cp1, .slice Ap2 np2 cp2, .slice Ap3 np3 cp3, .slice Ap4 np4 cp4, .slice Ap5 np5 cp5, .slice Ap6 np6 cp6, .slice Ap7 np7 cp7]) ma := ⟨_, _, _, _, _, _, _, rfl, hrp⟩
  obtain ⟨Kp, hKp⟩ : ∃ q, ma.kind = q := ⟨_, rfl⟩
  obtain ⟨Vp, hVp⟩ : ∃ q, ma.vocab = q := ⟨_, rfl⟩
  obtain ⟨Dp, hDp⟩ : ∃ q, ma.width = q := ⟨_, rfl⟩
  obtain ⟨Tp, hTp⟩ : ∃ q, ma.top = q := ⟨_, rfl⟩
  obtain ⟨aq, bq, cq, dq, eq, fq, gq, rfl, hrq⟩ := hb
  obtain ⟨⟨Aq1, nq1, cq1, rfl⟩, ⟨Aq2, nq2, cq2, rfl⟩, ⟨Aq3, nq3, cq3, rfl⟩, ⟨Aq4, nq4, cq4, rfl⟩, ⟨Aq5, nq5, cq5, rfl⟩, ⟨Aq6, nq6, cq6, rfl⟩, ⟨Aq7, nq7, cq7, rfl⟩⟩ := (⟨hrq.1.sl, hrq.2.1.sl, hrq.2.2.1.sl, hrq.2.2.2.1.sl, hrq.2.2.2.2.1.sl, hrq.2.2.2.2.2.1.sl, hrq.2.2.2.2.2.2.sl⟩ : _ ∧ _ ∧ _ ∧ _ ∧ _ ∧ _ ∧ _)
  have hMq : VModel w.cell? (.agg #[.int .i64 mb.kind, .int .i64 mb.vocab, .int .i64 mb.width, .int .i64 mb.top, .slice Aq1 nq1 cq1, .slice Aq2 nq2 cq2, .slice Aq3 nq3 cq3, .slice Aq4 nq4 cq4, .slice Aq5 nq5 cq5, .slice Aq6 nq6 cq6, .slice Aq7 nq7 cq7]) mb := ⟨_, _, _, _, _, _, _, rfl, hrq⟩
  obtain ⟨Kq, hKq⟩ : ∃ q, mb.kind = q := ⟨_, rfl⟩
  obtain ⟨Vq, hVq⟩ : ∃ q, mb.vocab = q := ⟨_, rfl⟩
  obtain ⟨Dq, hDq⟩ : ∃ q, mb.width = q := ⟨_, rfl⟩
  obtain ⟨Tq, hTq⟩ : ∃ q, mb.top = q := ⟨_, rfl⟩
  rw [hKp, hVp, hDp, hTp] at hMp
  rw [hKq, hVq, hDq, hTq] at hMq
  rw [hKp, hVp, hDp, hTp, hKq, hVq, hDq, hTq]
  clear hKp hVp hDp hTp hKq hVq hDq hTq hrp hrq
  obtain ⟨W1, hW1⟩ : ∃ W1, W1 = w.alloc (.cells #[.int .i64 Kp, .int .i64 Vp, .int .i64 Dp, .int .i64 Tp, .slice Ap1 np1 cp1, .slice Ap2 np2 cp2, .slice Ap3 np3 cp3, .slice Ap4 np4 cp4, .slice Ap5 np5 cp5, .slice Ap6 np6 cp6, .slice Ap7 np7 cp7] 27) := ⟨_, rfl⟩
  have z1 : W1.heap.size = w.heap.size + 1 := by rw [hW1]; exact World.size_alloc _ _
  have hb0 : Bk W1 w.heap.size 27 #[.int .i64 Kp, .int .i64 Vp, .int .i64 Dp, .int .i64 Tp, .slice Ap1 np1 cp1, .slice Ap2 np2 cp2, .slice Ap3 np3 cp3, .slice Ap4 np4 cp4, .slice Ap5 np5 cp5, .slice Ap6 np6 cp6, .slice Ap7 np7 cp7] := by rw [hW1]; exact Bk.new _ _ _
  obtain ⟨W2, hW2⟩ : ∃ W2, W2 = W1.alloc (.cells #[.int .i64 Kq, .int .i64 Vq, .int .i64 Dq, .int .i64 Tq, .slice Aq1 nq1 cq1, .slice Aq2 nq2 cq2, .slice Aq3 nq3 cq3, .slice Aq4 nq4 cq4, .slice Aq5 nq5 cq5, .slice Aq6 nq6 cq6, .slice Aq7 nq7 cq7] 27) := ⟨_, rfl⟩
  have hb1 : Bk W2 (w.heap.size + 1) 27 #[.int .i64 Kq, .int .i64 Vq, .int .i64 Dq, .int .i64 Tq, .slice Aq1 nq1 cq1, .slice Aq2 nq2 cq2, .slice Aq3 nq3 cq3, .slice Aq4 nq4 cq4, .slice Aq5 nq5 cq5, .slice Aq6 nq6 cq6, .slice Aq7 nq7 cq7] := by rw [hW2, ← z1]; exact Bk.new _ _ _
  have hb2 : Bk W2 w.heap.size 27 #[.int .i64 Kp, .int .i64 Vp, .int .i64 Dp, .int .i64 Tp, .slice Ap1 np1 cp1, .slice Ap2 np2 cp2, .slice Ap3 np3 cp3, .slice Ap4 np4 cp4, .slice Ap5 np5 cp5, .slice Ap6 np6 cp6, .slice Ap7 np7 cp7] := by rw [hW2]; exact hb0.alloc _
  have HB : Hid (Below w.heap.size w W2) := Lib.hid (by rw [hW2, hW1]; exact laid (laid (Below.refl _ _) _) _)
  have HS : Hid (∀ w', Below W2.heap.size W2 w' → (w'.cell? ⟨w.heap.size, 0, none⟩ = some (.int .i64 Kp) ∧ w'.cell? ⟨w.heap.size, 1, none⟩ = some (.int .i64 Vp) ∧ w'.cell? ⟨w.heap.size, 2, none⟩ = some (.int .i64 Dp) ∧ w'.cell? ⟨w.heap.size, 3, none⟩ = some (.int .i64 Tp) ∧ w'.cell? ⟨w.heap.size, 4, none⟩ = some (.slice Ap1 np1 cp1) ∧ w'.cell? ⟨w.heap.size, 5, none⟩ = some (.slice Ap2 np2 cp2) ∧ w'.cell? ⟨w.heap.size, 6, none⟩ = some (.slice Ap3 np3 cp3) ∧ w'.cell? ⟨w.heap.size, 7, none⟩ = some (.slice Ap4 np4 cp4) ∧ w'.cell? ⟨w.heap.size, 8, none⟩ = some (.slice Ap5 np5 cp5) ∧ w'.cell? ⟨w.heap.size, 9, none⟩ = some (.slice Ap6 np6 cp6) ∧ w'.cell? ⟨w.heap.size, 10, none⟩ = some (.slice Ap7 np7 cp7)) ∧ (w'.cell? ⟨(w.heap.size + 1), 0, none⟩ = some (.int .i64 Kq) ∧ w'.cell? ⟨(w.heap.size + 1), 1, none⟩ = some (.int .i64 Vq) ∧ w'.cell? ⟨(w.heap.size + 1), 2, none⟩ = some (.int .i64 Dq) ∧ w'.cell? ⟨(w.heap.size + 1), 3, none⟩ = some (.int .i64 Tq) ∧ w'.cell? ⟨(w.heap.size + 1), 4, none⟩ = some (.slice Aq1 nq1 cq1) ∧ w'.cell? ⟨(w.heap.size + 1), 5, none⟩ = some (.slice Aq2 nq2 cq2) ∧ w'.cell? ⟨(w.heap.size + 1), 6, none⟩ = some (.slice Aq3 nq3 cq3) ∧ w'.cell? ⟨(w.heap.size + 1), 7, none⟩ = some (.slice Aq4 nq4 cq4) ∧ w'.cell? ⟨(w.heap.size + 1), 8, none⟩ = some (.slice Aq5 nq5 cq5) ∧ w'.cell? ⟨(w.heap.size + 1), 9, none⟩ = some (.slice Aq6 nq6 cq6) ∧ w'.cell? ⟨(w.heap.size + 1), 10, none⟩ = some (.slice Aq7 nq7 cq7))) := Lib.hid fun w' hb => ⟨by have h := (hb2.low hb).cell; exact ⟨h 0, h 1, h 2, h 3, h 4, h 5, h 6, h 7, h 8, h 9, h 10⟩, by have h := (hb1.low hb).cell; exact ⟨h 0, h 1, h 2, h 3, h 4, h 5, h 6, h 7, h 8, h 9, h 10⟩⟩
  have HA : Hid (∀ W, Below W2.heap.size W2 W → Calls Tryz.prog 10 #[.agg #[.int .i64 Kp, .int .i64 Vp, .int .i64 Dp, .int .i64 Tp, .slice Ap1 np1 cp1, .slice Ap2 np2 cp2, .slice Ap3 np3 cp3, .slice Ap4 np4 cp4, .slice Ap5 np5 cp5, .slice Ap6 np6 cp6, .slice Ap7 np7 cp7]] W fun e w' => ∃ v', e = .returned v' ∧ Below W.heap.size W w' ∧ Ow 1 EByte 5 w' (fun _ => none) W.heap.size v' (mbytes ma)) := Lib.hid fun W hb => mbytes_any ma _ W (hMp.keep (Keeps.of_below (behind HB.out hb))) hla
  have HQ : Hid (∀ W, Below W2.heap.size W2 W → Calls Tryz.prog 10 #[.agg #[.int .i64 Kq, .int .i64 Vq, .int .i64 Dq, .int .i64 Tq, .slice Aq1 nq1 cq1, .slice Aq2 nq2 cq2, .slice Aq3 nq3 cq3, .slice Aq4 nq4 cq4, .slice Aq5 nq5 cq5, .slice Aq6 nq6 cq6, .slice Aq7 nq7 cq7]] W fun e w' => ∃ v', e = .returned v' ∧ Below W.heap.size W w' ∧ Ow 1 EByte 5 w' (fun _ => none) W.heap.size v' (mbytes mb)) := Lib.hid fun W hb => mbytes_any mb _ W (hMq.keep (Keeps.of_below (behind HB.out hb))) hlb
  have HE : Hid (∀ W x y, Rws 1 RByte W.cell? x (mbytes ma) → Rws 1 RByte W.cell? y (mbytes mb) → Calls Tryz.prog 9 #[x, y] W fun e w' => e = .returned (.bool (eqL iEq (mbytes ma) (mbytes mb))) ∧ Below W.heap.size W w') := Lib.hid fun W x y hx hy => equal_byte _ _ x y W hx hy
  have HW1 := Lib.hid hW1
  have HW2 := Lib.hid hW2
  obtain ⟨⟨p0, p1, p2, p3, p4, p5, p6, p7, p8, p9, p10⟩, ⟨q0, q1, q2, q3, q4, q5, q6, q7, q8, q9, q10⟩⟩ := HS.out W2 (Below.refl _ _)
  clear hW1 hW2 hb0 hb1 hb2 z1 hMp hMq
  go_enter Tryz.func16, Tryz.ntmps16
  go_wp2_with fail
  rw [← HW1.out, ← HW2.out]
  have _t := tok2
  go_region_held3 (fun w' => (w'.cell? ⟨w.heap.size, 0, none⟩ = some (.int .i64 Kp) ∧ w'.cell? ⟨w.heap.size, 1, none⟩ = some (.int .i64 Vp) ∧ w'.cell? ⟨w.heap.size, 2, none⟩ = some (.int .i64 Dp) ∧ w'.cell? ⟨w.heap.size, 3, none⟩ = some (.int .i64 Tp) ∧ w'.cell? ⟨w.heap.size, 4, none⟩ = some (.slice Ap1 np1 cp1) ∧ w'.cell? ⟨w.heap.size, 5, none⟩ = some (.slice Ap2 np2 cp2) ∧ w'.cell? ⟨w.heap.size, 6, none⟩ = some (.slice Ap3 np3 cp3) ∧ w'.cell? ⟨w.heap.size, 7, none⟩ = some (.slice Ap4 np4 cp4) ∧ w'.cell? ⟨w.heap.size, 8, none⟩ = some (.slice Ap5 np5 cp5) ∧ w'.cell? ⟨w.heap.size, 9, none⟩ = some (.slice Ap6 np6 cp6) ∧ w'.cell? ⟨w.heap.size, 10, none⟩ = some (.slice Ap7 np7 cp7)) ∧ (w'.cell? ⟨(w.heap.size + 1), 0, none⟩ = some (.int .i64 Kq) ∧ w'.cell? ⟨(w.heap.size + 1), 1, none⟩ = some (.int .i64 Vq) ∧ w'.cell? ⟨(w.heap.size + 1), 2, none⟩ = some (.int .i64 Dq) ∧ w'.cell? ⟨(w.heap.size + 1), 3, none⟩ = some (.int .i64 Tq) ∧ w'.cell? ⟨(w.heap.size + 1), 4, none⟩ = some (.slice Aq1 nq1 cq1) ∧ w'.cell? ⟨(w.heap.size + 1), 5, none⟩ = some (.slice Aq2 nq2 cq2) ∧ w'.cell? ⟨(w.heap.size + 1), 6, none⟩ = some (.slice Aq3 nq3 cq3) ∧ w'.cell? ⟨(w.heap.size + 1), 7, none⟩ = some (.slice Aq4 nq4 cq4) ∧ w'.cell? ⟨(w.heap.size + 1), 8, none⟩ = some (.slice Aq5 nq5 cq5) ∧ w'.cell? ⟨(w.heap.size + 1), 9, none⟩ = some (.slice Aq6 nq6 cq6) ∧ w'.cell? ⟨(w.heap.size + 1), 10, none⟩ = some (.slice Aq7 nq7 cq7)))
    (first | exact ⟨⟨p0, p1, p2, p3, p4, p5, p6, p7, p8, p9, p10⟩, ⟨q0, q1, q2, q3, q4, q5, q6, q7, q8, q9, q10⟩⟩ | exact HS.out _ HC1.out | exact HS.out _ HC2.out | exact HS.out _ HC3.out | go_keep)
    (first
      | (clear _t; go_at_call 10; refine (HA.out _ (drawn (Below.refl _ _) _)).mono ?_; rintro e w1 ⟨v1, rfl, hB1, hO1⟩; have HC1 : Hid (Below W2.heap.size W2 w1) := Lib.hid (behind (drawn (Below.refl _ _) _) hB1); have HO1 := Lib.hid hO1; clear hB1 hO1)
      | (go_at_call 10; refine (HQ.out _ HC1.out).mono ?_; rintro e w2 ⟨v2, rfl, hB2, hO2⟩; have HR1 := Lib.hid (Ow.rws cellsByte (Ow.below cellsByte HO1.out hB2 (Keeps.refl _)) (fun _ _ h => by cases h)); have HR2 := Lib.hid (Ow.rws cellsByte hO2 (fun _ _ h => by cases h)); have HC2 : Hid (Below W2.heap.size W2 w2) := Lib.hid (behind HC1.out hB2); clear hB2 hO2)
      | (go_at_call 9; refine (HE.out _ _ _ HR1.out HR2.out).mono ?_; rintro e w3 ⟨rfl, hB3⟩; have HC3 : Hid (Below W2.heap.size W2 w3) := Lib.hid (behind HC2.out hB3); clear hB3))
  go_wp2
  go_ret
  exact ⟨rfl, behind HB.out HC3.out⟩
end Go.Proofs.YtkcdgaijklhnaaaGreatDoor
namespace Go.Proofs.YtkcdgaijklhnaaaGreatDoor
open Go.RowKit
theorem or128_fin : ∀ v : Fin 256, bits BinOp.or IntKind.u8 ((v.val : Nat) : Int) 128 = ((v.val % 128 + 128 : Nat) : Int) := by decide +kernel
theorem moreB_eq {u : Int} (h : 0 ≤ u) : moreB u = u % 128 + 128 := by
  obtain ⟨n, rfl⟩ : ∃ n : Nat, u = n := ⟨u.toNat, by omega⟩
  have e : ((n : Int) % 256) = ((n % 256 : Nat) : Int) := by omega
  unfold moreB
  rw [e]
  have h2 := or128_fin ⟨n % 256, Nat.mod_lt _ (by decide)⟩
  rw [show ((⟨n % 256, Nat.mod_lt _ (by decide)⟩ : Fin 256).val) = n % 256 from rfl] at h2
  rw [h2]
  omega
theorem packU_inj : ∀ (f : Nat) (u u' : Int) (r r' : List Int), 0 ≤ u → u < 128 ^ (f + 1) → 0 ≤ u' → u' < 128 ^ (f + 1) → packU f u ++ r = packU f u' ++ r' → u = u' ∧ r = r'
  | 0, u, u', r, r', _, _, _, _, h => by
    simp only [packU, lowB, List.cons_append, List.nil_append, List.cons.injEq] at h
    exact h
  | f + 1, u, u', r, r', h0, h1, h2, h3, h => by
    have e : ∀ x : Int, x < 128 ^ (f + 1 + 1) → x / 128 < 128 ^ (f + 1) := fun x hx => by
      rw [Int.ediv_lt_iff_lt_mul (by decide)]
      rw [Int.pow_succ] at hx
      exact hx
    unfold packU at h
    by_cases c : 128 ≤ u
    · by_cases c' : 128 ≤ u'
      · rw [if_pos c, if_pos c', moreB_eq h0, moreB_eq h2] at h
        simp only [List.cons_append, List.cons.injEq] at h
        obtain ⟨q1, q2⟩ := h
        obtain ⟨q3, q4⟩ := packU_inj f _ _ r r' (by omega) (e u h1) (by omega) (e u' h3) q2
        exact ⟨by omega, q4⟩
      · rw [if_pos c, if_neg c', moreB_eq h0] at h
        simp only [List.cons_append, List.nil_append, List.cons.injEq, lowB] at h
        omega
    · by_cases c' : 128 ≤ u'
      · rw [if_neg c, if_pos c', moreB_eq h2] at h
        simp only [List.cons_append, List.nil_append, List.cons.injEq, lowB] at h
        omega
      · rw [if_neg c, if_neg c'] at h
        simp only [lowB, List.cons_append, List.nil_append, List.cons.injEq] at h
        exact h
def SmallN (n : Int) : Prop := -1000000000000 ≤ n ∧ n ≤ 1000000000000
theorem unB_eq {n : Int} (h : SmallN n) : unB n = if n < 0 then -2 * n - 1 else 2 * n := by
  obtain ⟨h1, h2⟩ := h
  have e1 : wrap64 (-2 * n) = -2 * n := by unfold wrap64; omega
  have e2 : wrap64 (-2 * n - 1) = -2 * n - 1 := by unfold wrap64; omega
  have e3 : wrap64 (2 * n) = 2 * n := by unfold wrap64; omega
  unfold unB
  rw [e1, e2, e3]
  split <;>
  · simp [IntKind.wrap, IntKind.signed, IntKind.bits]
    omega
theorem packN_inj {n n' : Int} {r r' : List Int} (h : SmallN n) (h' : SmallN n') (e : packN n ++ r = packN n' ++ r') : n = n' ∧ r = r' := by
  have b : (2000000000001 : Int) < 128 ^ (10 + 1) := by decide
  have u1 := unB_eq h
  have u2 := unB_eq h'
  obtain ⟨h1, h2⟩ := h
  obtain ⟨h3, h4⟩ := h'
  have k1 : 0 ≤ unB n ∧ unB n ≤ 2000000000001 := by rw [u1]; split <;> omega
  have k2 : 0 ≤ unB n' ∧ unB n' ≤ 2000000000001 := by rw [u2]; split <;> omega
  obtain ⟨q1, q2⟩ := packU_inj 10 _ _ r r' k1.1 (Int.lt_of_le_of_lt k1.2 b) k2.1 (Int.lt_of_le_of_lt k2.2 b) e
  refine ⟨?_, q2⟩
  rw [u1, u2] at q1
  split at q1 <;> split at q1 <;> omega
theorem packS_inj : ∀ {l l' : List Int} {r r' : List Int}, (∀ x ∈ l, SmallN x) → (∀ x ∈ l', SmallN x) → l.length = l'.length → packS l ++ r = packS l' ++ r' → l = l' ∧ r = r'
  | [], [], r, r', _, _, _, h => ⟨rfl, by simpa [packS] using h⟩
  | [], _ :: _, _, _, _, _, h, _ => by simp at h
  | _ :: _, [], _, _, _, _, h, _ => by simp at h
  | x :: l, y :: l', r, r', h1, h2, hl, h => by
    simp only [packS, List.flatMap_cons, List.append_assoc] at h
    obtain ⟨q1, q2⟩ := packN_inj (h1 x (by simp)) (h2 y (by simp)) h
    obtain ⟨q3, q4⟩ := packS_inj (l := l) (l' := l') (r := r) (r' := r') (fun z hz => h1 z (by simp [hz])) (fun z hz => h2 z (by simp [hz])) (by simpa using hl) q2
    exact ⟨by rw [q1, q3], q4⟩
def SmallL (l : List Int) : Prop := (∀ x ∈ l, SmallN x) ∧ l.length ≤ 1000000
theorem packL_inj {l l' r r' : List Int} (h : SmallL l) (h' : SmallL l') (e : packL l ++ r = packL l' ++ r') : l = l' ∧ r = r' := by
  unfold packL at e
  rw [List.append_assoc, List.append_assoc] at e
  obtain ⟨q1, q2⟩ := packN_inj ⟨by omega, by have := h.2; omega⟩ ⟨by omega, by have := h'.2; omega⟩ e
  exact packS_inj h.1 h'.1 (by omega) q2
theorem packLs_inj : ∀ {l l' : List (List Int)}, (∀ x ∈ l, SmallL x) → (∀ x ∈ l', SmallL x) → l.length = l'.length → packLs l = packLs l' → l = l'
  | [], [], _, _, _, _ => rfl
  | [], _ :: _, _, _, h, _ => by simp at h
  | _ :: _, [], _, _, h, _ => by simp at h
  | x :: l, y :: l', h1, h2, hl, h => by
    simp only [packLs, List.flatMap_cons] at h
    obtain ⟨q1, q2⟩ := packL_inj (h1 x (by simp)) (h2 y (by simp)) h
    have q3 := packLs_inj (l := l) (l' := l') (fun z hz => h1 z (by simp [hz])) (fun z hz => h2 z (by simp [hz])) (by simpa using hl) q2
    rw [q1, q3]
def SmallM (m : LModel) : Prop := (∀ x ∈ [m.kind, m.vocab, m.width, m.top], SmallN x) ∧ ∀ x ∈ listsM m, SmallL x
theorem mbytes_inj {a b : LModel} (ha : SmallM a) (hb : SmallM b) (h : mbytes a = mbytes b) : a = b := by
  unfold mbytes at h
  obtain ⟨q1, q2⟩ := packS_inj ha.1 hb.1 rfl h
  have q3 := packLs_inj ha.2 hb.2 rfl q2
  cases a; cases b
  simp only [listsM, List.cons.injEq, and_true] at q1 q3
  simp_all
def eqM (a b : LModel) : Bool := (a.kind == b.kind && a.vocab == b.vocab && a.width == b.width && a.top == b.top) && eqL (eqL iEq) (listsM a) (listsM b)
theorem eqM_iff (a b : LModel) : eqM a b = true ↔ a = b := by
  unfold eqM
  rw [Bool.and_eq_true, eqL_iff (fun x y => eqL_iff iEq_iff)]
  simp only [Bool.and_eq_true, beq_iff_eq]
  constructor
  · rintro ⟨⟨⟨⟨h1, h2⟩, h3⟩, h4⟩, h5⟩
    cases a; cases b
    simp only [listsM, List.cons.injEq, and_true] at h5
    simp_all
  · rintro rfl
    exact ⟨⟨⟨⟨rfl, rfl⟩, rfl⟩, rfl⟩, rfl⟩
theorem eqM_bytes {a b : LModel} (ha : SmallM a) (hb : SmallM b) : eqL iEq (mbytes a) (mbytes b) = eqM a b := by
  rw [Bool.eq_iff_iff, eqL_iff iEq_iff, eqM_iff]
  exact ⟨mbytes_inj ha hb, fun h => by rw [h]⟩
end Go.Proofs.YtkcdgaijklhnaaaGreatDoor
namespace Go.Proofs.YtkcdgaijklhnaaaGreatDoor
open Go.RowKit
end Go.Proofs.YtkcdgaijklhnaaaGreatDoor
