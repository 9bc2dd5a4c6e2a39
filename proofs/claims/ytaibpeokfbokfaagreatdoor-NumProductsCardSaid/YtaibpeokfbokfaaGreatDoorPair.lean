/-
  Two numbers of the reference in two blocks.
-/
import Derived.Test.YtaibpeokfbokfaaGreatDoorVal
namespace Go.Proofs.YtaibpeokfbokfaaGreatDoor
open Go.RowKit Go.Shelf

/-- two numbers of the reference lie in the blocks p, p + 1 -/
def Two (N1 D1 N2 D2 : List UInt8) (f : Int) (p : Nat) (wx : World) : Prop :=
  ∃ (g1 g2 : Bool) (A1 A2 A3 A4 : Option Addr) (n1 k1 n2 k2 n3 k3 n4 k4 m1 d1 m2 d2 : Nat), Blk wx p 33 #[.bool g1, .slice A1 n1 k1, .slice A2 n2 k2] ∧ Blk wx (p + 1) 33 #[.bool g2, .slice A3 n3 k3, .slice A4 n4 k4] ∧
    Pt wx (.slice A1 n1 k1) m1 ∧ Pt wx (.slice A2 n2 k2) d1 ∧ Pt wx (.slice A3 n3 k3) m2 ∧ Pt wx (.slice A4 n4 k4) d2 ∧
    (f = 0 → g1 = negNum N1 ∧ m1 = pN N1 ∧ d1 = Mth.dv D1 ∧ g2 = negNum N2 ∧ m2 = pN N2 ∧ d2 = Mth.dv D2) ∧
    ((Mth.dg 10000 m1).length ≤ 1000000 ∧ (Mth.dg 10000 d1).length ≤ 1000000 ∧ (Mth.dg 10000 m2).length ≤ 1000000 ∧ (Mth.dg 10000 d2).length ≤ 1000000 ∧ 0 < d1 * d2)
theorem Blk.far {w : World} {g g' i : Nat} {t : TypeId} {cs : Array Value} (h : Blk w g t cs) (hne : g ≠ g') (u : Value) : Blk (w.setCell ⟨g', i, none⟩ u) g t cs := (Below.heap_setCell w ⟨g', i, none⟩ u g hne).trans h
theorem two_set {N1 D1 N2 D2 : List UInt8} {f : Int} {p : Nat} {w : World} {b0 b1 g1 g2 : Bool} {B1 B2 B3 B4 A1 A2 A3 A4 : Option Addr} {a1 c1 a2 c2 a3 c3 a4 c4 n1 k1 n2 k2 n3 k3 n4 k4 m1 d1 m2 d2 : Nat}
    (hp : Blk w p 33 #[.bool b0, .slice B1 a1 c1, .slice B2 a2 c2]) (hq : Blk w (p + 1) 33 #[.bool b1, .slice B3 a3 c3, .slice B4 a4 c4])
    (h1 : Pt w (.slice A1 n1 k1) m1) (h2 : Pt w (.slice A2 n2 k2) d1) (h3 : Pt w (.slice A3 n3 k3) m2) (h4 : Pt w (.slice A4 n4 k4) d2)
    (hv : f = 0 → g1 = negNum N1 ∧ m1 = pN N1 ∧ d1 = Mth.dv D1 ∧ g2 = negNum N2 ∧ m2 = pN N2 ∧ d2 = Mth.dv D2)
    (hl : (Mth.dg 10000 m1).length ≤ 1000000 ∧ (Mth.dg 10000 d1).length ≤ 1000000 ∧ (Mth.dg 10000 m2).length ≤ 1000000 ∧ (Mth.dg 10000 d2).length ≤ 1000000 ∧ 0 < d1 * d2) :
    Two N1 D1 N2 D2 f p ((((((w.setCell ⟨p, 0, none⟩ (.bool g1)).setCell ⟨p, 1, none⟩ (.slice A1 n1 k1)).setCell ⟨p, 2, none⟩ (.slice A2 n2 k2)).setCell ⟨p + 1, 0, none⟩ (.bool g2)).setCell ⟨p + 1, 1, none⟩ (.slice A3 n3 k3)).setCell ⟨p + 1, 2, none⟩ (.slice A4 n4 k4)) := by
  have hq3 := ((hq.far (g' := p) (i := 0) (by omega) (.bool g1)).far (g' := p) (i := 1) (by omega) (.slice A1 n1 k1)).far (g' := p) (i := 2) (by omega) (.slice A2 n2 k2)
  have hp3 : Blk (((w.setCell ⟨p, 0, none⟩ (.bool g1)).setCell ⟨p, 1, none⟩ (.slice A1 n1 k1)).setCell ⟨p, 2, none⟩ (.slice A2 n2 k2)) p 33 #[.bool g1, .slice A1 n1 k1, .slice A2 n2 k2] := ((hp.set 0 (.bool g1)).set 1 (.slice A1 n1 k1)).set 2 (.slice A2 n2 k2)
  have s : ∀ {v : Value} {n : Nat}, Pt w v n → Pt ((((((w.setCell ⟨p, 0, none⟩ (.bool g1)).setCell ⟨p, 1, none⟩ (.slice A1 n1 k1)).setCell ⟨p, 2, none⟩ (.slice A2 n2 k2)).setCell ⟨p + 1, 0, none⟩ (.bool g2)).setCell ⟨p + 1, 1, none⟩ (.slice A3 n3 k3)).setCell ⟨p + 1, 2, none⟩ (.slice A4 n4 k4)) v n := fun h =>
    pt_store3 (pt_store3 h hp (notI_bool _) (notI_slice _ _ _) (notI_slice _ _ _) (notI_bool _) (notI_slice _ _ _)) hq3 (notI_bool _) (notI_slice _ _ _) (notI_slice _ _ _) (notI_bool _) (notI_slice _ _ _)
  exact ⟨g1, g2, A1, A2, A3, A4, n1, k1, n2, k2, n3, k3, n4, k4, m1, d1, m2, d2,
    ((hp3.far (g' := p + 1) (i := 0) (by omega) (.bool g2)).far (g' := p + 1) (i := 1) (by omega) (.slice A3 n3 k3)).far (g' := p + 1) (i := 2) (by omega) (.slice A4 n4 k4),
    ((hq3.set 0 (.bool g2)).set 1 (.slice A3 n3 k3)).set 2 (.slice A4 n4 k4), s h1, s h2, s h3, s h4, hv, hl⟩

end Go.Proofs.YtaibpeokfbokfaaGreatDoor
