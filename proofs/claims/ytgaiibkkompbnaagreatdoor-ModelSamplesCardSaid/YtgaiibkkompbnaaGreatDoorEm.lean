/-
  Reckoning closed code over named blocks: regions that draw their order and end in stores to cells that they read.
-/
import Derived.Test.YtgaiibkkompbnaaGreatDoorEj
namespace Go.Proofs.YtgaiibkkompbnaaGreatDoor
open Go.RowKit

def tailLen : List Oper → Nat
  | [] => 0
  | o :: l => match o.op with
    | .store .. => Nat.succ (tailLen l)
    | _ => 0
def xHead (P : Program) (tbl : Tbl) (call : CallX) (ops : Array Oper) (st0 : St) : Nat → Array Bool → List Nat → Fr → St → Option (List (Nat × Bool) × Fr × St × List Nat)
  | 0, _, R, fr, st => some ([], fr, st, R)
  | n + 1, listed, R, fr, st => match Region.ready .any ops listed with
    | [] => none
    | r :: rs => match pickX P tbl st0 fr ops listed (r :: rs) with
      | some (i, o, v, b) => match fr.put st.nx o.dst v with
        | some fr' => match xHead P tbl call ops st0 n (listed.setIfInBounds i true) (addR b R) fr' st with
          | some (l, fr'', st', R') => some ((i, true) :: l, fr'', st', R')
          | none => none
        | none => none
      | none => match rs with
        | [] => match ops[r]? with
          | some o => cond (Region.wanted o (yieldX ops fr)) (match xOp P tbl call fr st o with
            | some (fr', st') => match xHead P tbl call ops st0 n (listed.setIfInBounds r true) R fr' st' with
              | some (l, fr'', st'', R') => some ((r, false) :: l, fr'', st'', R')
              | none => none
            | none => none) none
          | none => none
        | _ => none
section
variable {P : Program} {tbl : Tbl} {B : Nat} {w0 : World} {E : Env} {st st' : St} {w : World} {fr fr' : Fr} {a : Act} {v : AV} {call : CallX} {Q : Exit → Act → World → Prop}
theorem xHead_mono (hc : CallWr call) {ops : Array Oper} {st0 : St} {Rf : List Nat} : ∀ (n : Nat) (listed : Array Bool) (R : List Nat) (fr : Fr) (st : St) (l : List (Nat × Bool)), xHead P tbl call ops st0 n listed R fr st = some (l, fr', st', Rf) →
    (∀ b, b ∈ st.wr → b ∈ st'.wr) ∧ ∀ b, b ∈ R → b ∈ Rf
  | 0, listed, R, fr, st, l, h => by cases h; exact ⟨fun _ h => h, fun _ h => h⟩
  | n + 1, listed, R, fr, st, l, h => by
    simp only [xHead] at h
    split at h
    · cases h
    · split at h
      · split at h
        · split at h
          · rename_i hx
            cases h
            obtain ⟨h1, h2⟩ := xHead_mono hc n _ _ _ _ _ hx
            exact ⟨h1, fun b hb => h2 b (mem_addR hb)⟩
          · cases h
        · cases h
      · split at h
        · split at h
          · have h1 := (cond_some h).2
            split at h1
            · rename_i hx
              split at h1
              · rename_i hy
                cases h1
                obtain ⟨h2, h3⟩ := xHead_mono hc n _ _ _ _ _ hy
                exact ⟨fun b hb => h2 b (xOp_wr hc hx hb), h3⟩
              · cases h1
            · cases h1
          · cases h
        · cases h
theorem xHead_ok (ht : TblOk tbl B w0) (hc : CallOk P B w0 call) (hcw : CallWr call) {ops : Array Oper} {E0 : Env} {st0 : St} (h0 : ∀ b t k cs, st0.bl.get b = some (.row t k cs) → b < st0.nx ∧ cs.all (Leaf.below st0.nx) = true)
    {Rf : List Nat} (hRf : ∀ b, b ∈ Rf → b ∉ st'.wr) (hQ : ∀ c a w, ¬ Q (.panic c) a w) {T : Act → World → Prop} :
    ∀ (n : Nat) (listed : Array Bool) (R : List Nat) (fr : Fr) (st : St) (l : List (Nat × Bool)) (E : Env) (a : Act) (w : World), Rep B w0 E st w → FrOk E st.nx fr a → Ext E0 st0 E st → xHead P tbl call ops st0 n listed R fr st = some (l, fr', st', Rf) →
      (∀ E' a' w', Rep B w0 E' st' w' → Ext E0 st0 E' st' → FrOk E' st'.nx fr' a' → T a' w') → wpSteps P ops Q (Held tbl E0 st0 Rf) T l a w
  | 0, listed, R, fr, st, l, E, a, w, h, hf, hx, hv, k => by cases hv; exact k E a w h hx hf
  | n + 1, listed, R, fr, st, l, E, a, w, h, hf, hx, hv, k => by
    simp only [xHead] at hv
    split at hv
    · cases hv
    · rename_i r rs hr
      split at hv
      · rename_i i o v b hp
        obtain ⟨p1, p2, p3, p4⟩ := pickX_ok _ hp
        split at hv
        · rename_i fr1 hput
          split at hv
          · rename_i l1 f1 s1 R1 hy
            cases hv
            have hm' := xHead_mono hcw n _ _ _ _ _ hy
            refine ⟨o, v.conc E, p2, ?_, fun c a w hq => absurd hq (hQ c _ w), xHead_ok ht hc hcw h0 hRf hQ n _ _ fr1 st l1 E _ w h (put_ok hf hput) hx hy k⟩
            rcases p4 with ⟨q1, q2⟩ | ⟨q1, q2, q3⟩
            · refine Or.inl ⟨by rw [yieldX_ok hf ops]; exact q1, quietX_ok hf hx.env (fun b t k cs hb => (h0 b t k cs hb).2) q2 fun c hc => hm'.2 c ?_⟩
              rw [hc]; exact (mem_addW _ _ _).2 (Or.inl rfl)
            · refine Or.inr ⟨by rw [yieldX_ok hf ops]; exact q1, by rw [q2]; rfl⟩
          · cases hv
        · cases hv
      · split at hv
        · split at hv
          · rename_i o ho
            obtain ⟨hw, hv⟩ := cond_some hv
            split at hv
            · rename_i fr1 st1 hx1
              split at hv
              · rename_i l1 f1 s1 R1 hy
                cases hv
                have hm' := xHead_mono hcw n _ _ _ _ _ hy
                show wpOp P ops Q r _ a w
                unfold wpOp
                simp only [ho]
                rw [yieldX_ok hf ops, if_pos hw]
                refine Or.inl (xOp_ok ht hc h hf hx1 fun E' a' w' k1 k2 k3 => ⟨?_, xHead_ok ht hc hcw h0 hRf hQ n _ _ fr1 st1 l1 E' a' w' k1 k3 (hx.trans k2) hy k⟩)
                exact k1.held ht (hx.trans k2) h0 fun b hb hw => hRf b hb (hm'.1 b hw)
              · cases hv
            · cases hv
          · cases hv
        · cases hv
end
end Go.Proofs.YtgaiibkkompbnaaGreatDoor
