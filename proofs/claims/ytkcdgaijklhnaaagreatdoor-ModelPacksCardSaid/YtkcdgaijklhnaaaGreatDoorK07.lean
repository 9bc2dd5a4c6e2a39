/-
  The value machine: functions with deferred calls.
  Functions as the value machine turns them.
  Small functions and the stream of the generator, as the value machine turns them and run by it.
  Functions as the value machine turns them.
  Functions as the value machine turns them: models that are spoilt.
  models.Vocabulary, models.Length, weftref1.EntryLength for every model.
  Functions as the value machine turns them.
  Functions as the value machine turns them.
  Functions as the value machine turns them.
  No function of the translation starts a goroutine.
-/
import Derived.Test.YtkcdgaijklhnaaaGreatDoorK04
import Derived.Recover
import Derived.Test.YtkcdgaijklhnaaaGreatDoorK06
import Derived.Test.YtkcdgaijklhnaaaGreatDoorCards
import Derived.WalkKit
import Derived.KernelRfl
namespace Go.Proofs.YtkcdgaijklhnaaaGreatDoor.Vm
open Go.RowKit
def DefV (P : Program) (T : Tbl) (M : Nat → Bool) (g : Nat) (caps : List V) (u : FrameMode) (st : St) (KD : FrameMode → St → Prop) : Prop :=
  entersX P g = true ∧ ∀ B w0 E w (us : List Value), Rep B w0 E st w → TblOk T B w0 E w → Pw E st w caps us → CallsD P g us.toArray u w fun e u' w' => ∃ v E' st', e = .returned v ∧ Rep B w0 E' st' w' ∧ Stp (fun b _ => M b) E st w E' st' w' ∧ KD u' st'
def LvV (P : Program) (T : Tbl) (M : Nat → Bool) (res : List RV) (K : V → St → Prop) (Kp : List PanicEntry → St → Prop) (fr : Fr) : List (Nat × List V) → FrameMode → St → Prop
  | [], .returning, st => ∃ vs, resVs fr st res = some vs ∧ K (tupV vs) st
  | [], .panicking c, st => Kp c st
  | [], .run, _ => False
  | d :: ds, u, st => u ≠ .run ∧ DefV P T M d.1 d.2 u st fun u' st' => LvV P T M res K Kp fr ds (settle u') st'
def FinD (P : Program) (T : Tbl) (M : Nat → Bool) (res : List RV) (K : V → St → Prop) (Kp : List PanicEntry → St → Prop) : Post
  | .normal, fr, st => LvV P T M res K Kp fr fr.df .returning st
  | .ret, fr, st => LvV P T M res K Kp fr fr.df .returning st
  | .panic c, fr, st => LvV P T M res K Kp fr fr.df (.panicking c) st
  | _, _, _ => False
section
variable {P : Program} {T : Tbl} {M : Nat → Bool} {B : Nat} {w0 : World} {E : Env} {st st' : St} {w w' : World} {nt : Nat} {fr : Fr} {a : Act} {K : V → St → Prop} {Kp : List PanicEntry → St → Prop}
theorem resVs_g (fr : Fr) (st : St) : ∀ (l : List RV), resVs ⟨fr.g, []⟩ st l = resVs fr st l
  | [] => rfl
  | r :: l => by
    unfold resVs
    rw [resVs_g fr st l]
    rfl
theorem leaves_ok {fn : Func} {res : List RV} (hr : compVs P fn.results.toList = some res) {M0 : Nat → Bool} {Eb : Env} {sb : St} {wb : World} (hM : ∀ b, b < sb.length → M b = true → M0 b = true) :
    ∀ (ds : List (Nat × List V)) (xs : List Deferred) (u : FrameMode) (st : St) (E : Env) (w : World), TblOk T B w0 E w → Rep B w0 E st w → Stp (fun b _ => M b) Eb sb wb E st w → FrOk nt E st w ⟨fr.g, []⟩ ⟨a.tmps, []⟩ → xs.length = ds.length → (∀ (i : Nat) (d : Nat × List V) (x : Deferred), ds[i]? = some d → xs[i]? = some x → DefOk E st w d x) →
      LvV P T M res K Kp fr ds u st → Leaves P fn a.tmps (EndOk P M0 B w0 Eb sb wb K Kp) xs u w
  | [], [], .returning, st, E, w, _, h, hs, hf, _, _, ⟨vs, g1, g2⟩ => by
    rw [← resVs_g] at g1
    obtain ⟨u, q1, q2⟩ := results_ok (P := P) h hf hr g1
    exact ⟨u, q2, E, st, _, h, hs.mono (fun b _ => hM b), q1, g2⟩
  | [], [], .panicking c, st, E, w, _, h, hs, _, _, _, hv => ⟨E, st, h, hs.mono (fun b _ => hM b), hv⟩
  | [], [], .run, _, _, _, _, _, _, _, _, _, hv => hv.elim
  | [], _ :: _, _, _, _, _, _, _, _, _, hl, _, _ => by cases hl
  | _ :: _, [], _, _, _, _, _, _, _, _, hl, _, _ => by cases hl
  | d :: ds, x :: xs, u, st, E, w, hT, h, hs, hf, hl, hd, ⟨hu, hen, hv⟩ => by
    obtain ⟨us, rfl, h1, h2⟩ := hd 0 d x rfl rfl
    refine leaves_cons hu (f := d.1) (args := us.toArray) (by simp [invoke, entersX_ok hen]) ?_
    refine (hv B w0 E w us h hT ⟨h1, h2⟩).mono fun e u' w' ⟨v, E', st', he, g1, g2, g3⟩ => ?_
    subst he
    exact leaves_ok hr hM ds xs (settle u') st' E' w' (hT.mono g2.toExt) g1 (hs.trans g2) (hf.mono g2.toExt) (by simpa using hl) (fun i d x hi hx => by
      obtain ⟨us, q1, q2, q3⟩ := hd (i + 1) d x (by simpa using hi) (by simpa using hx)
      exact ⟨us, q1, q2, fun i y u hy hu => (q3 i y u hy hu).mono g2.toExt⟩) g3
theorem fun_okD (hm : P.follows .mixedOrders = true) {f : Nat} {F : FnM} (hc : compF P f = some F) {args : List V} (hn : args.length ≤ F.nt) {K : V → St → Prop} {Kp : List PanicEntry → St → Prop} (hb : wpM P T (liftM (upM st.length M)) F.code (FinD P T (upM st.length M) F.res K Kp) (fr0 args) st) : CallV P T M f args st K Kp := by
  have hup : ∀ b, b < st.length → upM st.length M b = true → M b = true := fun b hb h => by
    simp only [upM, Bool.or_eq_true] at h
    rcases h with h | h
    · have := Nat.le_of_ble_eq_true h; omega
    · exact h
  unfold compF at hc
  split at hc
  · rename_i fn hfn
    split at hc
    · rename_i c hbody
      split at hc
      · rename_i m r hm' hr
        cases hnm : (!(fn.name == "runtime.NumGoroutine")) with
        | false => rw [hnm] at hc; cases hc
        | true =>
          rw [hnm] at hc
          cases hc
          refine ⟨by simp only [entersX, hfn, hnm, hbody]; rfl, fun B w0 E w us hR hT hu => ?_⟩
          refine calls_of_wp_defers hfn hbody (wp_mono (code_ok (M := liftM (upM st.length M)) hm c m hm' _ (fr0 args) st E _ w hT hR (fr0_ok hu hn) hb) fun e a' w' hq => ?_)
          obtain ⟨x, E', st', fr', rfl, h1, h2, h3, h5⟩ := hq
          have key : ∀ u, LvV P T (upM st.length M) r K Kp fr' fr'.df u st' → Leaves P fn a'.tmps (EndOk P M B w0 E st w K Kp) a'.defers u w' := fun u hv =>
            leaves_ok (nt := fn.ntmps) hr (fun b hb h => hup b hb h) fr'.df a'.defers u st' E' w' (hT.mono h2.toExt) h1 h2 ⟨h3.size, h3.tm, rfl, fun i d x hd hx => by simp at hd⟩ h3.dl h3.df hv
          cases x with
          | normal => exact key _ h5
          | ret => exact key _ h5
          | panic c => exact key _ h5
          | exit i => exact h5.elim
          | goto i => exact h5.elim
      · cases hc
    · cases hc
  · cases hc
def recX (P : Program) (g : Nat) : Option Nat :=
  match P.funcs[g]? with
  | some fn => match fn.body with
    | some (.seq (.region _ ops false) _) => match ops.toList with
      | [o] => match o.op, o.guard with
        | .call { callee := .builtin .recover, .. }, none => o.dst
        | _, _ => none
      | _ => none
    | _ => none
  | none => none
def recV : FrameMode → Value × FrameMode
  | .panicking ({ v, recovered := false, goexit := false } :: older) => (v, .panicking ({ v, recovered := true } :: older))
  | u => (.nilIface, u)
def FinR (res : List RV) (u : FrameMode) (KD : FrameMode → St → Prop) : Post
  | .normal, fr, st => fr.df = [] ∧ (∃ vs, resVs fr st res = some vs) ∧ KD u st
  | .ret, fr, st => fr.df = [] ∧ (∃ vs, resVs fr st res = some vs) ∧ KD u st
  | _, _, _ => False
theorem recoverD_of (c : Frame) (cs : List Frame) : (recoverD (c :: cs) = some ((recV c.mode).1, { c with mode := (recV c.mode).2 } :: cs)) ∨ (recoverD (c :: cs) = none ∧ recV c.mode = (.nilIface, c.mode)) := by
  simp only [recoverD]
  cases hm : c.mode with
  | run => exact Or.inr ⟨rfl, rfl⟩
  | returning => exact Or.inr ⟨rfl, rfl⟩
  | panicking l =>
    match l with
    | [] => exact Or.inr ⟨rfl, rfl⟩
    | ⟨v, false, false⟩ :: older => exact Or.inl rfl
    | ⟨v, true, _⟩ :: older => exact Or.inr ⟨rfl, rfl⟩
    | ⟨v, false, true⟩ :: older => exact Or.inr ⟨rfl, rfl⟩
theorem defV_rec (hm : P.follows .mixedOrders = true) {g d : Nat} {F : FnM} (hc : compF P g = some F) (hrx : recX P g = some d) (hd : d < F.nt) {caps : List V} (hn : caps.length ≤ F.nt) {u : FrameMode} {KD : FrameMode → St → Prop}
    (hb : wpM P T (liftM (upM st.length M)) F.code.r (FinR F.res (recV u).2 KD) ((fr0 caps).put (some d) (.val (recV u).1)) st) : DefV P T M g caps u st KD := by
  have hup : ∀ b, b < st.length → upM st.length M b = true → M b = true := fun b hb h => by
    simp only [upM, Bool.or_eq_true] at h
    rcases h with h | h
    · have := Nat.le_of_ble_eq_true h; omega
    · exact h
  unfold compF at hc
  unfold recX at hrx
  split at hc
  · rename_i fn hfn
    rw [hfn] at hrx
    simp only at hrx
    split at hc
    · rename_i c hbody
      rw [hbody] at hrx
      split at hc
      · rename_i m r hm' hr
        cases hnm : (!(fn.name == "runtime.NumGoroutine")) with
        | false => rw [hnm] at hc; cases hc
        | true =>
          rw [hnm] at hc
          cases hc
          refine ⟨by simp only [entersX, hfn, hnm, hbody]; rfl, fun B w0 E w us hR hT hu => ?_⟩
          split at hrx
          · rename_i c1 rid ops rest hce
            cases hce
            split at hrx
            · rename_i o hops
              split at hrx
              · rename_i args tys hop hgd
                simp only [compC] at hm'
                split at hm'
                · rename_i mx my hx hy
                  cases hm'
                  refine callsD_of_wpS hfn hbody fun c0 cs hu0 => ?_
                  refine wpS_seq (wpS_region ?_)
                  have hsz : ops = #[o] := by rw [← Array.toArray_toList (xs := ops), hops]
                  subst hsz
                  have hfr := fr0_ok (nt := fn.ntmps) (st := st) (E := E) (w := w) hu hn
                  have hput := hfr.put (d := some d) (fun x hx => by cases hx; exact hd) (v := .val (recV u).1) (u := (recV u).1) (.pure (.val _))
                  have hcode := code_ok (M := liftM (upM st.length M)) hm rest my hy _ _ st E _ w hT hR hput hb
                  have hfin : ∀ e a' w', PostR fn.ntmps B w0 (liftM (upM st.length M)) E st w (FinR r (recV u).2 KD) e a' w' → bodyPostS P fn c0 cs (fun e u' w' => ∃ v E' st', e = .returned v ∧ Rep B w0 E' st' w' ∧ Stp (fun b _ => M b) E st w E' st' w' ∧ KD u' st') e a' ({ c0 with mode := (recV u).2 } :: cs) w' := fun e a' w' hq => by
                    obtain ⟨x, E', st', fr', rfl, h1, h2, h3, h5⟩ := hq
                    have hdef : fr'.df = [] → a'.defers = [] := fun e => by have := h3.dl; rw [e] at this; exact List.eq_nil_of_length_eq_zero this
                    have key : (fr'.df = [] ∧ (∃ vs, resVs fr' st' r = some vs) ∧ KD (recV u).2 st') → a'.defers = [] ∧ ∃ u', ({ c0 with mode := (recV u).2 } :: cs : List Frame) = { c0 with mode := u' } :: cs ∧ ∃ v, (results fn a'.tmps).run P w' = .ok v w' ∧ ∃ v' E' st', Ending.returned v = .returned v' ∧ Rep B w0 E' st' w' ∧ Stp (fun b _ => M b) E st w E' st' w' ∧ KD u' st' := fun ⟨g1, ⟨vs, g2⟩, g3⟩ => by
                      obtain ⟨u0, q1, q2⟩ := results_ok (P := P) h1 h3 hr g2
                      exact ⟨hdef g1, _, rfl, u0, q2, u0, E', st', rfl, h1, h2.mono (fun b _ => hup b), g3⟩
                    cases x with
                    | normal => exact key h5
                    | ret => exact key h5
                    | exit i => exact h5.elim
                    | goto i => exact h5.elim
                    | panic i => exact h5.elim
                  have hex : ∀ (a : Act) (w : World), (execOp a.eval o).run P w = .ok .recover w := fun a w => by
                    obtain ⟨dst, op, type, pos, after, guard⟩ := o
                    simp only at hop
                    subst hop
                    rfl
                  have hw : Region.wanted o (yielded #[o] (us.toArray ++ Array.replicate (fn.ntmps - us.toArray.size) undef)) = true := by
                    unfold Region.wanted
                    rw [hgd]
                  have hrange : List.range (#[o] : Array Oper).size = [0] := rfl
                  rw [hrange]
                  unfold wpOpsS
                  have h0 : (#[o] : Array Oper)[0]? = some o := rfl
                  simp only [h0, hw, if_true, hex]
                  have hrd := recoverD_of c0 cs
                  rw [hu0] at hrd
                  rcases hrd with hrd | ⟨hrd, hrv⟩
                  · rw [hrd]
                    simp only
                    unfold wpOpsS
                    rw [hrx]
                    exact wpS_of_wp (wp_mono hcode fun e a' w' hq => hfin e a' w' hq)
                  · rw [hrd]
                    simp only
                    unfold wpOpsS
                    rw [hrx]
                    rw [hrv] at hcode hfin
                    have hc0 : ({ c0 with mode := u } : Frame) = c0 := by subst hu0; rfl
                    rw [hc0] at hfin
                    exact wpS_of_wp (wp_mono hcode fun e a' w' hq => hfin e a' w' hq)
                · cases hm'
              · cases hrx
            · cases hrx
          · cases hrx
      · cases hc
    · cases hc
  · cases hc
@[simp ↓] theorem finD_n (res : List RV) : FinD P T M res K Kp .normal fr st = LvV P T M res K Kp fr fr.df .returning st := nr rfl
@[simp ↓] theorem finD_r (res : List RV) : FinD P T M res K Kp .ret fr st = LvV P T M res K Kp fr fr.df .returning st := nr rfl
@[simp ↓] theorem finD_p (res : List RV) (c : List PanicEntry) : FinD P T M res K Kp (.panic c) fr st = LvV P T M res K Kp fr fr.df (.panicking c) st := nr rfl
theorem lv_one {res : List RV} {d : Nat × List V} {u : FrameMode} (hu : u ≠ .run) (h : DefV P T M d.1 d.2 u st fun u' st' => settle u' = .returning ∧ obind (resVs fr st' res) fun vs => K (tupV vs) st') : LvV P T M res K Kp fr [d] u st := by
  refine ⟨hu, h.1, fun B w0 E w us h1 h2 h3 => (h.2 B w0 E w us h1 h2 h3).mono fun e u' w' ⟨v, E', st', q1, q2, q3, q4, vs, q5, q6⟩ => ⟨v, E', st', q1, q2, q3, ?_⟩⟩
  show LvV P T M res K Kp fr [] (settle u') st'
  rw [q4]
  exact ⟨vs, q5, q6⟩
theorem DefV.mono {g : Nat} {caps : List V} {u : FrameMode} {KD KD' : FrameMode → St → Prop} (h : DefV P T M g caps u st KD) (hK : ∀ u' st', KD u' st' → KD' u' st') : DefV P T M g caps u st KD' :=
  ⟨h.1, fun B w0 E w us h1 h2 h3 => (h.2 B w0 E w us h1 h2 h3).mono fun _e _u' _w' ⟨v, E', st', q1, q2, q3, q4⟩ => ⟨v, E', st', q1, q2, q3, hK _ _ q4⟩⟩
@[simp ↓] theorem finR_n (res : List RV) (u : FrameMode) (KD : FrameMode → St → Prop) : FinR res u KD .normal fr st = (fr.df = [] ∧ (∃ vs, resVs fr st res = some vs) ∧ KD u st) := nr rfl
@[simp ↓] theorem finR_r (res : List RV) (u : FrameMode) (KD : FrameMode → St → Prop) : FinR res u KD .ret fr st = (fr.df = [] ∧ (∃ vs, resVs fr st res = some vs) ∧ KD u st) := nr rfl
end
end Go.Proofs.YtkcdgaijklhnaaaGreatDoor.Vm
namespace Go.Proofs.YtkcdgaijklhnaaaGreatDoor.Vm
open Go.RowKit
def F_clb : FnM := FnM.mk 8 (.seq (.lst [.mk 0 false (some 2) none (.mv (.c (.lst true [])))]) (.seq (.seq (.lst [.mk 0 false (some 3) none (.mv (.t 0)), .mk 1 false (some 4) none (.snil false (.t 3))]) (.cond (.t 4) (.seq (.lst [.mk 0 false (some 2) none (.mv (.c (.lst true [])))]) .ret) .skip)) (.seq (.lst [.mk 0 false (some 5) none .emp, .mk 1 false (some 6) none (.mv (.t 0)), .mk 2 false (some 7) none (.app 5 1 1 (.t 5) (.t 6)), .mk 3 false (some 2) none (.mv (.t 7))]) .ret))) [.t 2]
theorem c_clb : compF Tryz.prog 97 = some F_clb := by kernel_rfl
def F_equalB : FnM := FnM.mk 26 (.seq (.lst [.mk 0 false (some 4) none (.mv (.c (.val (.bool false))))]) (.seq (.seq (.lst [.mk 0 false (some 6) none (.mv (.t 0)), .mk 1 false (some 7) none (.len (.t 6)), .mk 2 false (some 8) none (.mv (.t 1)), .mk 3 false (some 9) none (.len (.t 8)), .mk 4 false (some 10) none (.bin .neq (.t 7) (.t 9))]) (.cond (.t 10) (.seq (.lst [.mk 0 false (some 4) none (.mv (.c (.val (.bool false))))]) .ret) .skip)) (.seq (.seq (.lst [.mk 0 false (some 11) none (.mv (.t 0)), .mk 1 false (some 12) none (.len (.t 11)), .mk 2 false (some 13) none (.mv (.c (.val (.int .i64 0))))]) (.block 0 (.loop (.seq (.lst [.mk 0 false (some 14) none (.bin .lss (.t 13) (.t 12))]) (.seq (.cond (.t 14) .skip (.exit 0)) (.seq (.block 1 (.seq (.lst [.mk 0 false (some 15) none (.mv (.t 13)), .mk 1 false (some 5) none (.mv (.t 15))]) (.seq (.flat [.mk 0 true (some 16) none (.mv (.t 0)), .mk 1 true (some 17) none (.mv (.t 5)), .mk 2 true (some 18) none (.iadr 1 (.t 16) (.t 17)), .mk 3 true (some 19) none (.load false 1 (.t 18)), .mk 4 true (some 20) none (.mv (.t 1)), .mk 5 true (some 21) none (.mv (.t 5)), .mk 6 true (some 22) none (.iadr 1 (.t 20) (.t 21)), .mk 7 true (some 23) none (.load false 1 (.t 22)), .mk 8 true (some 24) none (.bin .neq (.t 19) (.t 23))]) (.cond (.t 24) (.seq (.lst [.mk 0 false (some 4) none (.mv (.c (.val (.bool false))))]) .ret) .skip)))) (.lst [.mk 0 false (some 25) none (.bin .add (.t 13) (.c (.val (.int .i64 1)))), .mk 1 false (some 13) none (.mv (.t 25))]))))))) (.seq (.lst [.mk 0 false (some 4) none (.mv (.c (.val (.bool true))))]) .ret)))) [.t 4]
theorem c_equalB : compF Tryz.prog 9 = some F_equalB := by kernel_rfl
end Go.Proofs.YtkcdgaijklhnaaaGreatDoor.Vm
namespace Go.Proofs.YtkcdgaijklhnaaaGreatDoor.Vm
open Go.RowKit
end Go.Proofs.YtkcdgaijklhnaaaGreatDoor.Vm
namespace Go.Proofs.YtkcdgaijklhnaaaGreatDoor.Vm
open Go.RowKit
theorem hmix : Tryz.prog.follows .mixedOrders = true := by kernel_rfl
theorem le_of {a b : Nat} (h : Nat.ble a b = true) : a ≤ b := Nat.le_of_ble_eq_true h
def ints (l : List Int) : List V := l.map I
@[simp] theorem ints_len (l : List Int) : (ints l).length = l.length := by simp [ints]
theorem ints_get {l : List Int} {k : Nat} {x : Int} (h : l[k]? = some x) : (ints l)[k]? = some (I x) := by simp [ints, h]
end Go.Proofs.YtkcdgaijklhnaaaGreatDoor.Vm
namespace Go.Proofs.YtkcdgaijklhnaaaGreatDoor.Vm
open Go.RowKit
def F_below : FnM := FnM.mk 16 (.seq (.lst [.mk 0 false (some 4) none (.mv (.c (.val (.int .i64 0))))]) (.seq (.seq (.lst [.mk 0 false (some 5) none (.mv (.t 1)), .mk 1 false (some 6) none (.bin .lss (.t 5) (.c (.val (.int .i64 1))))]) (.cond (.t 6) (.seq (.lst [.mk 0 false (some 4) none (.mv (.c (.val (.int .i64 0))))]) .ret) .skip)) (.seq (.lst [.mk 0 false (some 7) none (.mv (.t 0)), .mk 1 false (some 8) none (.mv (.t 1)), .mk 2 false (some 9) none (.bin .rem (.t 7) (.t 8)), .mk 3 false (some 0) none (.mv (.t 9))]) (.seq (.seq (.lst [.mk 0 false (some 10) none (.mv (.t 0)), .mk 1 false (some 11) none (.bin .lss (.t 10) (.c (.val (.int .i64 0))))]) (.cond (.t 11) (.lst [.mk 0 false (some 12) none (.mv (.t 0)), .mk 1 false (some 13) none (.mv (.t 1)), .mk 2 false (some 14) none (.bin .add (.t 12) (.t 13)), .mk 3 false (some 0) none (.mv (.t 14))]) .skip)) (.seq (.lst [.mk 0 false (some 15) none (.mv (.t 0)), .mk 1 false (some 4) none (.mv (.t 15))]) .ret))))) [.t 4]
theorem c_below : compF Tryz.prog 66 = some F_below := by kernel_rfl
def F_next : FnM := FnM.mk 64 (.seq (.lst [.mk 0 false (some 4) none (.mv (.c (.val (.int .i64 0))))]) (.seq (.lst [.mk 0 false (some 7) none (.mv (.t 0)), .mk 1 false (some 8) none (.nilck (.t 7)), .mk 2 false (some 9) none (.fadr 1 (.t 8)), .mk 3 false (some 10) none (.load false 1 (.t 9)), .mk 4 false (some 11) none (.bin .add (.t 10) (.c (.val (.int .i64 1)))), .mk 5 false (some 12) none (.nilck (.t 7)), .mk 6 false (some 13) none (.fadr 1 (.t 12)), .mk 7 false none none (.store 1 (.t 13) (.t 11))]) (.seq (.seq (.lst [.mk 0 false (some 14) none (.mv (.t 0)), .mk 1 false (some 15) none (.nilck (.t 14)), .mk 2 false (some 16) none (.fadr 0 (.t 15)), .mk 3 false (some 17) none (.load false 1 (.t 16)), .mk 4 false (some 18) none (.len (.t 17)), .mk 5 false (some 19) none (.bin .eql (.t 18) (.c (.val (.int .i64 0))))]) (.cond (.t 19) (.seq (.lst [.mk 0 false (some 20) none (.mv (.t 0)), .mk 1 false (some 21) none (.nilck (.t 20)), .mk 2 false (some 22) none (.fadr 1 (.t 21)), .mk 3 false (some 23) none (.load false 1 (.t 22)), .mk 4 false (some 24) none (.bin .mul (.t 23) (.c (.val (.int .i64 7919)))), .mk 5 false (some 25) none (.mv (.t 1)), .mk 6 false (some 26) none (.call 66 [.t 24, .t 25]), .mk 7 false (some 4) none (.mv (.t 26))]) .ret) .skip)) (.seq (.flat [.mk 0 true (some 27) none (.mv (.t 0)), .mk 1 true (some 28) none (.nilck (.t 27)), .mk 2 true (some 29) none (.fadr 1 (.t 28)), .mk 3 true (some 30) none (.load false 1 (.t 29)), .mk 4 true (some 31) none (.bin .sub (.t 30) (.c (.val (.int .i64 1)))), .mk 5 true (some 32) none (.mv (.t 0)), .mk 6 true (some 33) none (.nilck (.t 32)), .mk 7 true (some 34) none (.fadr 0 (.t 33)), .mk 8 true (some 35) none (.load false 1 (.t 34)), .mk 9 true (some 36) none (.len (.t 35)), .mk 10 true (some 37) none (.bin .rem (.t 31) (.t 36)), .mk 11 true (some 5) none (.mv (.t 37))]) (.seq (.flat [.mk 0 true (some 38) none (.mv (.t 0)), .mk 1 true (some 39) none (.nilck (.t 38)), .mk 2 true (some 40) none (.fadr 1 (.t 39)), .mk 3 true (some 41) none (.load false 1 (.t 40)), .mk 4 true (some 42) none (.bin .sub (.t 41) (.c (.val (.int .i64 1)))), .mk 5 true (some 43) none (.mv (.t 0)), .mk 6 true (some 44) none (.nilck (.t 43)), .mk 7 true (some 45) none (.fadr 0 (.t 44)), .mk 8 true (some 46) none (.load false 1 (.t 45)), .mk 9 true (some 47) none (.len (.t 46)), .mk 10 true (some 48) none (.bin .quo (.t 42) (.t 47)), .mk 11 true (some 6) none (.mv (.t 48))]) (.seq (.lst [.mk 0 false (some 49) none (.mv (.t 0)), .mk 1 false (some 50) none (.nilck (.t 49)), .mk 2 false (some 51) none (.fadr 0 (.t 50)), .mk 3 false (some 52) none (.load false 1 (.t 51)), .mk 4 false (some 53) none (.mv (.t 5)), .mk 5 false (some 54) none (.iadr 1 (.t 52) (.t 53)), .mk 6 false (some 55) none (.load false 1 (.t 54)), .mk 7 false (some 56) none (.call 66 [.t 55, .c (.val (.int .i64 1073741824))]), .mk 8 false (some 57) none (.mv (.t 6)), .mk 9 false (some 58) none (.mv (.t 5)), .mk 10 false (some 59) none (.bin .add (.c (.val (.int .i64 7919))) (.t 58)), .mk 11 false (some 60) none (.bin .mul (.t 57) (.t 59)), .mk 12 false (some 61) none (.bin .add (.t 56) (.t 60)), .mk 13 false (some 62) none (.mv (.t 1)), .mk 14 false (some 63) none (.call 66 [.t 61, .t 62]), .mk 15 false (some 4) none (.mv (.t 63))]) .ret)))))) [.t 4]
theorem c_next : compF Tryz.prog 24 = some F_next := by kernel_rfl
def F_range : FnM := FnM.mk 19 (.seq (.lst [.mk 0 false (some 6) none (.mv (.c (.val (.int .i64 0))))]) (.seq (.seq (.lst [.mk 0 false (some 7) none (.mv (.t 2)), .mk 1 false (some 8) none (.mv (.t 1)), .mk 2 false (some 9) none (.bin .lss (.t 7) (.t 8))]) (.cond (.t 9) (.seq (.lst [.mk 0 false (some 10) none (.mv (.t 1)), .mk 1 false (some 6) none (.mv (.t 10))]) .ret) .skip)) (.seq (.lst [.mk 0 false (some 11) none (.mv (.t 1)), .mk 1 false (some 12) none (.mv (.t 0)), .mk 2 false (some 13) none (.mv (.t 2)), .mk 3 false (some 14) none (.mv (.t 1)), .mk 4 false (some 15) none (.bin .sub (.t 13) (.t 14)), .mk 5 false (some 16) none (.bin .add (.t 15) (.c (.val (.int .i64 1)))), .mk 6 false (some 17) none (.call 24 [.t 12, .t 16]), .mk 7 false (some 18) none (.bin .add (.t 11) (.t 17)), .mk 8 false (some 6) none (.mv (.t 18))]) .ret))) [.t 6]
theorem c_range : compF Tryz.prog 17 = some F_range := by kernel_rfl
def F_flip : FnM := FnM.mk 9 (.seq (.lst [.mk 0 false (some 4) none (.mv (.c (.val (.bool false))))]) (.seq (.lst [.mk 0 false (some 5) none (.mv (.t 0)), .mk 1 false (some 6) none (.mv (.t 1)), .mk 2 false (some 7) none (.call 24 [.t 5, .t 6]), .mk 3 false (some 8) none (.bin .eql (.t 7) (.c (.val (.int .i64 0)))), .mk 4 false (some 4) none (.mv (.t 8))]) .ret)) [.t 4]
theorem c_flip : compF Tryz.prog 11 = some F_flip := by kernel_rfl
def F_pick : FnM := FnM.mk 12 (.seq (.lst [.mk 0 false (some 4) none (.mv (.c (.val (.int .i64 0))))]) (.seq (.lst [.mk 0 false (some 5) none (.mv (.t 1)), .mk 1 false (some 6) none (.mv (.t 0)), .mk 2 false (some 7) none (.mv (.t 1)), .mk 3 false (some 8) none (.len (.t 7)), .mk 4 false (some 9) none (.call 24 [.t 6, .t 8]), .mk 5 false (some 10) none (.iadr 1 (.t 5) (.t 9)), .mk 6 false (some 11) none (.load false 1 (.t 10)), .mk 7 false (some 4) none (.mv (.t 11))]) .ret)) [.t 4]
theorem c_pick : compF Tryz.prog 63 = some F_pick := by kernel_rfl
end Go.Proofs.YtkcdgaijklhnaaaGreatDoor.Vm
namespace Go.Proofs.YtkcdgaijklhnaaaGreatDoor.Vm
open Go.RowKit
def strm (f : Bool) (xs : List Int) (a : Int) : Blk := .row 25 2 [.agg [.lst f (ints xs), I a]]
section
variable {T : Tbl} {M : Nat → Bool} {st : St} {K : V → St → Prop} {Kp : List PanicEntry → St → Prop}
theorem below_v (x n : Int) (_hx : -9223372036854775808 ≤ x ∧ x ≤ 9223372036854775807) (hn : n ≤ 9223372036854775807) (hK : ∀ r, (n < 1 → r = 0) → (1 ≤ n → 0 ≤ r ∧ r < n) → K (I r) st) : CallV Tryz.prog T M 66 [I x, I n] st K Kp := by
  refine fun_ok hmix c_below (le_of rfl) ?_
  by_cases h : n < 1
  · simp [F_below, h]
    exact hK 0 (fun _ => rfl) (by omega)
  · have h0 : n ≠ 0 := by omega
    have hr := Int.tmod_lt_of_pos x (show 0 < n by omega)
    have hr2 : -n < x.tmod n := by
      have := Int.lt_tmod_of_pos x (show 0 < n by omega)
      exact this
    by_cases h2 : x.tmod n < 0
    · simp [F_below, h, h0, h2, w64 (n := x.tmod n + n) (by omega) (by omega)]
      exact hK _ (by omega) (by omega)
    · simp [F_below, h, h0, h2]
      exact hK _ (by omega) (by omega)
set_option maxRecDepth 10000 in
theorem next_v (s : Nat) (f : Bool) (xs : List Int) (a n : Int) (hs : st[s]? = some (strm f xs a)) (hM : M s = true) (hxs : xs.length ≤ 9223372036854775807) (hin : ∀ x ∈ xs, -9223372036854775808 ≤ x ∧ x ≤ 9223372036854775807) (ha : 0 ≤ a ∧ a ≤ 1000000000) (hn : n ≤ 9223372036854775807)
    (hK : ∀ r, (n < 1 → r = 0) → (1 ≤ n → 0 ≤ r ∧ r < n) → K (I r) (st.set s (strm f xs (a + 1)))) : CallV Tryz.prog T M 24 [.ptr s 1 0 0, I n] st K Kp := by
  have hg : ∀ x, (st.set s x)[s]? = some x := fun x => List.getElem?_set_self (List.getElem?_eq_some_iff.1 hs).1
  have hM' := upM_of (n := st.length) hM
  refine fun_ok hmix c_next (le_of rfl) ?_
  by_cases h : xs.length = 0
  · simp [F_next, hs, strm, hM', w64 (n := a + 1) (by omega) (by omega), hg, h, w64 (n := (a + 1) * 7919) (by omega) (by omega)]
    refine below_v _ _ (by omega) hn fun r h1 h2 => ?_
    simpa [strm] using hK r h1 h2
  · have h0 : (xs.length : Int) ≠ 0 := by omega
    have hz : ((xs.length : Int) == 0) = false := by simpa using h0
    have hq : 0 ≤ a.tmod xs.length := Int.tmod_nonneg _ ha.1
    have hq2 : a.tmod xs.length < xs.length := Int.tmod_lt_of_pos _ (by omega)
    have hd : 0 ≤ a.tdiv xs.length := Int.tdiv_nonneg ha.1 (by omega)
    have hd2 : a.tdiv xs.length ≤ a := Int.tdiv_le_self _ ha.1
    simp [F_next, hs, strm, hM', w64 (n := a + 1) (by omega) (by omega), hg, hz]
    refine wp_mflat [] [] ?_
    simp [hg, h, w64 (n := a) (by omega) (by omega)]
    refine wp_mflat [] [] ?_
    simp [hg, h, w64 (n := a) (by omega) (by omega), w64 (n := a.tdiv xs.length) (by omega) (by omega)]
    have hi : (a.tmod xs.length).toNat < xs.length := by omega
    have hb := hin _ (List.getElem_mem hi)
    have hm0 : 0 ≤ a.tdiv xs.length * (7919 + a.tmod xs.length) := Int.mul_nonneg hd (by omega)
    have hm2 : a.tmod xs.length ≤ a := by
      have h3 := Int.mul_tdiv_add_tmod a xs.length
      have h4 : 0 ≤ (xs.length : Int) * a.tdiv xs.length := Int.mul_nonneg (by omega) hd
      omega
    have hm1 : a.tdiv xs.length * (7919 + a.tmod xs.length) ≤ 1000000000 * 1000007919 := Int.mul_le_mul (by omega) (by omega) (by omega) (by omega)
    simp [hq, ints_get (List.getElem?_eq_getElem hi)]
    refine below_v _ _ hb (by omega) fun r h1 h2 => ?_
    have h2' := h2 (by omega)
    simp [w64 (n := 7919 + a.tmod xs.length) (by omega) (by omega), w64 (n := a.tdiv xs.length * (7919 + a.tmod xs.length)) (by omega) (by omega), w64 (n := r + a.tdiv xs.length * (7919 + a.tmod xs.length)) (by omega) (by omega)]
    refine below_v _ _ (by omega) hn fun r2 h3 h4 => ?_
    simpa [strm] using hK r2 h3 h4
theorem range_v (s : Nat) (f : Bool) (xs : List Int) (a lo hi : Int) (hs : st[s]? = some (strm f xs a)) (hM : M s = true) (hxs : xs.length ≤ 9223372036854775807) (hin : ∀ x ∈ xs, -9223372036854775808 ≤ x ∧ x ≤ 9223372036854775807) (ha : 0 ≤ a ∧ a ≤ 1000000000) (hlo : -1000000000000 ≤ lo) (hhi : hi ≤ 1000000000000) (hle : lo ≤ hi)
    (hK : ∀ r, lo ≤ r → r ≤ hi → K (I r) (st.set s (strm f xs (a + 1)))) : CallV Tryz.prog T M 17 [.ptr s 1 0 0, I lo, I hi] st K Kp := by
  refine fun_ok hmix c_range (le_of rfl) ?_
  have h0 : ¬ hi < lo := by omega
  simp [F_range, h0, w64 (n := hi - lo) (by omega) (by omega), w64 (n := hi - lo + 1) (by omega) (by omega)]
  refine next_v s f xs a _ hs (upM_of hM) hxs hin ha (by omega) fun r h1 h2 => ?_
  simp [w64 (n := lo + r) (by omega) (by omega)]
  exact hK _ (by omega) (by omega)
theorem flip_v (s : Nat) (f : Bool) (xs : List Int) (a n : Int) (hs : st[s]? = some (strm f xs a)) (hM : M s = true) (hxs : xs.length ≤ 9223372036854775807) (hin : ∀ x ∈ xs, -9223372036854775808 ≤ x ∧ x ≤ 9223372036854775807) (ha : 0 ≤ a ∧ a ≤ 1000000000) (hn : n ≤ 1000000)
    (hK : ∀ b, K (Bo b) (st.set s (strm f xs (a + 1)))) : CallV Tryz.prog T M 11 [.ptr s 1 0 0, I n] st K Kp := by
  refine fun_ok hmix c_flip (le_of rfl) ?_
  simp [F_flip]
  refine next_v s f xs a _ hs (upM_of hM) hxs hin ha (by omega) fun r h1 h2 => ?_
  simpa using hK _
end
end Go.Proofs.YtkcdgaijklhnaaaGreatDoor.Vm
namespace Go.Proofs.YtkcdgaijklhnaaaGreatDoor.Vm
open Go.RowKit
def F_sbytes : FnM := FnM.mk 24 (.seq (.lst [.mk 0 false (some 4) none (.mv (.c (.lst true [])))]) (.seq (.lst [.mk 0 false (some 5) none (.mv (.c (.lst true [])))]) (.seq (.seq (.lst [.mk 0 false (some 6) none (.mv (.t 1)), .mk 1 false (some 7) none (.mv (.c (.val (.int .i64 0))))]) (.block 0 (.loop (.seq (.lst [.mk 0 false (some 8) none (.bin .lss (.t 7) (.t 6))]) (.seq (.cond (.t 8) .skip (.exit 0)) (.seq (.block 1 (.seq (.lst [.mk 0 false (some 9) none (.mv (.t 0)), .mk 1 false (some 10) none (.call 11 [.t 9, .c (.val (.int .i64 6))])]) (.cond (.t 10) (.lst [.mk 0 false (some 11) none (.mv (.t 5)), .mk 1 false (some 12) none (.mv (.t 0)), .mk 2 false (some 13) none (.bsl 3 1 2 (.val (.int .i64 0)) [(0, .c (.val (.int .i64 (-128)))), (1, .c (.val (.int .i64 127)))]), .mk 3 false (some 14) none (.call 63 [.t 12, .t 13]), .mk 4 false (some 15) none (.bsl 3 1 1 (.val (.int .i64 0)) [(0, .t 14)]), .mk 5 false (some 16) none (.app 3 1 8 (.t 11) (.t 15)), .mk 6 false (some 5) none (.mv (.t 16))]) (.lst [.mk 0 false (some 17) none (.mv (.t 5)), .mk 1 false (some 18) none (.mv (.t 0)), .mk 2 false (some 19) none (.call 17 [.t 18, .c (.val (.int .i64 (-9))), .c (.val (.int .i64 9))]), .mk 3 false (some 20) none (.bsl 3 1 1 (.val (.int .i64 0)) [(0, .t 19)]), .mk 4 false (some 21) none (.app 3 1 8 (.t 17) (.t 20)), .mk 5 false (some 5) none (.mv (.t 21))])))) (.lst [.mk 0 false (some 22) none (.bin .add (.t 7) (.c (.val (.int .i64 1)))), .mk 1 false (some 7) none (.mv (.t 22))]))))))) (.seq (.lst [.mk 0 false (some 23) none (.mv (.t 5)), .mk 1 false (some 4) none (.mv (.t 23))]) .ret)))) [.t 4]
theorem c_sbytes : compF Tryz.prog 83 = some F_sbytes := by kernel_rfl
def F_gmodel : FnM := FnM.mk 111 (.seq (.lst [.mk 0 false (some 2) none (.alloc 27 (.agg [.val (.int .i64 0), .val (.int .i64 0), .val (.int .i64 0), .val (.int .i64 0), .lst true [], .lst true [], .lst true [], .lst true [], .lst true [], .lst true [], .lst true []]))]) (.seq (.lst [.mk 0 false (some 5) none (.mv (.t 0)), .mk 1 false (some 6) none (.call 17 [.t 5, .c (.val (.int .i64 1)), .c (.val (.int .i64 3))]), .mk 2 false (some 7) none (.mv (.t 0)), .mk 3 false (some 8) none (.bsl 3 1 5 (.val (.int .i64 0)) [(0, .c (.val (.int .i64 2))), (1, .c (.val (.int .i64 3))), (2, .c (.val (.int .i64 5))), (3, .c (.val (.int .i64 8))), (4, .c (.val (.int .i64 16)))]), .mk 4 false (some 9) none (.call 63 [.t 7, .t 8]), .mk 5 false (some 10) none (.mv (.t 0)), .mk 6 false (some 11) none (.bsl 3 1 5 (.val (.int .i64 0)) [(0, .c (.val (.int .i64 1))), (1, .c (.val (.int .i64 2))), (2, .c (.val (.int .i64 3))), (3, .c (.val (.int .i64 4))), (4, .c (.val (.int .i64 5)))]), .mk 7 false (some 12) none (.call 63 [.t 10, .t 11]), .mk 8 false (some 13) none (.bld [.val (.int .i64 0), .val (.int .i64 0), .val (.int .i64 0), .val (.int .i64 0), .lst true [], .lst true [], .lst true [], .lst true [], .lst true [], .lst true [], .lst true []] [(0, 1, .t 6), (1, 1, .t 9), (2, 1, .t 12)]), .mk 9 false (some 3) none (.alloc 27 (.agg [.val (.int .i64 0), .val (.int .i64 0), .val (.int .i64 0), .val (.int .i64 0), .lst true [], .lst true [], .lst true [], .lst true [], .lst true [], .lst true [], .lst true []])), .mk 10 false none none (.store 11 (.t 3) (.t 13))]) (.seq (.lst [.mk 0 false (some 14) none (.mv (.t 0)), .mk 1 false (some 15) none (.fadr 1 (.t 3)), .mk 2 false (some 16) none (.load false 1 (.t 15)), .mk 3 false (some 17) none (.call 17 [.t 14, .c (.val (.int .i64 1)), .t 16]), .mk 4 false (some 18) none (.fadr 3 (.t 3)), .mk 5 false none none (.store 1 (.t 18) (.t 17))]) (.seq (.seq (.lst [.mk 0 false (some 19) none (.mv (.t 0)), .mk 1 false (some 20) none (.call 11 [.t 19, .c (.val (.int .i64 2))])]) (.cond (.t 20) (.lst [.mk 0 false (some 21) none (.fadr 1 (.t 3)), .mk 1 false (some 22) none (.load false 1 (.t 21)), .mk 2 false (some 23) none (.fadr 3 (.t 3)), .mk 3 false none none (.store 1 (.t 23) (.t 22))]) .skip)) (.seq (.seq (.lst [.mk 0 false (some 24) none (.mv (.c (.val (.int .i64 0))))]) (.block 0 (.loop (.seq (.lst [.mk 0 false (some 25) none (.bin .lss (.t 24) (.c (.val (.int .i64 4))))]) (.seq (.cond (.t 25) .skip (.exit 0)) (.seq (.block 1 (.tail [.mk 0 true (some 26) none (.fadr 4 (.t 3)), .mk 1 true (some 27) none (.load false 1 (.t 26)), .mk 2 true (some 28) none (.mv (.t 0)), .mk 3 false (some 29) none (.bsl 3 1 7 (.val (.int .i64 0)) [(0, .c (.val (.int .i64 1))), (1, .c (.val (.int .i64 1))), (2, .c (.val (.int .i64 2))), (3, .c (.val (.int .i64 3))), (4, .c (.val (.int .i64 5))), (5, .c (.val (.int .i64 8))), (6, .c (.val (.int .i64 15)))]), .mk 4 false (some 30) none (.call 63 [.t 28, .t 29]), .mk 5 false (some 31) none (.bsl 3 1 1 (.val (.int .i64 0)) [(0, .t 30)]), .mk 6 false (some 32) none (.app 3 1 8 (.t 27) (.t 31)), .mk 7 true (some 33) none (.fadr 4 (.t 3))] [.mk 8 false none none (.store 1 (.t 33) (.t 32))])) (.lst [.mk 0 false (some 34) none (.bin .add (.t 24) (.c (.val (.int .i64 1)))), .mk 1 false (some 24) none (.mv (.t 34))]))))))) (.seq (.lst [.mk 0 false (some 4) none (.mv (.c (.val (.int .i64 3))))]) (.seq (.seq (.lst [.mk 0 false (some 35) none (.fadr 0 (.t 3)), .mk 1 false (some 36) none (.load false 1 (.t 35))]) (.block 2 (.seq (.lst [.mk 0 false (some 38) none (.bin .eql (.t 36) (.c (.val (.int .i64 2)))), .mk 1 false (some 37) none (.mv (.t 38))]) (.cond (.t 37) (.lst [.mk 0 false (some 4) none (.mv (.c (.val (.int .i64 2))))]) (.seq (.lst [.mk 0 false (some 40) none (.bin .eql (.t 36) (.c (.val (.int .i64 3)))), .mk 1 false (some 39) none (.mv (.t 40))]) (.cond (.t 39) (.lst [.mk 0 false (some 41) none (.mv (.t 0)), .mk 1 false (some 42) none (.call 17 [.t 41, .c (.val (.int .i64 1)), .c (.val (.int .i64 4))]), .mk 2 false (some 4) none (.mv (.t 42))]) .skip)))))) (.seq (.tail [.mk 0 true (some 43) none (.mv (.t 0)), .mk 1 true (some 44) none (.fadr 1 (.t 3)), .mk 2 true (some 45) none (.load false 1 (.t 44)), .mk 3 true (some 46) none (.fadr 2 (.t 3)), .mk 4 true (some 47) none (.load false 1 (.t 46)), .mk 5 true (some 48) none (.bin .mul (.t 45) (.t 47)), .mk 7 true (some 50) none (.mv (.t 0)), .mk 8 true (some 51) none (.fadr 1 (.t 3)), .mk 9 true (some 52) none (.load false 1 (.t 51)), .mk 10 true (some 53) none (.fadr 2 (.t 3)), .mk 11 true (some 54) none (.load false 1 (.t 53)), .mk 12 true (some 55) none (.bin .mul (.t 52) (.t 54)), .mk 6 false (some 49) none (.call 83 [.t 43, .t 48]), .mk 14 true (some 57) none (.fadr 5 (.t 3)), .mk 13 false (some 56) none (.call 83 [.t 50, .t 55]), .mk 15 false none none (.store 1 (.t 57) (.t 49)), .mk 16 true (some 58) none (.fadr 8 (.t 3))] [.mk 17 false none none (.store 1 (.t 58) (.t 56))]) (.seq (.tail [.mk 0 true (some 59) none (.mv (.t 0)), .mk 1 true (some 60) none (.mv (.t 0)), .mk 4 true (some 63) none (.fadr 2 (.t 3)), .mk 5 true (some 64) none (.load false 1 (.t 63)), .mk 8 true (some 67) none (.mv (.t 0)), .mk 9 true (some 68) none (.mv (.t 4)), .mk 10 true (some 69) none (.fadr 2 (.t 3)), .mk 11 true (some 70) none (.load false 1 (.t 69)), .mk 12 true (some 71) none (.bin .mul (.t 68) (.t 70)), .mk 13 true (some 72) none (.fadr 2 (.t 3)), .mk 14 true (some 73) none (.load false 1 (.t 72)), .mk 15 true (some 74) none (.bin .mul (.t 71) (.t 73)), .mk 2 false (some 61) none (.bsl 3 1 4 (.val (.int .i64 0)) [(0, .c (.val (.int .i64 1))), (1, .c (.val (.int .i64 2))), (2, .c (.val (.int .i64 4))), (3, .c (.val (.int .i64 16)))]), .mk 3 false (some 62) none (.call 63 [.t 60, .t 61]), .mk 6 false (some 65) none (.bin .mul (.t 62) (.t 64)), .mk 7 false (some 66) none (.call 83 [.t 59, .t 65]), .mk 17 true (some 76) none (.fadr 6 (.t 3)), .mk 16 false (some 75) none (.call 83 [.t 67, .t 74]), .mk 18 false none none (.store 1 (.t 76) (.t 66)), .mk 19 true (some 77) none (.fadr 7 (.t 3))] [.mk 20 false none none (.store 1 (.t 77) (.t 75))]) (.seq (.seq (.lst [.mk 0 false (some 78) none (.mv (.t 0)), .mk 1 false (some 79) none (.bsl 3 1 4 (.val (.int .i64 0)) [(0, .c (.val (.int .i64 1))), (1, .c (.val (.int .i64 2))), (2, .c (.val (.int .i64 5))), (3, .c (.val (.int .i64 64)))]), .mk 2 false (some 80) none (.call 63 [.t 78, .t 79]), .mk 3 false (some 81) none (.mv (.c (.val (.int .i64 0))))]) (.block 3 (.loop (.seq (.lst [.mk 0 false (some 82) none (.bin .lss (.t 81) (.t 80))]) (.seq (.cond (.t 82) .skip (.exit 3)) (.seq (.block 4 (.tail [.mk 0 true (some 83) none (.fadr 9 (.t 3)), .mk 1 true (some 84) none (.load false 1 (.t 83)), .mk 2 true (some 85) none (.mv (.t 0)), .mk 3 false (some 86) none (.bsl 3 1 5 (.val (.int .i64 0)) [(0, .c (.val (.int .i64 0))), (1, .c (.val (.int .i64 1))), (2, .c (.val (.int .i64 8))), (3, .c (.val (.int .i64 64))), (4, .c (.val (.int .i64 1000)))]), .mk 4 false (some 87) none (.call 63 [.t 85, .t 86]), .mk 5 false (some 88) none (.bsl 3 1 1 (.val (.int .i64 0)) [(0, .t 87)]), .mk 6 false (some 89) none (.app 3 1 8 (.t 84) (.t 88)), .mk 7 true (some 90) none (.fadr 9 (.t 3))] [.mk 8 false none none (.store 1 (.t 90) (.t 89))])) (.lst [.mk 0 false (some 91) none (.bin .add (.t 81) (.c (.val (.int .i64 1)))), .mk 1 false (some 81) none (.mv (.t 91))]))))))) (.seq (.lst [.mk 0 false (some 92) none (.mv (.t 0)), .mk 1 false (some 93) none (.call 17 [.t 92, .c (.val (.int .i64 1)), .c (.val (.int .i64 40))]), .mk 2 false (some 94) none (.bsl 3 1 1 (.val (.int .i64 0)) [(0, .t 93)]), .mk 3 false (some 95) none (.fadr 10 (.t 3)), .mk 4 false none none (.store 1 (.t 95) (.t 94))]) (.seq (.seq (.lst [.mk 0 false (some 96) none (.mv (.t 0)), .mk 1 false (some 97) none (.bsl 3 1 4 (.val (.int .i64 0)) [(0, .c (.val (.int .i64 0))), (1, .c (.val (.int .i64 1))), (2, .c (.val (.int .i64 4))), (3, .c (.val (.int .i64 63)))]), .mk 2 false (some 98) none (.call 63 [.t 96, .t 97]), .mk 3 false (some 99) none (.mv (.c (.val (.int .i64 0))))]) (.block 5 (.loop (.seq (.lst [.mk 0 false (some 100) none (.bin .lss (.t 99) (.t 98))]) (.seq (.cond (.t 100) .skip (.exit 5)) (.seq (.block 6 (.tail [.mk 0 true (some 101) none (.fadr 10 (.t 3)), .mk 1 true (some 102) none (.load false 1 (.t 101)), .mk 2 true (some 103) none (.mv (.t 0)), .mk 3 false (some 104) none (.bsl 3 1 4 (.val (.int .i64 0)) [(0, .c (.val (.int .i64 0))), (1, .c (.val (.int .i64 1))), (2, .c (.val (.int .i64 8))), (3, .c (.val (.int .i64 1000)))]), .mk 4 false (some 105) none (.call 63 [.t 103, .t 104]), .mk 5 false (some 106) none (.bsl 3 1 1 (.val (.int .i64 0)) [(0, .t 105)]), .mk 6 false (some 107) none (.app 3 1 8 (.t 102) (.t 106)), .mk 7 true (some 108) none (.fadr 10 (.t 3))] [.mk 8 false none none (.store 1 (.t 108) (.t 107))])) (.lst [.mk 0 false (some 109) none (.bin .add (.t 99) (.c (.val (.int .i64 1)))), .mk 1 false (some 99) none (.mv (.t 109))]))))))) (.seq (.lst [.mk 0 false (some 110) none (.load true 11 (.t 3)), .mk 1 false none none (.store 11 (.t 2) (.t 110))]) .ret))))))))))))) [.c 2 true 11]
theorem c_gmodel : compF Tryz.prog 38 = some F_gmodel := by kernel_rfl
end Go.Proofs.YtkcdgaijklhnaaaGreatDoor.Vm
namespace Go.Proofs.YtkcdgaijklhnaaaGreatDoor.Vm
open Go.RowKit
structure GS (n sb : Nat) (st s : St) (f : Bool) (xs : List Int) (a : Int) : Prop where
  same : Same n sb st s
  str : s[sb]? = some (strm f xs a)
  hsb : sb < n
  src : xs.length ≤ 9223372036854775807 ∧ ∀ x ∈ xs, -9223372036854775808 ≤ x ∧ x ≤ 9223372036854775807
def But (sb : Nat) (s s' : St) : Prop := s'.length = s.length ∧ ∀ b, b ≠ sb → s'[b]? = s[b]?
theorem But.set (sb : Nat) (s : St) (x : Blk) : But sb s (s.set sb x) := ⟨by simp, fun b hb => List.getElem?_set_ne (Ne.symm hb)⟩
theorem OutS.but {n t k sb : Nat} {s s' : St} {v : V} {l : List V} (h : OutS n t k s v l) (hb : But sb s s') (hn : sb < n) : OutS n t k s' v l := h.keep fun b _ _ _ h1 _ => hb.2 b (by omega)
theorem get_but {sb b : Nat} {s s' : St} {x : Blk} (h : s[b]? = some x) (hb : But sb s s') (hn : b ≠ sb) : s'[b]? = some x := (hb.2 b hn).trans h
section
variable {n sb : Nat} {st s : St} {f : Bool} {xs : List Int} {a : Int} {T : Tbl} {M : Nat → Bool} {K : V → St → Prop} {Kp : List PanicEntry → St → Prop}
theorem GS.next (g : GS n sb st s f xs a) (a' : Int) : GS n sb st (s.set sb (strm f xs a')) f xs a' := ⟨g.same.set (Or.inl rfl) _, get_set g.str _, g.hsb, g.src⟩
theorem GS.more (g : GS n sb st s f xs a) (e : St) : GS n sb st (s ++ e) f xs a := ⟨g.same.more e, get_more g.str e, g.hsb, g.src⟩
theorem GS.set (g : GS n sb st s f xs a) {b : Nat} (hb : n ≤ b) (x : Blk) : GS n sb st (s.set b x) f xs a := ⟨g.same.set (Or.inr hb) x, get_ne g.str (by have := g.hsb; omega) x, g.hsb, g.src⟩
theorem GS.to (g : GS n sb st s f xs a) {s' : St} (hl : s.length ≤ s'.length) (h : ∀ b, b < n → s'[b]? = s[b]?) : GS n sb st s' f xs a := ⟨⟨Nat.le_trans g.same.len hl, fun b h1 h2 => (h b h1).trans (g.same.get b h1 h2)⟩, (h sb g.hsb).trans g.str, g.hsb, g.src⟩
theorem GS.up (g : GS n sb st s f xs a) (M : Nat → Bool) : upM n M s.length = true := by simp [upM, g.same.len]
theorem flip_g (g : GS n sb st s f xs a) (hM : M sb = true) (ha : 0 ≤ a ∧ a ≤ 1000000000) (k : Int) (hk : k ≤ 1000000) (hK : ∀ b s', GS n sb st s' f xs (a + 1) → But sb s s' → K (Bo b) s') : CallV Tryz.prog T M 11 [.ptr sb 1 0 0, I k] s K Kp :=
  flip_v sb f xs a k g.str hM g.src.1 g.src.2 ha hk fun b => hK b _ (g.next _) (But.set _ _ _)
theorem next_g (g : GS n sb st s f xs a) (hM : M sb = true) (ha : 0 ≤ a ∧ a ≤ 1000000000) (k : Int) (hk : 1 ≤ k ∧ k ≤ 1000000) (hK : ∀ r s', 0 ≤ r → r < k → GS n sb st s' f xs (a + 1) → But sb s s' → K (I r) s') : CallV Tryz.prog T M 24 [.ptr sb 1 0 0, I k] s K Kp :=
  next_v sb f xs a k g.str hM g.src.1 g.src.2 ha (by omega) fun r _ h2 => hK r _ (h2 hk.1).1 (h2 hk.1).2 (g.next _) (But.set _ _ _)
theorem range_g (g : GS n sb st s f xs a) (hM : M sb = true) (ha : 0 ≤ a ∧ a ≤ 1000000000) (lo hi : Int) (h1 : -1000000000000 ≤ lo) (h2 : hi ≤ 1000000000000) (h3 : lo ≤ hi) (hK : ∀ r s', lo ≤ r → r ≤ hi → GS n sb st s' f xs (a + 1) → But sb s s' → K (I r) s') : CallV Tryz.prog T M 17 [.ptr sb 1 0 0, I lo, I hi] s K Kp :=
  range_v sb f xs a lo hi g.str hM g.src.1 g.src.2 ha h1 h2 h3 fun r h4 h5 => hK r _ h4 h5 (g.next _) (But.set _ _ _)
theorem pick_g (g : GS n sb st s f xs a) (hM : M sb = true) (ha : 0 ≤ a ∧ a ≤ 1000000000) {b m : Nat} {l : List Int} (hb : s[b]? = some (.row 3 1 (ints l))) (hbs : b ≠ sb) (hm : l.length = m) (hl : 0 < m ∧ m ≤ 1000) (hK : ∀ x s', x ∈ l → GS n sb st s' f xs (a + 1) → But sb s s' → K (I x) s') :
    CallV Tryz.prog T M 63 [.ptr sb 1 0 0, .own b m 0 m] s K Kp := by
  subst hm
  refine fun_ok hmix c_pick (le_of rfl) ?_
  simp [F_pick, hb]
  refine next_g g (upM_of hM) ha _ (by omega) fun r s' h1 h2 g' hbut => ?_
  have hb' := get_but hb hbut hbs
  have hr : r.toNat < l.length := by omega
  simp [hb', h1, show r < (l.length : Int) by omega]
  simp [ints]
  exact hK _ _ (List.getElem_mem hr) g' hbut
theorem ints_cells (l : List Int) : ∀ x ∈ ints l, ∀ y ∈ x.cells, y.leaf = true ∧ y.pl = true := fun x hx y hy => by
  obtain ⟨z, -, rfl⟩ := List.mem_map.1 hx
  simp at hy
  subst hy
  exact ⟨rfl, rfl⟩
theorem ints_append (l m : List Int) : ints (l ++ m) = ints l ++ ints m := by simp [ints]
def BInv (n s0 m : Nat) (st : St) (f : Bool) (xs : List Int) (a : Int) (fr : Fr) (s : St) : Prop :=
  ∃ (k : Nat) (l : List Int) (a' : Int), k ≤ m ∧ l.length = k ∧ (∀ x ∈ l, -128 ≤ x ∧ x ≤ 127) ∧ a ≤ a' ∧ a' ≤ a + 2 * k ∧ GS n s0 st s f xs a' ∧ OutS n 3 1 s (fr.g 5) (ints l) ∧ fr.df = [] ∧ fr.g 0 = .ptr s0 1 0 0 ∧ fr.g 6 = I m ∧ fr.g 7 = I k
theorem sbytes_v (s0 : Nat) (m : Nat) (hm : m ≤ 400) (hs : st[s0]? = some (strm f xs a)) (hM : M s0 = true) (src : xs.length ≤ 9223372036854775807 ∧ ∀ x ∈ xs, -9223372036854775808 ≤ x ∧ x ≤ 9223372036854775807) (ha : 0 ≤ a ∧ a ≤ 100000000)
    (hK : ∀ g l a', l.length = m → (∀ x ∈ l, -128 ≤ x ∧ x ≤ 127) → a ≤ a' → a' ≤ a + 2 * m → K (.lst g (ints l)) (st.set s0 (strm f xs a'))) : CallV Tryz.prog T M 83 [.ptr s0 1 0 0, I m] st K Kp := by
  have hlt : s0 < st.length := (List.getElem?_eq_some_iff.1 hs).1
  refine CallV.give (fun_ok hmix c_sbytes (le_of rfl) ?_)
  simp [F_sbytes]
  refine wp_mloop (BInv st.length s0 m st f xs a) (fun fr _ => m - nat (fr.g 7))
    ⟨0, [], a, by simp, rfl, by simp, by simp, by simp, ⟨Same.refl (Nat.le_refl _), hs, hlt, src⟩, by simpa [ints] using OutS.nil _ _ _ _, by simp, by simp, by simp, by simp⟩ ?_
  rintro fr s ⟨k, l, a', hk, hl, hr, ha1, ha2, g, o, hdf, g0, g6, g7⟩
  have hup : upM st.length M s0 = true := upM_of hM
  by_cases hlt2 : k < m
  · simp [g6, g7, g0, hlt2]
    refine flip_g g hup (by omega) 6 (by omega) fun b s1 g1 b1 => ?_
    have o1 := o.but b1 hlt
    have fin : ∀ (a2 : Int) (s2 : St) (x : Int) (fr' : Fr) {K' : V → St → Prop}, GS st.length s0 st s2 f xs a2 → a' ≤ a2 → a2 ≤ a' + 2 → OutS st.length 3 1 s2 (fr.g 5) (ints l) → -128 ≤ x ∧ x ≤ 127 →
        (∀ v s3, OutS st.length 3 1 s3 v (ints (l ++ [x])) → GS st.length s0 st s3 f xs a2 → K' v s3) → obind2 (mApp (liftM (upM st.length M)) 3 1 8 (s2 ++ [.row 3 1 [I x]]) (fr.g 5) (.own s2.length 1 0 1)) K' := fun a2 s2 x fr' K' g2 h1 h2 o2 hx hK' => by
      refine app_out (o2.more _) (by have := g2.same.len; simp; omega) (news := [I x]) (by simp) (by simp) (Or.inl (by simp)) (fun b _ hb _ j => by simp [upM, hb]) (by simp; omega) (by simp; omega) fun v s3 o3 hl3 hb3 _ _ => ?_
      exact hK' v s3 (by rw [ints_append]; exact o3) ((g2.more _).to hl3 hb3)
    have last : ∀ (a2 : Int) (s3 : St) (x : Int) (v : V) (fr' : Fr), GS st.length s0 st s3 f xs a2 → a' ≤ a2 → a2 ≤ a' + 2 → OutS st.length 3 1 s3 v (ints (l ++ [x])) → -128 ≤ x ∧ x ≤ 127 → fr'.g 5 = v → fr'.df = [] → fr'.g 0 = .ptr s0 1 0 0 → fr'.g 6 = I m → fr'.g 7 = I ((k : Int) + 1) → BInv st.length s0 m st f xs a fr' s3 := fun a2 s3 x v fr' g3 h1 h2 o3 hx e5 e0 e1 e6 e7 =>
      ⟨k + 1, l ++ [x], a2, by omega, by simp [hl], fun y hy => by
        rcases List.mem_append.1 hy with hy | hy
        · exact hr y hy
        · simp at hy; subst hy; exact hx, by omega, by push_cast; omega, g3, by rw [e5]; exact o3, e0, e1, e6, by rw [e7]; simp⟩
    cases b with
    | true =>
      simp
      have e1 : (s1 ++ [Blk.row 3 1 [I (-128), I 127]])[s1.length]? = some (.row 3 1 (ints [-128, 127])) := by simp [ints]
      have hne : List.length s1 ≠ s0 := Nat.ne_of_gt (Nat.lt_of_lt_of_le hlt g1.same.len)
      refine pick_g (g1.more _) hup (by omega) e1 hne rfl (by simp) fun x s2 hx g2 b2 => ?_
      have o2 := (o1.more _).but b2 hlt
      have hx' : -128 ≤ x ∧ x ≤ 127 := by simp at hx; omega
      simp
      refine fin (a' + 1 + 1) s2 x fr g2 (by omega) (by omega) o2 hx' fun v s3 o3 g3 => ?_
      simp [w64 (n := (k : Int) + 1) (by omega) (by omega)]
      exact ⟨last (a' + 1 + 1) s3 x v _ g3 (by omega) (by omega) o3 hx' (by simp) (by simp [hdf]) (by simp [g0]) (by simp [g6]) (by simp), by omega⟩
    | false =>
      simp
      refine range_g g1 hup (by omega) (-9) 9 (by omega) (by omega) (by omega) fun x s2 hx1 hx2 g2 b2 => ?_
      have o2 := o1.but b2 hlt
      simp
      refine fin (a' + 1 + 1) s2 x fr g2 (by omega) (by omega) o2 (by omega) fun v s3 o3 g3 => ?_
      simp [w64 (n := (k : Int) + 1) (by omega) (by omega)]
      exact ⟨last (a' + 1 + 1) s3 x v _ g3 (by omega) (by omega) o3 (by omega) (by simp) (by simp [hdf]) (by simp [g0]) (by simp [g6]) (by simp), by omega⟩
  · obtain rfl : k = m := by omega
    simp [g6, g7, hdf]
    obtain ⟨gg, hfr⟩ := o.frz (ints_cells l)
    refine ⟨_, hfr, g.same.low g.str (by simp [V.low]), ?_⟩
    rw [g.same.take g.str]
    exact hK gg l a' hl hr ha1 ha2
end
end Go.Proofs.YtkcdgaijklhnaaaGreatDoor.Vm
namespace Go.Proofs.YtkcdgaijklhnaaaGreatDoor.Vm
open Go.RowKit
def F_cread1 : FnM := FnM.mk 14 (.seq (.lst [.mk 0 false (some 6) none .bad]) (.block 0 (.seq (.lst [.mk 0 false (some 8) none (.inil false (.t 6))]) (.cond (.t 8) (.lst [.mk 0 false (some 3) none (.mv (.t 6))]) (.seq (.lst [.mk 0 false (some 9) none (.tas 29 (.t 6)), .mk 1 false (some 10) none (.ext (.t 9) 1), .mk 2 false (some 11) none (.ext (.t 9) 0)]) (.cond (.t 10) (.seq (.lst [.mk 0 false (some 4) none (.mv (.t 11))]) (.lst [.mk 0 false (some 12) none (.load true 11 (.t 0)), .mk 1 false (some 13) none (.mv (.t 4)), .mk 2 false none none (.store 11 (.t 1) (.t 12)), .mk 3 false none none (.store 1 (.t 2) (.t 13))])) (.seq (.lst [.mk 0 false (some 5) none (.mv (.t 6))]) (.lst [.mk 0 false (some 7) none (.mv (.t 5)), .mk 1 false none none (.pan (.t 7))])))))))) []
theorem c_cread1 : compF Tryz.prog 137 = some F_cread1 := by kernel_rfl
end Go.Proofs.YtkcdgaijklhnaaaGreatDoor.Vm
namespace Go.Proofs.YtkcdgaijklhnaaaGreatDoor.Vm
open Go.RowKit
def F_tainted : FnM := FnM.mk 111 (.seq (.lst [.mk 0 false (some 3) none (.box 27 (.t 1)), .mk 1 false (some 4) none (.alloc 27 (.agg [.val (.int .i64 0), .val (.int .i64 0), .val (.int .i64 0), .val (.int .i64 0), .lst true [], .lst true [], .lst true [], .lst true [], .lst true [], .lst true [], .lst true []]))]) (.seq (.lst [.mk 0 false (some 8) none (.fadr 4 (.t 3)), .mk 1 false (some 9) none (.fadr 5 (.t 3)), .mk 2 false (some 10) none (.fadr 6 (.t 3)), .mk 3 false (some 11) none (.fadr 7 (.t 3)), .mk 4 false (some 12) none (.fadr 8 (.t 3)), .mk 5 false (some 13) none (.fadr 9 (.t 3)), .mk 6 false (some 14) none (.fadr 10 (.t 3)), .mk 7 false (some 15) none (.bsl 116 1 7 (.val (Value.pointer none)) [(0, .t 8), (1, .t 9), (2, .t 10), (3, .t 11), (4, .t 12), (5, .t 13), (6, .t 14)]), .mk 8 false (some 5) none (.mv (.t 15))]) (.seq (.lst [.mk 0 false (some 16) none (.mv (.t 5)), .mk 1 false (some 17) none (.mv (.t 0)), .mk 2 false (some 18) none (.mv (.t 5)), .mk 3 false (some 19) none (.len (.t 18)), .mk 4 false (some 20) none (.call 24 [.t 17, .t 19]), .mk 5 false (some 21) none (.iadr 1 (.t 16) (.t 20)), .mk 6 false (some 22) none (.load false 1 (.t 21)), .mk 7 false (some 6) none (.mv (.t 22))]) (.seq (.seq (.lst [.mk 0 false (some 23) none (.mv (.t 6)), .mk 1 false (some 24) none (.nilck (.t 23)), .mk 2 false (some 25) none (.load false 1 (.t 24)), .mk 3 false (some 26) none (.len (.t 25)), .mk 4 false (some 27) none (.bin .eql (.t 26) (.c (.val (.int .i64 0))))]) (.cond (.t 27) (.lst [.mk 0 false (some 28) none (.mv (.t 6)), .mk 1 false (some 29) none (.flit 1 (.val (.int .i64 0))), .mk 2 false (some 30) none (.nilck (.t 28)), .mk 3 false none none (.store 1 (.t 30) (.t 29))]) .skip)) (.seq (.seq (.lst [.mk 0 false (some 31) none (.mv (.t 0)), .mk 1 false (some 32) none (.call 24 [.t 31, .c (.val (.int .i64 7))])]) (.block 0 (.seq (.lst [.mk 0 false (some 50) none (.bin .eql (.t 32) (.c (.val (.int .i64 0)))), .mk 1 false (some 49) none (.mv (.t 50))]) (.cond (.t 49) (.lst [.mk 0 false (some 51) none (.mv (.t 0)), .mk 1 false (some 52) none (.call 17 [.t 51, .c (.val (.int .i64 0)), .c (.val (.int .i64 4))]), .mk 2 false (some 53) none (.fadr 0 (.t 3)), .mk 3 false none none (.store 1 (.t 53) (.t 52))]) (.seq (.lst [.mk 0 false (some 55) none (.bin .eql (.t 32) (.c (.val (.int .i64 1)))), .mk 1 false (some 54) none (.mv (.t 55))]) (.cond (.t 54) (.tail [.mk 0 true (some 56) none (.fadr 1 (.t 3)), .mk 1 true (some 57) none (.load false 1 (.t 56)), .mk 2 true (some 58) none (.mv (.t 0)), .mk 3 false (some 59) none (.bsl 3 1 3 (.val (.int .i64 0)) [(0, .c (.val (.int .i64 1))), (1, .c (.val (.int .i64 (-1)))), (2, .c (.val (.int .i64 100)))]), .mk 4 false (some 60) none (.call 63 [.t 58, .t 59]), .mk 5 false (some 61) none (.bin .add (.t 57) (.t 60)), .mk 6 true (some 62) none (.fadr 1 (.t 3))] [.mk 7 false none none (.store 1 (.t 62) (.t 61))]) (.seq (.lst [.mk 0 false (some 64) none (.bin .eql (.t 32) (.c (.val (.int .i64 2)))), .mk 1 false (some 63) none (.mv (.t 64))]) (.cond (.t 63) (.tail [.mk 0 true (some 65) none (.fadr 2 (.t 3)), .mk 1 true (some 66) none (.load false 1 (.t 65)), .mk 2 true (some 67) none (.mv (.t 0)), .mk 3 false (some 68) none (.bsl 3 1 3 (.val (.int .i64 0)) [(0, .c (.val (.int .i64 1))), (1, .c (.val (.int .i64 (-1)))), (2, .c (.val (.int .i64 5)))]), .mk 4 false (some 69) none (.call 63 [.t 67, .t 68]), .mk 5 false (some 70) none (.bin .add (.t 66) (.t 69)), .mk 6 true (some 71) none (.fadr 2 (.t 3))] [.mk 7 false none none (.store 1 (.t 71) (.t 70))]) (.seq (.lst [.mk 0 false (some 73) none (.bin .eql (.t 32) (.c (.val (.int .i64 3)))), .mk 1 false (some 72) none (.mv (.t 73))]) (.cond (.t 72) (.tail [.mk 0 true (some 74) none (.fadr 3 (.t 3)), .mk 1 true (some 75) none (.load false 1 (.t 74)), .mk 2 true (some 76) none (.mv (.t 0)), .mk 3 false (some 77) none (.bsl 3 1 2 (.val (.int .i64 0)) [(0, .c (.val (.int .i64 1))), (1, .c (.val (.int .i64 (-20))))]), .mk 4 false (some 78) none (.call 63 [.t 76, .t 77]), .mk 5 false (some 79) none (.bin .add (.t 75) (.t 78)), .mk 6 true (some 80) none (.fadr 3 (.t 3))] [.mk 7 false none none (.store 1 (.t 80) (.t 79))]) (.seq (.lst [.mk 0 false (some 82) none (.bin .eql (.t 32) (.c (.val (.int .i64 4)))), .mk 1 false (some 81) none (.mv (.t 82))]) (.cond (.t 81) (.lst [.mk 0 false (some 83) none (.mv (.t 6)), .mk 1 false (some 84) none (.mv (.t 6)), .mk 2 false (some 85) none (.nilck (.t 84)), .mk 3 false (some 86) none (.load false 1 (.t 85)), .mk 4 false (some 87) none (.sl 1 (.t 86) (some (.c (.val (.int .i64 1)))) none), .mk 5 false (some 88) none (.nilck (.t 83)), .mk 6 false none none (.store 1 (.t 88) (.t 87))]) (.seq (.lst [.mk 0 false (some 90) none (.bin .eql (.t 32) (.c (.val (.int .i64 5)))), .mk 1 false (some 89) none (.mv (.t 90))]) (.cond (.t 89) (.tail [.mk 0 true (some 91) none (.mv (.t 6)), .mk 1 true (some 92) none (.mv (.t 6)), .mk 2 true (some 93) none (.nilck (.t 92)), .mk 3 true (some 94) none (.load false 1 (.t 93)), .mk 4 true (some 95) none (.mv (.t 6)), .mk 5 true (some 96) none (.nilck (.t 95)), .mk 6 true (some 97) none (.load false 1 (.t 96)), .mk 7 true (some 98) none (.len (.t 97)), .mk 8 true (some 99) none (.mv (.t 6)), .mk 9 true (some 100) none (.nilck (.t 99)), .mk 10 true (some 101) none (.load false 1 (.t 100)), .mk 11 true (some 102) none (.len (.t 101)), .mk 12 true (some 103) none (.slf 1 (.t 94) none (.t 98) (.t 102)), .mk 13 true (some 104) none (.mv (.t 0)), .mk 14 false (some 105) none (.bsl 3 1 4 (.val (.int .i64 0)) [(0, .c (.val (.int .i64 0))), (1, .c (.val (.int .i64 1))), (2, .c (.val (.int .i64 200))), (3, .c (.val (.int .i64 (-200))))]), .mk 15 false (some 106) none (.call 63 [.t 104, .t 105]), .mk 16 false (some 107) none (.bsl 3 1 1 (.val (.int .i64 0)) [(0, .t 106)]), .mk 17 false (some 108) none (.app 3 1 8 (.t 103) (.t 107)), .mk 18 true (some 109) none (.nilck (.t 91))] [.mk 19 false none none (.store 1 (.t 109) (.t 108))]) (.seq (.lst [.mk 0 false (some 33) none (.mv (.t 6)), .mk 1 false (some 34) none (.nilck (.t 33)), .mk 2 false (some 35) none (.load false 1 (.t 34)), .mk 3 false (some 36) none (.app 3 1 8 (.c (.lst true [])) (.t 35)), .mk 4 false (some 7) none (.mv (.t 36))]) (.seq (.lst [.mk 0 false (some 37) none (.mv (.t 7)), .mk 1 false (some 38) none (.mv (.t 0)), .mk 2 false (some 39) none (.mv (.t 7)), .mk 3 false (some 40) none (.len (.t 39)), .mk 4 false (some 41) none (.call 24 [.t 38, .t 40]), .mk 5 false (some 42) none (.mv (.t 0)), .mk 6 false (some 43) none (.bsl 3 1 6 (.val (.int .i64 0)) [(0, .c (.val (.int .i64 0))), (1, .c (.val (.int .i64 (-1)))), (2, .c (.val (.int .i64 16))), (3, .c (.val (.int .i64 128))), (4, .c (.val (.int .i64 (-129)))), (5, .c (.val (.int .i64 1001)))]), .mk 7 false (some 44) none (.call 63 [.t 42, .t 43]), .mk 8 false (some 45) none (.iadr 1 (.t 37) (.t 41)), .mk 9 false none none (.store 1 (.t 45) (.t 44))]) (.lst [.mk 0 false (some 46) none (.mv (.t 6)), .mk 1 false (some 47) none (.mv (.t 7)), .mk 2 false (some 48) none (.nilck (.t 46)), .mk 3 false none none (.store 1 (.t 48) (.t 47))]))))))))))))))))) (.seq (.lst [.mk 0 false (some 110) none (.load true 11 (.t 3)), .mk 1 false none none (.store 11 (.t 4) (.t 110))]) .ret)))))) [.c 4 true 11]
theorem c_tainted : compF Tryz.prog 39 = some F_tainted := by kernel_rfl
def F_maybe : FnM := FnM.mk 12 (.seq (.lst [.mk 0 false (some 2) none (.alloc 27 (.agg [.val (.int .i64 0), .val (.int .i64 0), .val (.int .i64 0), .val (.int .i64 0), .lst true [], .lst true [], .lst true [], .lst true [], .lst true [], .lst true [], .lst true []]))]) (.seq (.lst [.mk 0 false (some 4) none (.mv (.t 0)), .mk 1 false (some 5) none (.call 38 [.t 4]), .mk 2 false (some 3) none (.alloc 27 (.agg [.val (.int .i64 0), .val (.int .i64 0), .val (.int .i64 0), .val (.int .i64 0), .lst true [], .lst true [], .lst true [], .lst true [], .lst true [], .lst true [], .lst true []])), .mk 3 false none none (.store 11 (.t 3) (.t 5))]) (.seq (.seq (.lst [.mk 0 false (some 6) none (.mv (.t 0)), .mk 1 false (some 7) none (.call 11 [.t 6, .c (.val (.int .i64 4))])]) (.cond (.t 7) (.lst [.mk 0 false (some 8) none (.mv (.t 0)), .mk 1 false (some 9) none (.load true 11 (.t 3)), .mk 2 false (some 10) none (.call 39 [.t 8, .t 9]), .mk 3 false none none (.store 11 (.t 3) (.t 10))]) .skip)) (.seq (.lst [.mk 0 false (some 11) none (.load true 11 (.t 3)), .mk 1 false none none (.store 11 (.t 2) (.t 11))]) .ret)))) [.c 2 true 11]
theorem c_maybe : compF Tryz.prog 6 = some F_maybe := by kernel_rfl
end Go.Proofs.YtkcdgaijklhnaaaGreatDoor.Vm
namespace Go.Proofs.YtkcdgaijklhnaaaGreatDoor
open Go.RowKit
end Go.Proofs.YtkcdgaijklhnaaaGreatDoor
namespace Go.Proofs.YtkcdgaijklhnaaaGreatDoor.Vm
open Go.RowKit
end Go.Proofs.YtkcdgaijklhnaaaGreatDoor.Vm
namespace Go.Proofs.YtkcdgaijklhnaaaGreatDoor.Vm
open Go.RowKit
end Go.Proofs.YtkcdgaijklhnaaaGreatDoor.Vm
namespace Go.Proofs.YtkcdgaijklhnaaaGreatDoor.Vm
open Go.RowKit
end Go.Proofs.YtkcdgaijklhnaaaGreatDoor.Vm
namespace Go.Proofs.YtkcdgaijklhnaaaGreatDoor
theorem goes_none {P : Program} (h : P.funcs.toList.all (fun fn => !Func.goes fn) = true) (start : Start) (func : String) : P.goesAt start func = false := by
  have hall : ∀ fn ∈ P.funcs, Func.goes fn = false := fun fn hf => by
    have := List.all_eq_true.1 h fn (by simpa using hf)
    simpa using this
  have hany : P.funcs.any Func.goes = false := by
    rw [Array.any_eq_false']
    intro x hx
    rw [hall x hx]
    decide
  have hg : ∀ f, P.goes f = false := fun f => by
    unfold Program.goes
    rw [hany, Bool.and_false, Bool.or_false]
    rw [List.any_eq_false]
    intro g _
    cases he : P.funcs[g]? with
    | none => simp
    | some fn => simp [hall fn (Array.mem_of_getElem? he)]
  have hf : P.goesFrom func = false := by
    unfold Program.goesFrom
    cases P.funcNamed func with
    | none => rfl
    | some f => exact hg f
  unfold Program.goesAt
  rw [hf, Bool.false_or]
  cases start <;> first | rfl | (simp only [List.any_eq_false]; intro f _; rw [hg f]; decide)
theorem no_go : Tryz.prog.funcs.toList.all (fun fn => !Func.goes fn) = true := by kernel_rfl
end Go.Proofs.YtkcdgaijklhnaaaGreatDoor
