/-
  The value machine: functions with deferred calls.
  Functions as the value machine turns them.
  Functions as the value machine turns them.
  A model is read from bytes: plain terms; the source of bytes, run by the value machine.
  Functions as the value machine turns them.
  Equal and SameModel; models with the same bytes are equal.
  models.Vocabulary, models.Length, weftref1.EntryLength for every model.
  Functions as the value machine turns them.
  Functions as the value machine turns them.
  Functions as the value machine turns them.
  Functions as the value machine turns them.
-/
import Derived.Test.YtkcdgaijklhnaaaGreatDoorK04
import Derived.Recover
import Derived.Test.YtkcdgaijklhnaaaGreatDoorK21
import Derived.Test.YtkcdgaijklhnaaaGreatDoorK07
import Derived.Test.YtkcdgaijklhnaaaGreatDoorK05
import Derived.Deep.RegionHeld3
import Derived.Deep.QuietTactic
import Derived.RegionTactic
import Derived.Test.YtkcdgaijklhnaaaGreatDoorK06
namespace Go.Proofs.YtkcdgaijklhnaaaGreatDoor.Vm
open Go.RowKit
def DefV (P : Program) (T : Tbl) (M : Nat → Bool) (g : Nat) (caps : List V) (u : FrameMode) (st : St) (KD : FrameMode → St → Prop) : Prop :=
 entersX P g = true ∧ ∀ B w0 E w (us : List Value), Rep B w0 E st w → TblOk T B w0 E w → Pw E st w caps us → CallsD P g us.toArray u w fun e u' w' => ∃ v E' st', e = .returned v ∧ Rep B w0 E' st' w' ∧ Stp (fun b _ => M b) E st w E' st' w' ∧ KD u' st'
def LvV (P : Program) (T : Tbl) (M : Nat → Bool) (res : List RV) (K : V → St → Prop) (Kp : List PanicEntry → St → Prop) (fr : Fr) : List (Nat × List V) → FrameMode → St → Prop
 | [], .returning, st => ∃ vs, resVs fr st res = some vs ∧ K (tupV vs) st
 | [], .panicking c, st => Kp c st
 | [], .run, _ => False
 | d :: ds, u, st => u ≠ .run ∧ DefV P T M d.1 d.2 u st fun u' st' => LvV P T M res K Kp fr ds (settle u') st'
def FinD (P : Program) (T : Tbl) (M : Nat → Bool) (res : List RV) (K : V → St → Prop) (Kp : List PanicEntry → St → Prop) : Post
 | .normal, fr, st => LvV P T M res K Kp fr fr.df .returning st
 | .ret, fr, st => LvV P T M res K Kp fr fr.df .returning st
 | .panic c, fr, st => LvV P T M res K Kp fr fr.df (.panicking c) st
 | _, _, _ => False
section
variable {P : Program} {T : Tbl} {M : Nat → Bool} {B : Nat} {w0 : World} {E : Env} {st st' : St} {w w' : World} {nt : Nat} {fr : Fr} {a : Act} {K : V → St → Prop} {Kp : List PanicEntry → St → Prop}
theorem resVs_g (fr : Fr) (st : St) : ∀ (l : List RV), resVs ⟨fr.g, []⟩ st l = resVs fr st l
 | [] => rfl
 | r :: l => by
  unfold resVs
  rw [resVs_g fr st l]
  rfl
theorem leaves_ok {fn : Func} {res : List RV} (hr : compVs P fn.results.toList = some res) {M0 : Nat → Bool} {Eb : Env} {sb : St} {wb : World} (hM : ∀ b, b < sb.length → M b = true → M0 b = true) :
  ∀ (ds : List (Nat × List V)) (xs : List Deferred) (u : FrameMode) (st : St) (E : Env) (w : World), TblOk T B w0 E w → Rep B w0 E st w → Stp (fun b _ => M b) Eb sb wb E st w → FrOk nt E st w ⟨fr.g, []⟩ ⟨a.tmps, []⟩ → xs.length = ds.length → (∀ (i : Nat) (d : Nat × List V) (x : Deferred), ds[i]? = some d → xs[i]? = some x → DefOk E st w d x) →
   LvV P T M res K Kp fr ds u st → Leaves P fn a.tmps (EndOk P M0 B w0 Eb sb wb K Kp) xs u w
 | [], [], .returning, st, E, w, _, h, hs, hf, _, _, ⟨vs, g1, g2⟩ => by
  rw [← resVs_g] at g1
  obtain ⟨u, q1, q2⟩ := results_ok (P := P) h hf hr g1
  exact ⟨u, q2, E, st, _, h, hs.mono (fun b _ => hM b), q1, g2⟩
 | [], [], .panicking c, st, E, w, _, h, hs, _, _, _, hv => ⟨E, st, h, hs.mono (fun b _ => hM b), hv⟩
 | [], [], .run, _, _, _, _, _, _, _, _, _, hv => hv.elim
 | [], _ :: _, _, _, _, _, _, _, _, _, hl, _, _ => by cases hl
 | _ :: _, [], _, _, _, _, _, _, _, _, hl, _, _ => by cases hl
 | d :: ds, x :: xs, u, st, E, w, hT, h, hs, hf, hl, hd, ⟨hu, hen, hv⟩ => by
  obtain ⟨us, rfl, h1, h2⟩ := hd 0 d x rfl rfl
  refine leaves_cons hu (f := d.1) (args := us.toArray) (by simp [invoke, entersX_ok hen]) ?_
  refine (hv B w0 E w us h hT ⟨h1, h2⟩).mono fun e u' w' ⟨v, E', st', he, g1, g2, g3⟩ => ?_
  subst he
  exact leaves_ok hr hM ds xs (settle u') st' E' w' (hT.mono g2.toExt) g1 (hs.trans g2) (hf.mono g2.toExt) (by simpa using hl) (fun i d x hi hx => by
   obtain ⟨us, q1, q2, q3⟩ := hd (i + 1) d x (by simpa using hi) (by simpa using hx)
   exact ⟨us, q1, q2, fun i y u hy hu => (q3 i y u hy hu).mono g2.toExt⟩) g3
theorem fun_okD (hm : P.follows .mixedOrders = true) {f : Nat} {F : FnM} (hc : compF P f = some F) {args : List V} (hn : args.length ≤ F.nt) {K : V → St → Prop} {Kp : List PanicEntry → St → Prop} (hb : wpM P T (liftM (upM st.length M)) F.code (FinD P T (upM st.length M) F.res K Kp) (fr0 args) st) : CallV P T M f args st K Kp := by
 have hup : ∀ b, b < st.length → upM st.length M b = true → M b = true := fun b hb h => by
  simp only [upM, Bool.or_eq_true] at h
  rcases h with h | h
  ·have := Nat.le_of_ble_eq_true h; omega
  ·exact h
 unfold compF at hc
 split at hc
 ·rename_i fn hfn
  split at hc
  ·rename_i c hbody
   split at hc
   ·rename_i m r hm' hr
    cases hnm : (!(fn.name == "runtime.NumGoroutine")) with
    | false => rw [hnm] at hc; cases hc
    | true =>
     rw [hnm] at hc
     cases hc
     refine ⟨by simp only [entersX, hfn, hnm, hbody]; rfl, fun B w0 E w us hR hT hu => ?_⟩
     refine calls_of_wp_defers hfn hbody (wp_mono (code_ok (M := liftM (upM st.length M)) hm c m hm' _ (fr0 args) st E _ w hT hR (fr0_ok hu hn) hb) fun e a' w' hq => ?_)
     obtain ⟨x, E', st', fr', rfl, h1, h2, h3, h5⟩ := hq
     have key : ∀ u, LvV P T (upM st.length M) r K Kp fr' fr'.df u st' → Leaves P fn a'.tmps (EndOk P M B w0 E st w K Kp) a'.defers u w' := fun u hv =>
      leaves_ok (nt := fn.ntmps) hr (fun b hb h => hup b hb h) fr'.df a'.defers u st' E' w' (hT.mono h2.toExt) h1 h2 ⟨h3.size, h3.tm, rfl, fun i d x hd hx => by simp at hd⟩ h3.dl h3.df hv
     cases x with
     | normal => exact key _ h5
     | ret => exact key _ h5
     | panic c => exact key _ h5
     | exit i => exact h5.elim
     | goto i => exact h5.elim
   ·cases hc
  ·cases hc
 ·cases hc
def recX (P : Program) (g : Nat) : Option Nat :=
 match P.funcs[g]? with
 | some fn => match fn.body with
  | some (.seq (.region _ ops false) _) => match ops.toList with
   | [o] => match o.op, o.guard with
    | .call { callee := .builtin .recover, .. }, none => o.dst
    | _, _ => none
   | _ => none
  | _ => none
 | none => none
def recV : FrameMode → Value × FrameMode
 | .panicking ({ v, recovered := false, goexit := false } :: older) => (v, .panicking ({ v, recovered := true } :: older))
 | u => (.nilIface, u)
def FinR (res : List RV) (u : FrameMode) (KD : FrameMode → St → Prop) : Post
 | .normal, fr, st => fr.df = [] ∧ (∃ vs, resVs fr st res = some vs) ∧ KD u st
 | .ret, fr, st => fr.df = [] ∧ (∃ vs, resVs fr st res = some vs) ∧ KD u st
 | _, _, _ => False
theorem recoverD_of (c : Frame) (cs : List Frame) : (recoverD (c :: cs) = some ((recV c.mode).1, { c with mode := (recV c.mode).2 } :: cs)) ∨ (recoverD (c :: cs) = none ∧ recV c.mode = (.nilIface, c.mode)) := by
 simp only [recoverD]
 cases hm : c.mode with
 | run => exact Or.inr ⟨rfl, rfl⟩
 | returning => exact Or.inr ⟨rfl, rfl⟩
 | panicking l =>
  match l with
  | [] => exact Or.inr ⟨rfl, rfl⟩
  | ⟨v, false, false⟩ :: older => exact Or.inl rfl
  | ⟨v, true, _⟩ :: older => exact Or.inr ⟨rfl, rfl⟩
  | ⟨v, false, true⟩ :: older => exact Or.inr ⟨rfl, rfl⟩
theorem defV_rec (hm : P.follows .mixedOrders = true) {g d : Nat} {F : FnM} (hc : compF P g = some F) (hrx : recX P g = some d) (hd : d < F.nt) {caps : List V} (hn : caps.length ≤ F.nt) {u : FrameMode} {KD : FrameMode → St → Prop}
  (hb : wpM P T (liftM (upM st.length M)) F.code.r (FinR F.res (recV u).2 KD) ((fr0 caps).put (some d) (.val (recV u).1)) st) : DefV P T M g caps u st KD := by
 have hup : ∀ b, b < st.length → upM st.length M b = true → M b = true := fun b hb h => by
  simp only [upM, Bool.or_eq_true] at h
  rcases h with h | h
  ·have := Nat.le_of_ble_eq_true h; omega
  ·exact h
 unfold compF at hc
 unfold recX at hrx
 split at hc
 ·rename_i fn hfn
  rw [hfn] at hrx
  simp only at hrx
  split at hc
  ·rename_i c hbody
   rw [hbody] at hrx
   split at hc
   ·rename_i m r hm' hr
    cases hnm : (!(fn.name == "runtime.NumGoroutine")) with
    | false => rw [hnm] at hc; cases hc
    | true =>
     rw [hnm] at hc
     cases hc
     refine ⟨by simp only [entersX, hfn, hnm, hbody]; rfl, fun B w0 E w us hR hT hu => ?_⟩
     split at hrx
     ·rename_i c1 rid ops rest hce
      cases hce
      split at hrx
      ·rename_i o hops
       split at hrx
       ·rename_i args tys hop hgd
        simp only [compC] at hm'
        split at hm'
        ·rename_i mx my hx hy
         cases hm'
         refine callsD_of_wpS hfn hbody fun c0 cs hu0 => ?_
         refine wpS_seq (wpS_region ?_)
         have hsz : ops = #[o] := by rw [← Array.toArray_toList (xs := ops), hops]
         subst hsz
         have hfr := fr0_ok (nt := fn.ntmps) (st := st) (E := E) (w := w) hu hn
         have hput := hfr.put (d := some d) (fun x hx => by cases hx; exact hd) (v := .val (recV u).1) (u := (recV u).1) (.pure (.val _))
         have hcode := code_ok (M := liftM (upM st.length M)) hm rest my hy _ _ st E _ w hT hR hput hb
         have hfin : ∀ e a' w', PostR fn.ntmps B w0 (liftM (upM st.length M)) E st w (FinR r (recV u).2 KD) e a' w' → bodyPostS P fn c0 cs (fun e u' w' => ∃ v E' st', e = .returned v ∧ Rep B w0 E' st' w' ∧ Stp (fun b _ => M b) E st w E' st' w' ∧ KD u' st') e a' ({ c0 with mode := (recV u).2 } :: cs) w' := fun e a' w' hq => by
          obtain ⟨x, E', st', fr', rfl, h1, h2, h3, h5⟩ := hq
          have hdef : fr'.df = [] → a'.defers = [] := fun e => by have := h3.dl; rw [e] at this; exact List.eq_nil_of_length_eq_zero this
          have key : (fr'.df = [] ∧ (∃ vs, resVs fr' st' r = some vs) ∧ KD (recV u).2 st') → a'.defers = [] ∧ ∃ u', ({ c0 with mode := (recV u).2 } :: cs : List Frame) = { c0 with mode := u' } :: cs ∧ ∃ v, (results fn a'.tmps).run P w' = .ok v w' ∧ ∃ v' E' st', Ending.returned v = .returned v' ∧ Rep B w0 E' st' w' ∧ Stp (fun b _ => M b) E st w E' st' w' ∧ KD u' st' := fun ⟨g1, ⟨vs, g2⟩, g3⟩ => by
           obtain ⟨u0, q1, q2⟩ := results_ok (P := P) h1 h3 hr g2
           exact ⟨hdef g1, _, rfl, u0, q2, u0, E', st', rfl, h1, h2.mono (fun b _ => hup b), g3⟩
          cases x with
          | normal => exact key h5
          | ret => exact key h5
          | exit i => exact h5.elim
          | goto i => exact h5.elim
          | panic i => exact h5.elim
         have hex : ∀ (a : Act) (w : World), (execOp a.eval o).run P w = .ok .recover w := fun a w => by
          obtain ⟨dst, op, type, pos, after, guard⟩ := o
          simp only at hop
          subst hop
          rfl
         have hw : Region.wanted o (yielded #[o] (us.toArray ++ Array.replicate (fn.ntmps - us.toArray.size) undef)) = true := by
          unfold Region.wanted
          rw [hgd]
         have hrange : List.range (#[o] : Array Oper).size = [0] := rfl
         rw [hrange]
         unfold wpOpsS
         have h0 : (#[o] : Array Oper)[0]? = some o := rfl
         simp only [h0, hw, if_true, hex]
         have hrd := recoverD_of c0 cs
         rw [hu0] at hrd
         rcases hrd with hrd | ⟨hrd, hrv⟩
         ·rw [hrd]
          simp only
          unfold wpOpsS
          rw [hrx]
          exact wpS_of_wp (wp_mono hcode fun e a' w' hq => hfin e a' w' hq)
         ·rw [hrd]
          simp only
          unfold wpOpsS
          rw [hrx]
          rw [hrv] at hcode hfin
          have hc0 : ({ c0 with mode := u } : Frame) = c0 := by subst hu0; rfl
          rw [hc0] at hfin
          exact wpS_of_wp (wp_mono hcode fun e a' w' hq => hfin e a' w' hq)
        ·cases hm'
       ·cases hrx
      ·cases hrx
     ·cases hrx
   ·cases hc
  ·cases hc
 ·cases hc
@[simp ↓] theorem finD_n (res : List RV) : FinD P T M res K Kp .normal fr st = LvV P T M res K Kp fr fr.df .returning st := nr rfl
@[simp ↓] theorem finD_r (res : List RV) : FinD P T M res K Kp .ret fr st = LvV P T M res K Kp fr fr.df .returning st := nr rfl
@[simp ↓] theorem finD_p (res : List RV) (c : List PanicEntry) : FinD P T M res K Kp (.panic c) fr st = LvV P T M res K Kp fr fr.df (.panicking c) st := nr rfl
theorem lv_one {res : List RV} {d : Nat × List V} {u : FrameMode} (hu : u ≠ .run) (h : DefV P T M d.1 d.2 u st fun u' st' => settle u' = .returning ∧ obind (resVs fr st' res) fun vs => K (tupV vs) st') : LvV P T M res K Kp fr [d] u st := by
 refine ⟨hu, h.1, fun B w0 E w us h1 h2 h3 => (h.2 B w0 E w us h1 h2 h3).mono fun e u' w' ⟨v, E', st', q1, q2, q3, q4, vs, q5, q6⟩ => ⟨v, E', st', q1, q2, q3, ?_⟩⟩
 show LvV P T M res K Kp fr [] (settle u') st'
 rw [q4]
 exact ⟨vs, q5, q6⟩
theorem DefV.mono {g : Nat} {caps : List V} {u : FrameMode} {KD KD' : FrameMode → St → Prop} (h : DefV P T M g caps u st KD) (hK : ∀ u' st', KD u' st' → KD' u' st') : DefV P T M g caps u st KD' :=
 ⟨h.1, fun B w0 E w us h1 h2 h3 => (h.2 B w0 E w us h1 h2 h3).mono fun _e _u' _w' ⟨v, E', st', q1, q2, q3, q4⟩ => ⟨v, E', st', q1, q2, q3, hK _ _ q4⟩⟩
@[simp ↓] theorem finR_n (res : List RV) (u : FrameMode) (KD : FrameMode → St → Prop) : FinR res u KD .normal fr st = (fr.df = [] ∧ (∃ vs, resVs fr st res = some vs) ∧ KD u st) := nr rfl
@[simp ↓] theorem finR_r (res : List RV) (u : FrameMode) (KD : FrameMode → St → Prop) : FinR res u KD .ret fr st = (fr.df = [] ∧ (∃ vs, resVs fr st res = some vs) ∧ KD u st) := nr rfl
end
end Go.Proofs.YtkcdgaijklhnaaaGreatDoor.Vm
namespace Go.Proofs.YtkcdgaijklhnaaaGreatDoor.Vm
open Go.RowKit
def F_lawFiles : FnM := FnM.mk 114 (.seq (.lst [.mk 0 false (some 4) none (.mv (.c (.val (.bool false))))]) (.seq (.lst [.mk 0 false (some 15) none (.mv (.t 0)), .mk 1 false (some 16) none (.bld [.lst true [], .val (.int .i64 0)] [(0, 1, .t 15)]), .mk 2 false (some 17) none (.box 25 (.t 16)), .mk 3 false (some 5) none (.mv (.t 17))]) (.seq (.lst [.mk 0 false (some 18) none (.mv (.t 5)), .mk 1 false (some 19) none (.call 6 [.t 18]), .mk 2 false (some 6) none (.alloc 27 (.agg [.val (.int .i64 0), .val (.int .i64 0), .val (.int .i64 0), .val (.int .i64 0), .lst true [], .lst true [], .lst true [], .lst true [], .lst true [], .lst true [], .lst true []])), .mk 3 false none none (.store 11 (.t 6) (.t 19))]) (.seq (.seq (.lst [.mk 0 false (some 20) none (.mv (.t 5)), .mk 1 false (some 21) none (.call 11 [.t 20, .c (.val (.int .i64 6))]), .mk 2 false (some 22) none (.un .not (.t 21))]) (.cond (.t 22) (.lst [.mk 0 false (some 23) none (.mv (.t 5)), .mk 1 false (some 24) none (.call 17 [.t 23, .c (.val (.int .i64 1)), .c (.val (.int .i64 2))]), .mk 2 false (some 1) none (.mv (.t 24))]) .skip)) (.seq (.lst [.mk 0 false (some 25) none (.load true 11 (.t 6)), .mk 1 false (some 26) none (.call 7 [.t 25]), .mk 2 false (some 7) none (.mv (.t 26))]) (.seq (.block 0 (.seq (.lst [.mk 0 false (some 28) none (.mv (.t 7)), .mk 1 false (some 29) none (.bin .neq (.t 28) (.c (.val (.int .i64 0)))), .mk 2 false (some 27) none (.mv (.t 29))]) (.cond (.t 27) .skip (.seq (.lst [.mk 0 false (some 31) none (.mv (.t 1)), .mk 1 false (some 32) none (.bin .lss (.t 31) (.c (.val (.int .i64 1)))), .mk 2 false (some 33) none (.mv (.t 32)), .mk 3 false (some 34) (some (33, false)) (.mv (.t 1)), .mk 4 false (some 35) (some (33, false)) (.bin .gtr (.t 34) (.c (.val (.int .i64 2)))), .mk 5 false (some 36) none (.pick (.t 33) (.c (.val (.bool true))) (.t 35)), .mk 6 false (some 30) none (.mv (.t 36))]) (.cond (.t 30) (.lst [.mk 0 false (some 7) none (.mv (.c (.val (.int .i64 1))))]) (.seq (.lst [.mk 0 false (some 38) none (.mv (.t 1)), .mk 1 false (some 39) none (.bin .eql (.t 38) (.c (.val (.int .i64 1)))), .mk 2 false (some 40) none (.mv (.t 39)), .mk 3 false (some 41) (some (40, true)) (.fadr 3 (.t 6)), .mk 4 false (some 42) (some (40, true)) (.load false 1 (.t 41)), .mk 5 false (some 43) (some (40, true)) (.fadr 1 (.t 6)), .mk 6 false (some 44) (some (40, true)) (.load false 1 (.t 43)), .mk 7 false (some 45) (some (40, true)) (.bin .neq (.t 42) (.t 44)), .mk 8 false (some 46) none (.pick (.t 40) (.t 45) (.c (.val (.bool false)))), .mk 9 false (some 37) none (.mv (.t 46))]) (.cond (.t 37) (.lst [.mk 0 false (some 7) none (.mv (.c (.val (.int .i64 17))))]) .skip))))))) (.seq (.lst [.mk 0 false (some 48) none (.load true 11 (.t 6)), .mk 1 false (some 49) none (.mv (.t 1)), .mk 2 false (some 50) none (.call 18 [.t 48, .t 49]), .mk 3 false (some 47) none (.mv (.t 50)), .mk 4 false (some 51) none (.ext (.t 47) 0), .mk 5 false (some 52) none (.ext (.t 47) 1), .mk 6 false (some 8) none (.mv (.t 51)), .mk 7 false (some 9) none (.mv (.t 52))]) (.seq (.seq (.lst [.mk 0 false (some 53) none (.mv (.t 7)), .mk 1 false (some 54) none (.bin .neq (.t 53) (.c (.val (.int .i64 0))))]) (.cond (.t 54) (.seq (.lst [.mk 0 false (some 55) none (.mv (.t 9)), .mk 1 false (some 56) none (.mv (.t 7)), .mk 2 false (some 57) none (.bin .neq (.t 55) (.t 56)), .mk 3 false (some 58) none (.mv (.t 57)), .mk 4 false (some 59) (some (58, false)) (.mv (.t 8)), .mk 5 false (some 60) (some (58, false)) (.len (.t 59)), .mk 6 false (some 61) (some (58, false)) (.bin .neq (.t 60) (.c (.val (.int .i64 0)))), .mk 7 false (some 62) none (.pick (.t 58) (.c (.val (.bool true))) (.t 61))]) (.cond (.t 62) (.seq (.lst [.mk 0 false (some 4) none (.mv (.c (.val (.bool false))))]) .ret) .skip)) (.seq (.lst [.mk 0 false (some 63) none (.mv (.t 9)), .mk 1 false (some 64) none (.bin .neq (.t 63) (.c (.val (.int .i64 0)))), .mk 2 false (some 65) none (.mv (.t 64)), .mk 3 false (some 66) (some (65, false)) (.mv (.t 8)), .mk 4 false (some 67) (some (65, false)) (.load true 11 (.t 6)), .mk 5 false (some 68) (some (65, false)) (.mv (.t 1)), .mk 6 false (some 69) (some (65, false)) (.call 19 [.t 67, .t 68]), .mk 7 false (some 70) (some (65, false)) (.call 9 [.t 66, .t 69]), .mk 8 false (some 71) (some (65, false)) (.un .not (.t 70)), .mk 9 false (some 72) none (.pick (.t 65) (.c (.val (.bool true))) (.t 71))]) (.cond (.t 72) (.seq (.lst [.mk 0 false (some 4) none (.mv (.c (.val (.bool false))))]) .ret) .skip)))) (.seq (.flat [.mk 0 true (some 73) none (.load true 11 (.t 6)), .mk 1 true (some 74) none (.mv (.t 5)), .mk 2 false (some 75) none (.call 17 [.t 74, .c (.val (.int .i64 1)), .c (.val (.int .i64 2))]), .mk 3 false (some 76) none (.call 19 [.t 73, .t 75]), .mk 4 false (some 10) none (.mv (.t 76))]) (.seq (.seq (.lst [.mk 0 false (some 77) none (.mv (.t 5)), .mk 1 false (some 78) none (.call 11 [.t 77, .c (.val (.int .i64 2))])]) (.cond (.t 78) (.seq (.lst [.mk 0 false (some 79) none (.mv (.t 5)), .mk 1 false (some 80) none (.mv (.t 10)), .mk 2 false (some 81) none (.call 12 [.t 79, .t 80]), .mk 3 false (some 10) none (.mv (.t 81))]) (.seq (.lst [.mk 0 false (some 82) none (.mv (.t 5)), .mk 1 false (some 83) none (.call 11 [.t 82, .c (.val (.int .i64 2))])]) (.cond (.t 83) (.lst [.mk 0 false (some 84) none (.mv (.t 10)), .mk 1 false (some 85) none (.call 20 [.t 84]), .mk 2 false (some 10) none (.mv (.t 85))]) .skip))) .skip)) (.seq (.lst [.mk 0 false (some 87) none (.mv (.t 10)), .mk 1 false (some 88) none (.call 21 [.t 87]), .mk 2 false (some 86) none (.mv (.t 88)), .mk 3 false (some 89) none (.ext (.t 86) 0), .mk 4 false (some 90) none (.ext (.t 86) 1), .mk 5 false (some 91) none (.ext (.t 86) 2), .mk 6 false (some 11) none (.alloc 27 (.agg [.val (.int .i64 0), .val (.int .i64 0), .val (.int .i64 0), .val (.int .i64 0), .lst true [], .lst true [], .lst true [], .lst true [], .lst true [], .lst true [], .lst true []])), .mk 7 false none none (.store 11 (.t 11) (.t 89)), .mk 8 false (some 12) none (.mv (.t 90)), .mk 9 false (some 9) none (.mv (.t 91))]) (.seq (.lst [.mk 0 false (some 93) none (.mv (.t 10)), .mk 1 false (some 94) none (.call 22 [.t 93]), .mk 2 false (some 92) none (.mv (.t 94)), .mk 3 false (some 95) none (.ext (.t 92) 0), .mk 4 false (some 96) none (.ext (.t 92) 1), .mk 5 false (some 97) none (.ext (.t 92) 2), .mk 6 false (some 13) none (.alloc 27 (.agg [.val (.int .i64 0), .val (.int .i64 0), .val (.int .i64 0), .val (.int .i64 0), .lst true [], .lst true [], .lst true [], .lst true [], .lst true [], .lst true [], .lst true []])), .mk 7 false none none (.store 11 (.t 13) (.t 95)), .mk 8 false (some 14) none (.mv (.t 96)), .mk 9 false (some 7) none (.mv (.t 97))]) (.seq (.lst [.mk 0 false (some 98) none (.call 15 []), .mk 1 false (some 99) none (.mv (.t 98)), .mk 2 false (some 100) (some (99, true)) (.mv (.t 9)), .mk 3 false (some 101) (some (99, true)) (.mv (.t 7)), .mk 4 false (some 102) (some (99, true)) (.bin .eql (.t 100) (.t 101)), .mk 5 false (some 103) none (.pick (.t 99) (.t 102) (.c (.val (.bool false)))), .mk 6 false (some 104) none (.mv (.t 103)), .mk 7 false (some 105) (some (104, true)) (.mv (.t 12)), .mk 8 false (some 106) (some (104, true)) (.mv (.t 14)), .mk 9 false (some 107) (some (104, true)) (.bin .eql (.t 105) (.t 106)), .mk 10 false (some 108) none (.pick (.t 104) (.t 107) (.c (.val (.bool false)))), .mk 11 false (some 109) none (.mv (.t 108)), .mk 12 false (some 110) (some (109, true)) (.load true 11 (.t 11)), .mk 13 false (some 111) (some (109, true)) (.load true 11 (.t 13)), .mk 14 false (some 112) (some (109, true)) (.call 16 [.t 110, .t 111]), .mk 15 false (some 113) none (.pick (.t 109) (.t 112) (.c (.val (.bool false)))), .mk 16 false (some 4) none (.mv (.t 113))]) .ret))))))))))))) [.t 4]
theorem c_lawFiles : compF Tryz.prog 4 = some F_lawFiles := by kernel_rfl
def F_mWrite : FnM := FnM.mk 40 (.seq (.lst [.mk 0 false (some 2) none (.box 27 (.t 0)), .mk 1 false (some 4) none (.mv (.c (.lst true []))), .mk 2 false (some 5) none (.mv (.c (.val (.int .i64 0))))]) (.seq (.seq (.lst [.mk 0 false (some 7) none (.load true 11 (.t 2)), .mk 1 false (some 8) none (.call 46 [.t 7]), .mk 2 false (some 6) none (.mv (.t 8))]) (.block 0 (.seq (.lst [.mk 0 false (some 10) none (.mv (.t 6)), .mk 1 false (some 11) none (.bin .neq (.t 10) (.c (.val (.int .i64 0)))), .mk 2 false (some 9) none (.mv (.t 11))]) (.cond (.t 9) (.seq (.lst [.mk 0 false (some 12) none (.mv (.t 6)), .mk 1 false (some 4) none (.mv (.c (.lst true []))), .mk 2 false (some 5) none (.mv (.t 12))]) .ret) (.seq (.lst [.mk 0 false (some 14) none (.mv (.t 1)), .mk 1 false (some 15) none (.bin .neq (.t 14) (.c (.val (.int .i64 1)))), .mk 2 false (some 16) none (.mv (.t 15)), .mk 3 false (some 17) (some (16, true)) (.mv (.t 1)), .mk 4 false (some 18) (some (16, true)) (.bin .neq (.t 17) (.c (.val (.int .i64 2)))), .mk 5 false (some 19) none (.pick (.t 16) (.t 18) (.c (.val (.bool false)))), .mk 6 false (some 13) none (.mv (.t 19))]) (.cond (.t 13) (.seq (.lst [.mk 0 false (some 4) none (.mv (.c (.lst true []))), .mk 1 false (some 5) none (.mv (.c (.val (.int .i64 1))))]) .ret) (.seq (.lst [.mk 0 false (some 21) none (.mv (.t 1)), .mk 1 false (some 22) none (.bin .eql (.t 21) (.c (.val (.int .i64 1)))), .mk 2 false (some 23) none (.mv (.t 22)), .mk 3 false (some 24) (some (23, true)) (.fadr 3 (.t 2)), .mk 4 false (some 25) (some (23, true)) (.load false 1 (.t 24)), .mk 5 false (some 26) (some (23, true)) (.fadr 1 (.t 2)), .mk 6 false (some 27) (some (23, true)) (.load false 1 (.t 26)), .mk 7 false (some 28) (some (23, true)) (.bin .neq (.t 25) (.t 27)), .mk 8 false (some 29) none (.pick (.t 23) (.t 28) (.c (.val (.bool false)))), .mk 9 false (some 20) none (.mv (.t 29))]) (.cond (.t 20) (.seq (.lst [.mk 0 false (some 4) none (.mv (.c (.lst true []))), .mk 1 false (some 5) none (.mv (.c (.val (.int .i64 17))))]) .ret) .skip)))))))) (.seq (.seq (.lst [.mk 0 false (some 30) none (.mv (.t 1)), .mk 1 false (some 31) none (.bin .eql (.t 30) (.c (.val (.int .i64 1))))]) (.cond (.t 31) (.lst [.mk 0 false (some 32) none (.fadr 3 (.t 2)), .mk 1 false none none (.store 1 (.t 32) (.c (.val (.int .i64 0))))]) .skip)) (.seq (.lst [.mk 0 false (some 33) none (.mv (.t 1)), .mk 1 false (some 34) none (.conv .u8 (.t 33)), .mk 2 false (some 35) none (.bsl 5 1 3 (.val (.int .u8 0)) [(0, .c (.val (.int .u8 119))), (1, .c (.val (.int .u8 109))), (2, .t 34)]), .mk 3 false (some 36) none (.load true 11 (.t 2)), .mk 4 false (some 37) none (.call 47 [.t 36]), .mk 5 false (some 38) none (.app 5 1 1 (.t 35) (.t 37)), .mk 6 false (some 39) none (.call 57 [.t 38]), .mk 7 false (some 4) none (.mv (.t 39)), .mk 8 false (some 5) none (.mv (.c (.val (.int .i64 0))))]) .ret)))) [.t 4, .t 5]
theorem c_mWrite : compF Tryz.prog 18 = some F_mWrite := by kernel_rfl
def F_mOpen : FnM := FnM.mk 76 (.seq (.lst [.mk 0 false (some 2) none (.alloc 27 (.agg [.val (.int .i64 0), .val (.int .i64 0), .val (.int .i64 0), .val (.int .i64 0), .lst true [], .lst true [], .lst true [], .lst true [], .lst true [], .lst true [], .lst true []])), .mk 1 false (some 3) none (.mv (.c (.val (.int .i64 0)))), .mk 2 false (some 4) none (.mv (.c (.val (.int .i64 0))))]) (.seq (.block 0 (.seq (.lst [.mk 0 false (some 9) none (.mv (.t 0)), .mk 1 false (some 10) none (.len (.t 9)), .mk 2 false (some 11) none (.bin .lss (.t 10) (.c (.val (.int .i64 7)))), .mk 3 false (some 8) none (.mv (.t 11))]) (.cond (.t 8) (.seq (.lst [.mk 0 false (some 12) none (.bld [.val (.int .i64 0), .val (.int .i64 0), .val (.int .i64 0), .val (.int .i64 0), .lst true [], .lst true [], .lst true [], .lst true [], .lst true [], .lst true [], .lst true []] []), .mk 1 false none none (.store 11 (.t 2) (.t 12)), .mk 2 false (some 3) none (.mv (.c (.val (.int .i64 0)))), .mk 3 false (some 4) none (.mv (.c (.val (.int .i64 11))))]) .ret) (.seq (.lst [.mk 0 false (some 14) none (.mv (.t 0)), .mk 1 false (some 15) none (.call 61 [.t 14]), .mk 2 false (some 16) none (.un .not (.t 15)), .mk 3 false (some 13) none (.mv (.t 16))]) (.cond (.t 13) (.seq (.lst [.mk 0 false (some 17) none (.bld [.val (.int .i64 0), .val (.int .i64 0), .val (.int .i64 0), .val (.int .i64 0), .lst true [], .lst true [], .lst true [], .lst true [], .lst true [], .lst true [], .lst true []] []), .mk 1 false none none (.store 11 (.t 2) (.t 17)), .mk 2 false (some 3) none (.mv (.c (.val (.int .i64 0)))), .mk 3 false (some 4) none (.mv (.c (.val (.int .i64 12))))]) .ret) (.seq (.lst [.mk 0 false (some 19) none (.mv (.t 0)), .mk 1 false (some 20) none (.iadr 1 (.t 19) (.c (.val (.int .i64 4)))), .mk 2 false (some 21) none (.load false 1 (.t 20)), .mk 3 false (some 22) none (.bin .neq (.t 21) (.c (.val (.int .u8 119)))), .mk 4 false (some 23) none (.mv (.t 22)), .mk 5 false (some 24) (some (23, false)) (.mv (.t 0)), .mk 6 false (some 25) (some (23, false)) (.iadr 1 (.t 24) (.c (.val (.int .i64 5)))), .mk 7 false (some 26) (some (23, false)) (.load false 1 (.t 25)), .mk 8 false (some 27) (some (23, false)) (.bin .neq (.t 26) (.c (.val (.int .u8 109)))), .mk 9 false (some 28) none (.pick (.t 23) (.c (.val (.bool true))) (.t 27)), .mk 10 false (some 29) none (.mv (.t 28)), .mk 11 false (some 30) (some (29, false)) (.mv (.t 0)), .mk 12 false (some 31) (some (29, false)) (.iadr 1 (.t 30) (.c (.val (.int .i64 6)))), .mk 13 false (some 32) (some (29, false)) (.load false 1 (.t 31)), .mk 14 false (some 33) (some (29, false)) (.bin .neq (.t 32) (.c (.val (.int .u8 1)))), .mk 15 false (some 34) (some (29, false)) (.mv (.t 33)), .mk 16 false (some 35) (some (34, true)) (.mv (.t 0)), .mk 17 false (some 36) (some (34, true)) (.iadr 1 (.t 35) (.c (.val (.int .i64 6)))), .mk 18 false (some 37) (some (34, true)) (.load false 1 (.t 36)), .mk 19 false (some 38) (some (34, true)) (.bin .neq (.t 37) (.c (.val (.int .u8 2)))), .mk 20 false (some 39) (some (29, false)) (.pick (.t 34) (.t 38) (.c (.val (.bool false)))), .mk 21 false (some 40) none (.pick (.t 29) (.c (.val (.bool true))) (.t 39)), .mk 22 false (some 18) none (.mv (.t 40))]) (.cond (.t 18) (.seq (.lst [.mk 0 false (some 41) none (.bld [.val (.int .i64 0), .val (.int .i64 0), .val (.int .i64 0), .val (.int .i64 0), .lst true [], .lst true [], .lst true [], .lst true [], .lst true [], .lst true [], .lst true []] []), .mk 1 false none none (.store 11 (.t 2) (.t 41)), .mk 2 false (some 3) none (.mv (.c (.val (.int .i64 0)))), .mk 3 false (some 4) none (.mv (.c (.val (.int .i64 4))))]) .ret) .skip))))))) (.seq (.lst [.mk 0 false (some 42) none (.mv (.t 0)), .mk 1 false (some 43) none (.iadr 1 (.t 42) (.c (.val (.int .i64 6)))), .mk 2 false (some 44) none (.load false 1 (.t 43)), .mk 3 false (some 45) none (.conv .i64 (.t 44)), .mk 4 false (some 5) none (.mv (.t 45))]) (.seq (.lst [.mk 0 false (some 47) none (.mv (.t 0)), .mk 1 false (some 48) none (.sl 1 (.t 47) (some (.c (.val (.int .i64 7)))) none), .mk 2 false (some 49) none (.call 50 [.t 48]), .mk 3 false (some 46) none (.mv (.t 49)), .mk 4 false (some 50) none (.ext (.t 46) 0), .mk 5 false (some 51) none (.ext (.t 46) 1), .mk 6 false (some 6) none (.alloc 27 (.agg [.val (.int .i64 0), .val (.int .i64 0), .val (.int .i64 0), .val (.int .i64 0), .lst true [], .lst true [], .lst true [], .lst true [], .lst true [], .lst true [], .lst true []])), .mk 7 false none none (.store 11 (.t 6) (.t 50)), .mk 8 false (some 7) none (.mv (.t 51))]) (.seq (.seq (.lst [.mk 0 false (some 52) none (.mv (.t 7)), .mk 1 false (some 53) none (.bin .neq (.t 52) (.c (.val (.int .i64 0))))]) (.cond (.t 53) (.seq (.lst [.mk 0 false (some 54) none (.bld [.val (.int .i64 0), .val (.int .i64 0), .val (.int .i64 0), .val (.int .i64 0), .lst true [], .lst true [], .lst true [], .lst true [], .lst true [], .lst true [], .lst true []] []), .mk 1 false (some 55) none (.mv (.t 7)), .mk 2 false none none (.store 11 (.t 2) (.t 54)), .mk 3 false (some 3) none (.mv (.c (.val (.int .i64 0)))), .mk 4 false (some 4) none (.mv (.t 55))]) .ret) .skip)) (.seq (.seq (.lst [.mk 0 false (some 56) none (.mv (.t 5)), .mk 1 false (some 57) none (.bin .eql (.t 56) (.c (.val (.int .i64 1))))]) (.cond (.t 57) (.seq (.seq (.lst [.mk 0 false (some 58) none (.fadr 3 (.t 6)), .mk 1 false (some 59) none (.load false 1 (.t 58)), .mk 2 false (some 60) none (.bin .neq (.t 59) (.c (.val (.int .i64 0))))]) (.cond (.t 60) (.seq (.lst [.mk 0 false (some 61) none (.bld [.val (.int .i64 0), .val (.int .i64 0), .val (.int .i64 0), .val (.int .i64 0), .lst true [], .lst true [], .lst true [], .lst true [], .lst true [], .lst true [], .lst true []] []), .mk 1 false none none (.store 11 (.t 2) (.t 61)), .mk 2 false (some 3) none (.mv (.c (.val (.int .i64 0)))), .mk 3 false (some 4) none (.mv (.c (.val (.int .i64 3))))]) .ret) .skip)) (.lst [.mk 0 false (some 62) none (.fadr 1 (.t 6)), .mk 1 false (some 63) none (.load false 1 (.t 62)), .mk 2 false (some 64) none (.fadr 3 (.t 6)), .mk 3 false none none (.store 1 (.t 64) (.t 63))])) .skip)) (.seq (.seq (.lst [.mk 0 false (some 66) none (.load true 11 (.t 6)), .mk 1 false (some 67) none (.call 51 [.t 66]), .mk 2 false (some 65) none (.mv (.t 67)), .mk 3 false (some 68) none (.ext (.t 65) 0), .mk 4 false (some 69) none (.ext (.t 65) 1), .mk 5 false none none (.store 11 (.t 6) (.t 68)), .mk 6 false (some 7) none (.mv (.t 69))]) (.seq (.lst [.mk 0 false (some 70) none (.mv (.t 7)), .mk 1 false (some 71) none (.bin .neq (.t 70) (.c (.val (.int .i64 0))))]) (.cond (.t 71) (.seq (.lst [.mk 0 false (some 72) none (.bld [.val (.int .i64 0), .val (.int .i64 0), .val (.int .i64 0), .val (.int .i64 0), .lst true [], .lst true [], .lst true [], .lst true [], .lst true [], .lst true [], .lst true []] []), .mk 1 false (some 73) none (.mv (.t 7)), .mk 2 false none none (.store 11 (.t 2) (.t 72)), .mk 3 false (some 3) none (.mv (.c (.val (.int .i64 0)))), .mk 4 false (some 4) none (.mv (.t 73))]) .ret) .skip))) (.seq (.lst [.mk 0 false (some 74) none (.load true 11 (.t 6)), .mk 1 false (some 75) none (.mv (.t 5)), .mk 2 false none none (.store 11 (.t 2) (.t 74)), .mk 3 false (some 3) none (.mv (.t 75)), .mk 4 false (some 4) none (.mv (.c (.val (.int .i64 0))))]) .ret)))))))) [.c 2 true 11, .t 3, .t 4]
theorem c_mOpen : compF Tryz.prog 21 = some F_mOpen := by kernel_rfl
def F_rFile : FnM := FnM.mk 16 (.seq (.lst [.mk 0 false (some 2) none (.box 27 (.t 0)), .mk 1 false (some 4) none (.mv (.c (.lst true [])))]) (.seq (.seq (.lst [.mk 0 false (some 5) none (.mv (.t 1)), .mk 1 false (some 6) none (.bin .eql (.t 5) (.c (.val (.int .i64 1))))]) (.cond (.t 6) (.lst [.mk 0 false (some 7) none (.fadr 3 (.t 2)), .mk 1 false none none (.store 1 (.t 7) (.c (.val (.int .i64 0))))]) .skip)) (.seq (.lst [.mk 0 false (some 8) none (.mv (.t 1)), .mk 1 false (some 9) none (.conv .u8 (.t 8)), .mk 2 false (some 10) none (.bsl 5 1 3 (.val (.int .u8 0)) [(0, .c (.val (.int .u8 119))), (1, .c (.val (.int .u8 109))), (2, .t 9)]), .mk 3 false (some 11) none (.load true 11 (.t 2)), .mk 4 false (some 12) none (.call 10 [.t 11]), .mk 5 false (some 13) none (.bsl 31 1 2 (.lst true []) [(0, .t 10), (1, .t 12)]), .mk 6 false (some 14) none (.call 59 [.t 13]), .mk 7 false (some 15) none (.call 58 [.t 14]), .mk 8 false (some 4) none (.mv (.t 15))]) .ret))) [.t 4]
theorem c_rFile : compF Tryz.prog 19 = some F_rFile := by kernel_rfl
def F_rOpen : FnM := FnM.mk 78 (.seq (.lst [.mk 0 false (some 2) none (.alloc 27 (.agg [.val (.int .i64 0), .val (.int .i64 0), .val (.int .i64 0), .val (.int .i64 0), .lst true [], .lst true [], .lst true [], .lst true [], .lst true [], .lst true [], .lst true []])), .mk 1 false (some 3) none (.mv (.c (.val (.int .i64 0)))), .mk 2 false (some 4) none (.mv (.c (.val (.int .i64 0))))]) (.seq (.block 0 (.seq (.lst [.mk 0 false (some 8) none (.mv (.t 0)), .mk 1 false (some 9) none (.len (.t 8)), .mk 2 false (some 10) none (.bin .lss (.t 9) (.c (.val (.int .i64 7)))), .mk 3 false (some 7) none (.mv (.t 10))]) (.cond (.t 7) (.seq (.lst [.mk 0 false (some 11) none (.bld [.val (.int .i64 0), .val (.int .i64 0), .val (.int .i64 0), .val (.int .i64 0), .lst true [], .lst true [], .lst true [], .lst true [], .lst true [], .lst true [], .lst true []] []), .mk 1 false none none (.store 11 (.t 2) (.t 11)), .mk 2 false (some 3) none (.mv (.c (.val (.int .i64 0)))), .mk 3 false (some 4) none (.mv (.c (.val (.int .i64 11))))]) .ret) (.seq (.flat [.mk 0 true (some 13) none (.mv (.t 0)), .mk 2 true (some 15) none (.mv (.t 0)), .mk 3 true (some 16) none (.sl 1 (.t 15) (some (.c (.val (.int .i64 4)))) none), .mk 1 false (some 14) none (.call 62 [.t 13]), .mk 4 false (some 17) none (.call 60 [.t 16]), .mk 5 false (some 18) none (.bin .neq (.t 14) (.t 17)), .mk 6 false (some 12) none (.mv (.t 18))]) (.cond (.t 12) (.seq (.lst [.mk 0 false (some 19) none (.bld [.val (.int .i64 0), .val (.int .i64 0), .val (.int .i64 0), .val (.int .i64 0), .lst true [], .lst true [], .lst true [], .lst true [], .lst true [], .lst true [], .lst true []] []), .mk 1 false none none (.store 11 (.t 2) (.t 19)), .mk 2 false (some 3) none (.mv (.c (.val (.int .i64 0)))), .mk 3 false (some 4) none (.mv (.c (.val (.int .i64 12))))]) .ret) (.seq (.lst [.mk 0 false (some 21) none (.mv (.t 0)), .mk 1 false (some 22) none (.iadr 1 (.t 21) (.c (.val (.int .i64 4)))), .mk 2 false (some 23) none (.load false 1 (.t 22)), .mk 3 false (some 24) none (.bin .neq (.t 23) (.c (.val (.int .u8 119)))), .mk 4 false (some 25) none (.mv (.t 24)), .mk 5 false (some 26) (some (25, false)) (.mv (.t 0)), .mk 6 false (some 27) (some (25, false)) (.iadr 1 (.t 26) (.c (.val (.int .i64 5)))), .mk 7 false (some 28) (some (25, false)) (.load false 1 (.t 27)), .mk 8 false (some 29) (some (25, false)) (.bin .neq (.t 28) (.c (.val (.int .u8 109)))), .mk 9 false (some 30) none (.pick (.t 25) (.c (.val (.bool true))) (.t 29)), .mk 10 false (some 31) none (.mv (.t 30)), .mk 11 false (some 32) (some (31, false)) (.mv (.t 0)), .mk 12 false (some 33) (some (31, false)) (.iadr 1 (.t 32) (.c (.val (.int .i64 6)))), .mk 13 false (some 34) (some (31, false)) (.load false 1 (.t 33)), .mk 14 false (some 35) (some (31, false)) (.bin .lss (.t 34) (.c (.val (.int .u8 1)))), .mk 15 false (some 36) none (.pick (.t 31) (.c (.val (.bool true))) (.t 35)), .mk 16 false (some 37) none (.mv (.t 36)), .mk 17 false (some 38) (some (37, false)) (.mv (.t 0)), .mk 18 false (some 39) (some (37, false)) (.iadr 1 (.t 38) (.c (.val (.int .i64 6)))), .mk 19 false (some 40) (some (37, false)) (.load false 1 (.t 39)), .mk 20 false (some 41) (some (37, false)) (.bin .gtr (.t 40) (.c (.val (.int .u8 2)))), .mk 21 false (some 42) none (.pick (.t 37) (.c (.val (.bool true))) (.t 41)), .mk 22 false (some 20) none (.mv (.t 42))]) (.cond (.t 20) (.seq (.lst [.mk 0 false (some 43) none (.bld [.val (.int .i64 0), .val (.int .i64 0), .val (.int .i64 0), .val (.int .i64 0), .lst true [], .lst true [], .lst true [], .lst true [], .lst true [], .lst true [], .lst true []] []), .mk 1 false none none (.store 11 (.t 2) (.t 43)), .mk 2 false (some 3) none (.mv (.c (.val (.int .i64 0)))), .mk 3 false (some 4) none (.mv (.c (.val (.int .i64 4))))]) .ret) .skip))))))) (.seq (.lst [.mk 0 false (some 45) none (.mv (.t 0)), .mk 1 false (some 46) none (.sl 1 (.t 45) (some (.c (.val (.int .i64 7)))) none), .mk 2 false (some 47) none (.call 52 [.t 46]), .mk 3 false (some 44) none (.mv (.t 47)), .mk 4 false (some 48) none (.ext (.t 44) 0), .mk 5 false (some 49) none (.ext (.t 44) 1), .mk 6 false (some 5) none (.alloc 27 (.agg [.val (.int .i64 0), .val (.int .i64 0), .val (.int .i64 0), .val (.int .i64 0), .lst true [], .lst true [], .lst true [], .lst true [], .lst true [], .lst true [], .lst true []])), .mk 7 false none none (.store 11 (.t 5) (.t 48)), .mk 8 false (some 6) none (.mv (.t 49))]) (.seq (.seq (.lst [.mk 0 false (some 50) none (.mv (.t 6)), .mk 1 false (some 51) none (.bin .eql (.t 50) (.c (.val (.int .i64 0)))), .mk 2 false (some 52) none (.mv (.t 51)), .mk 3 false (some 53) (some (52, true)) (.mv (.t 0)), .mk 4 false (some 54) (some (52, true)) (.iadr 1 (.t 53) (.c (.val (.int .i64 6)))), .mk 5 false (some 55) (some (52, true)) (.load false 1 (.t 54)), .mk 6 false (some 56) (some (52, true)) (.bin .eql (.t 55) (.c (.val (.int .u8 1)))), .mk 7 false (some 57) none (.pick (.t 52) (.t 56) (.c (.val (.bool false))))]) (.cond (.t 57) (.seq (.seq (.lst [.mk 0 false (some 58) none (.fadr 3 (.t 5)), .mk 1 false (some 59) none (.load false 1 (.t 58)), .mk 2 false (some 60) none (.bin .neq (.t 59) (.c (.val (.int .i64 0))))]) (.cond (.t 60) (.lst [.mk 0 false (some 6) none (.mv (.c (.val (.int .i64 3))))]) .skip)) (.lst [.mk 0 false (some 61) none (.fadr 1 (.t 5)), .mk 1 false (some 62) none (.load false 1 (.t 61)), .mk 2 false (some 63) none (.fadr 3 (.t 5)), .mk 3 false none none (.store 1 (.t 63) (.t 62))])) .skip)) (.seq (.seq (.lst [.mk 0 false (some 64) none (.mv (.t 6)), .mk 1 false (some 65) none (.bin .eql (.t 64) (.c (.val (.int .i64 0))))]) (.cond (.t 65) (.lst [.mk 0 false (some 66) none (.load true 11 (.t 5)), .mk 1 false (some 67) none (.call 7 [.t 66]), .mk 2 false (some 6) none (.mv (.t 67))]) .skip)) (.seq (.seq (.lst [.mk 0 false (some 68) none (.mv (.t 6)), .mk 1 false (some 69) none (.bin .neq (.t 68) (.c (.val (.int .i64 0))))]) (.cond (.t 69) (.seq (.lst [.mk 0 false (some 70) none (.bld [.val (.int .i64 0), .val (.int .i64 0), .val (.int .i64 0), .val (.int .i64 0), .lst true [], .lst true [], .lst true [], .lst true [], .lst true [], .lst true [], .lst true []] []), .mk 1 false (some 71) none (.mv (.t 6)), .mk 2 false none none (.store 11 (.t 2) (.t 70)), .mk 3 false (some 3) none (.mv (.c (.val (.int .i64 0)))), .mk 4 false (some 4) none (.mv (.t 71))]) .ret) .skip)) (.seq (.flat [.mk 0 true (some 72) none (.load true 11 (.t 5)), .mk 1 true (some 73) none (.mv (.t 0)), .mk 2 true (some 74) none (.iadr 1 (.t 73) (.c (.val (.int .i64 6)))), .mk 3 true (some 75) none (.load false 1 (.t 74)), .mk 4 true (some 76) none (.conv .i64 (.t 75)), .mk 5 true (some 77) none (.mv (.t 6)), .mk 6 false none none (.store 11 (.t 2) (.t 72)), .mk 7 true (some 3) none (.mv (.t 76)), .mk 8 true (some 4) none (.mv (.t 77))]) .ret))))))) [.c 2 true 11, .t 3, .t 4]
theorem c_rOpen : compF Tryz.prog 22 = some F_rOpen := by kernel_rfl
def F_repaired : FnM := FnM.mk 27 (.seq (.lst [.mk 0 false (some 2) none (.mv (.c (.lst true [])))]) (.seq (.seq (.lst [.mk 0 false (some 4) none (.mv (.t 0)), .mk 1 false (some 5) none (.len (.t 4)), .mk 2 false (some 6) none (.bin .lss (.t 5) (.c (.val (.int .i64 5))))]) (.cond (.t 6) (.seq (.lst [.mk 0 false (some 7) none (.mv (.t 0)), .mk 1 false (some 2) none (.mv (.t 7))]) .ret) .skip)) (.seq (.lst [.mk 0 false (some 8) none (.mv (.t 0)), .mk 1 false (some 9) none (.sl 1 (.t 8) (some (.c (.val (.int .i64 4)))) none), .mk 2 false (some 10) none (.call 60 [.t 9]), .mk 3 false (some 3) none (.mv (.t 10))]) (.seq (.lst [.mk 0 false (some 11) none (.mv (.t 3)), .mk 1 false (some 12) none (.conv .u8 (.t 11)), .mk 2 false (some 13) none (.mv (.t 3)), .mk 3 false (some 14) none (.bin .shr (.t 13) (.c (.val (.int .u64 8)))), .mk 4 false (some 15) none (.conv .u8 (.t 14)), .mk 5 false (some 16) none (.mv (.t 3)), .mk 6 false (some 17) none (.bin .shr (.t 16) (.c (.val (.int .u64 16)))), .mk 7 false (some 18) none (.conv .u8 (.t 17)), .mk 8 false (some 19) none (.mv (.t 3)), .mk 9 false (some 20) none (.bin .shr (.t 19) (.c (.val (.int .u64 24)))), .mk 10 false (some 21) none (.conv .u8 (.t 20)), .mk 11 false (some 22) none (.bsl 5 1 4 (.val (.int .u8 0)) [(0, .t 12), (1, .t 15), (2, .t 18), (3, .t 21)]), .mk 12 false (some 23) none (.mv (.t 0)), .mk 13 false (some 24) none (.sl 1 (.t 23) (some (.c (.val (.int .i64 4)))) none), .mk 14 false (some 25) none (.bsl 31 1 2 (.lst true []) [(0, .t 22), (1, .t 24)]), .mk 15 false (some 26) none (.call 59 [.t 25]), .mk 16 false (some 2) none (.mv (.t 26))]) .ret)))) [.t 2]
theorem c_repaired : compF Tryz.prog 20 = some F_repaired := by kernel_rfl
def F_sealed : FnM := FnM.mk 8 (.seq (.lst [.mk 0 false (some 2) none (.mv (.c (.lst true [])))]) (.seq (.lst [.mk 0 false (some 3) none (.mv (.t 0)), .mk 1 false (some 4) none (.call 106 [.t 3]), .mk 2 false (some 5) none (.call 105 [.t 4]), .mk 3 false (some 6) none (.mv (.t 0)), .mk 4 false (some 7) none (.app 5 1 1 (.t 5) (.t 6)), .mk 5 false (some 2) none (.mv (.t 7))]) .ret)) [.t 2]
theorem c_sealed : compF Tryz.prog 57 = some F_sealed := by kernel_rfl
def F_coded : FnM := FnM.mk 9 (.seq (.lst [.mk 0 false (some 2) none (.mv (.c (.lst true [])))]) (.seq (.lst [.mk 0 false (some 3) none (.mv (.t 0)), .mk 1 false (some 4) none (.call 60 [.t 3]), .mk 2 false (some 5) none (.call 107 [.t 4]), .mk 3 false (some 6) none (.mv (.t 0)), .mk 4 false (some 7) none (.bsl 31 1 2 (.lst true []) [(0, .t 5), (1, .t 6)]), .mk 5 false (some 8) none (.call 59 [.t 7]), .mk 6 false (some 2) none (.mv (.t 8))]) .ret)) [.t 2]
theorem c_coded : compF Tryz.prog 58 = some F_coded := by kernel_rfl
def F_concB : FnM := FnM.mk 36 (.seq (.lst [.mk 0 false (some 2) none (.mv (.c (.lst true [])))]) (.seq (.lst [.mk 0 false (some 3) none (.mv (.c (.val (.int .i64 0))))]) (.seq (.seq (.lst [.mk 0 false (some 9) none (.mv (.t 0)), .mk 1 false (some 10) none (.len (.t 9)), .mk 2 false (some 11) none (.mv (.c (.val (.int .i64 0))))]) (.block 0 (.loop (.seq (.lst [.mk 0 false (some 12) none (.bin .lss (.t 11) (.t 10))]) (.seq (.cond (.t 12) .skip (.exit 0)) (.seq (.block 1 (.seq (.lst [.mk 0 false (some 13) none (.iadr 1 (.t 9) (.t 11)), .mk 1 false (some 14) none (.load false 1 (.t 13)), .mk 2 false (some 5) none (.mv (.t 14))]) (.seq (.lst [.mk 0 false (some 15) none (.mv (.t 3)), .mk 1 false (some 16) none (.mv (.t 5)), .mk 2 false (some 17) none (.len (.t 16)), .mk 3 false (some 18) none (.bin .add (.t 15) (.t 17)), .mk 4 false (some 3) none (.mv (.t 18))]) (.seq (.lst [.mk 0 false (some 19) none (.mv (.t 3)), .mk 1 false (some 20) none (.bin .lss (.t 19) (.c (.val (.int .i64 0))))]) (.cond (.t 20) (.lst [.mk 0 false (some 21) none (.mkif 9 (.c (.val (Value.string (ByteArray.mk #[108, 101, 110, 32, 111, 117, 116, 32, 111, 102, 32, 114, 97, 110, 103, 101]))))), .mk 1 false none none (.pan (.t 21))]) .skip))))) (.lst [.mk 0 false (some 22) none (.bin .add (.t 11) (.c (.val (.int .i64 1)))), .mk 1 false (some 11) none (.mv (.t 22))]))))))) (.seq (.lst [.mk 0 false (some 23) none (.mv (.t 3)), .mk 1 false (some 24) none (.call 108 [.c (.lst true []), .t 23]), .mk 2 false (some 6) none (.mv (.t 24))]) (.seq (.seq (.lst [.mk 0 false (some 25) none (.mv (.t 0)), .mk 1 false (some 26) none (.len (.t 25)), .mk 2 false (some 27) none (.mv (.c (.val (.int .i64 0))))]) (.block 2 (.loop (.seq (.lst [.mk 0 false (some 28) none (.bin .lss (.t 27) (.t 26))]) (.seq (.cond (.t 28) .skip (.exit 2)) (.seq (.block 3 (.seq (.lst [.mk 0 false (some 29) none (.iadr 1 (.t 25) (.t 27)), .mk 1 false (some 30) none (.load false 1 (.t 29)), .mk 2 false (some 8) none (.mv (.t 30))]) (.lst [.mk 0 false (some 31) none (.mv (.t 6)), .mk 1 false (some 32) none (.mv (.t 8)), .mk 2 false (some 33) none (.app 5 1 1 (.t 31) (.t 32)), .mk 3 false (some 6) none (.mv (.t 33))]))) (.lst [.mk 0 false (some 34) none (.bin .add (.t 27) (.c (.val (.int .i64 1)))), .mk 1 false (some 27) none (.mv (.t 34))]))))))) (.seq (.lst [.mk 0 false (some 35) none (.mv (.t 6)), .mk 1 false (some 2) none (.mv (.t 35))]) .ret)))))) [.t 2]
theorem c_concB : compF Tryz.prog 59 = some F_concB := by kernel_rfl
def F_growB : FnM := FnM.mk 27 (.seq (.lst [.mk 0 false (some 4) none (.mv (.c (.lst true [])))]) (.seq (.seq (.lst [.mk 0 false (some 5) none (.mv (.t 1)), .mk 1 false (some 6) none (.bin .lss (.t 5) (.c (.val (.int .i64 0))))]) (.cond (.t 6) (.lst [.mk 0 false (some 7) none (.mkif 9 (.c (.val (Value.string (ByteArray.mk #[99, 97, 110, 110, 111, 116, 32, 98, 101, 32, 110, 101, 103, 97, 116, 105, 118, 101]))))), .mk 1 false none none (.pan (.t 7))]) .skip)) (.seq (.seq (.lst [.mk 0 false (some 8) none (.mv (.t 1)), .mk 1 false (some 9) none (.mv (.t 0)), .mk 2 false (some 10) none (.cap (.t 9)), .mk 3 false (some 11) none (.mv (.t 0)), .mk 4 false (some 12) none (.len (.t 11)), .mk 5 false (some 13) none (.bin .sub (.t 10) (.t 12)), .mk 6 false (some 14) none (.bin .sub (.t 8) (.t 13)), .mk 7 false (some 1) none (.mv (.t 14))]) (.seq (.lst [.mk 0 false (some 15) none (.mv (.t 1)), .mk 1 false (some 16) none (.bin .gtr (.t 15) (.c (.val (.int .i64 0))))]) (.cond (.t 16) (.lst [.mk 0 false (some 17) none (.mv (.t 0)), .mk 1 false (some 18) none (.mv (.t 0)), .mk 2 false (some 19) none (.cap (.t 18)), .mk 3 false (some 20) none (.sl 1 (.t 17) none (some (.t 19))), .mk 4 false (some 21) none (.mv (.t 1)), .mk 5 false (some 22) none (.apz 5 1 1 (.val (.int .u8 0)) (.t 20) (.t 21)), .mk 6 false (some 23) none (.mv (.t 0)), .mk 7 false (some 24) none (.len (.t 23)), .mk 8 false (some 25) none (.sl 1 (.t 22) none (some (.t 24))), .mk 9 false (some 0) none (.mv (.t 25))]) .skip))) (.seq (.lst [.mk 0 false (some 26) none (.mv (.t 0)), .mk 1 false (some 4) none (.mv (.t 26))]) .ret)))) [.t 4]
theorem c_growB : compF Tryz.prog 108 = some F_growB := by kernel_rfl
def F_intact : FnM := FnM.mk 9 (.seq (.lst [.mk 0 false (some 2) none (.mv (.c (.val (.bool false))))]) (.seq (.flat [.mk 0 true (some 3) none (.mv (.t 0)), .mk 2 true (some 5) none (.mv (.t 0)), .mk 3 true (some 6) none (.sl 1 (.t 5) (some (.c (.val (.int .i64 4)))) none), .mk 1 false (some 4) none (.call 109 [.t 3]), .mk 4 false (some 7) none (.call 106 [.t 6]), .mk 5 false (some 8) none (.bin .eql (.t 4) (.t 7)), .mk 6 false (some 2) none (.mv (.t 8))]) .ret)) [.t 2]
theorem c_intact : compF Tryz.prog 61 = some F_intact := by kernel_rfl
def F_wide : FnM := FnM.mk 25 (.seq (.lst [.mk 0 false (some 2) none (.mv (.c (.val (.int .i64 0))))]) (.seq (.flat [.mk 0 true (some 3) none (.mv (.t 0)), .mk 1 true (some 4) none (.iadr 1 (.t 3) (.c (.val (.int .i64 0)))), .mk 2 true (some 5) none (.load false 1 (.t 4)), .mk 3 true (some 6) none (.conv .i64 (.t 5)), .mk 4 true (some 7) none (.mv (.t 0)), .mk 5 true (some 8) none (.iadr 1 (.t 7) (.c (.val (.int .i64 1)))), .mk 6 true (some 9) none (.load false 1 (.t 8)), .mk 7 true (some 10) none (.conv .i64 (.t 9)), .mk 8 true (some 11) none (.bin .shl (.t 10) (.c (.val (.int .u64 8)))), .mk 9 true (some 12) none (.bin .or (.t 6) (.t 11)), .mk 10 true (some 13) none (.mv (.t 0)), .mk 11 true (some 14) none (.iadr 1 (.t 13) (.c (.val (.int .i64 2)))), .mk 12 true (some 15) none (.load false 1 (.t 14)), .mk 13 true (some 16) none (.conv .i64 (.t 15)), .mk 14 true (some 17) none (.bin .shl (.t 16) (.c (.val (.int .u64 16)))), .mk 15 true (some 18) none (.bin .or (.t 12) (.t 17)), .mk 16 true (some 19) none (.mv (.t 0)), .mk 17 true (some 20) none (.iadr 1 (.t 19) (.c (.val (.int .i64 3)))), .mk 18 true (some 21) none (.load false 1 (.t 20)), .mk 19 true (some 22) none (.conv .i64 (.t 21)), .mk 20 true (some 23) none (.bin .shl (.t 22) (.c (.val (.int .u64 24)))), .mk 21 true (some 24) none (.bin .or (.t 18) (.t 23)), .mk 22 true (some 2) none (.mv (.t 24))]) .ret)) [.t 2]
theorem c_wide : compF Tryz.prog 62 = some F_wide := by kernel_rfl
def F_read4 : FnM := FnM.mk 25 (.seq (.lst [.mk 0 false (some 2) none (.mv (.c (.val (.int .i64 0))))]) (.seq (.flat [.mk 0 true (some 3) none (.mv (.t 0)), .mk 1 true (some 4) none (.iadr 1 (.t 3) (.c (.val (.int .i64 0)))), .mk 2 true (some 5) none (.load false 1 (.t 4)), .mk 3 true (some 6) none (.conv .i64 (.t 5)), .mk 4 true (some 7) none (.mv (.t 0)), .mk 5 true (some 8) none (.iadr 1 (.t 7) (.c (.val (.int .i64 1)))), .mk 6 true (some 9) none (.load false 1 (.t 8)), .mk 7 true (some 10) none (.conv .i64 (.t 9)), .mk 8 true (some 11) none (.bin .shl (.t 10) (.c (.val (.int .u64 8)))), .mk 9 true (some 12) none (.bin .or (.t 6) (.t 11)), .mk 10 true (some 13) none (.mv (.t 0)), .mk 11 true (some 14) none (.iadr 1 (.t 13) (.c (.val (.int .i64 2)))), .mk 12 true (some 15) none (.load false 1 (.t 14)), .mk 13 true (some 16) none (.conv .i64 (.t 15)), .mk 14 true (some 17) none (.bin .shl (.t 16) (.c (.val (.int .u64 16)))), .mk 15 true (some 18) none (.bin .or (.t 12) (.t 17)), .mk 16 true (some 19) none (.mv (.t 0)), .mk 17 true (some 20) none (.iadr 1 (.t 19) (.c (.val (.int .i64 3)))), .mk 18 true (some 21) none (.load false 1 (.t 20)), .mk 19 true (some 22) none (.conv .i64 (.t 21)), .mk 20 true (some 23) none (.bin .shl (.t 22) (.c (.val (.int .u64 24)))), .mk 21 true (some 24) none (.bin .or (.t 18) (.t 23)), .mk 22 true (some 2) none (.mv (.t 24))]) .ret)) [.t 2]
theorem c_read4 : compF Tryz.prog 109 = some F_read4 := by kernel_rfl
def F_number4 : FnM := FnM.mk 15 (.seq (.lst [.mk 0 false (some 2) none (.mv (.c (.lst true [])))]) (.seq (.lst [.mk 0 false (some 3) none (.mv (.t 0)), .mk 1 false (some 4) none (.conv .u8 (.t 3)), .mk 2 false (some 5) none (.mv (.t 0)), .mk 3 false (some 6) none (.bin .shr (.t 5) (.c (.val (.int .u64 8)))), .mk 4 false (some 7) none (.conv .u8 (.t 6)), .mk 5 false (some 8) none (.mv (.t 0)), .mk 6 false (some 9) none (.bin .shr (.t 8) (.c (.val (.int .u64 16)))), .mk 7 false (some 10) none (.conv .u8 (.t 9)), .mk 8 false (some 11) none (.mv (.t 0)), .mk 9 false (some 12) none (.bin .shr (.t 11) (.c (.val (.int .u64 24)))), .mk 10 false (some 13) none (.conv .u8 (.t 12)), .mk 11 false (some 14) none (.bsl 5 1 4 (.val (.int .u8 0)) [(0, .t 4), (1, .t 7), (2, .t 10), (3, .t 13)]), .mk 12 false (some 2) none (.mv (.t 14))]) .ret)) [.t 2]
theorem c_number4 : compF Tryz.prog 105 = some F_number4 := by kernel_rfl
def F_low : FnM := FnM.mk 15 (.seq (.lst [.mk 0 false (some 2) none (.mv (.c (.lst true [])))]) (.seq (.lst [.mk 0 false (some 3) none (.mv (.t 0)), .mk 1 false (some 4) none (.conv .u8 (.t 3)), .mk 2 false (some 5) none (.mv (.t 0)), .mk 3 false (some 6) none (.bin .shr (.t 5) (.c (.val (.int .u64 8)))), .mk 4 false (some 7) none (.conv .u8 (.t 6)), .mk 5 false (some 8) none (.mv (.t 0)), .mk 6 false (some 9) none (.bin .shr (.t 8) (.c (.val (.int .u64 16)))), .mk 7 false (some 10) none (.conv .u8 (.t 9)), .mk 8 false (some 11) none (.mv (.t 0)), .mk 9 false (some 12) none (.bin .shr (.t 11) (.c (.val (.int .u64 24)))), .mk 10 false (some 13) none (.conv .u8 (.t 12)), .mk 11 false (some 14) none (.bsl 5 1 4 (.val (.int .u8 0)) [(0, .t 4), (1, .t 7), (2, .t 10), (3, .t 13)]), .mk 12 false (some 2) none (.mv (.t 14))]) .ret)) [.t 2]
theorem c_low : compF Tryz.prog 107 = some F_low := by kernel_rfl
end Go.Proofs.YtkcdgaijklhnaaaGreatDoor.Vm
namespace Go.Proofs.YtkcdgaijklhnaaaGreatDoor.Vm
open Go.RowKit
def F_clb : FnM := FnM.mk 8 (.seq (.lst [.mk 0 false (some 2) none (.mv (.c (.lst true [])))]) (.seq (.seq (.lst [.mk 0 false (some 3) none (.mv (.t 0)), .mk 1 false (some 4) none (.snil false (.t 3))]) (.cond (.t 4) (.seq (.lst [.mk 0 false (some 2) none (.mv (.c (.lst true [])))]) .ret) .skip)) (.seq (.lst [.mk 0 false (some 5) none .emp, .mk 1 false (some 6) none (.mv (.t 0)), .mk 2 false (some 7) none (.app 5 1 1 (.t 5) (.t 6)), .mk 3 false (some 2) none (.mv (.t 7))]) .ret))) [.t 2]
theorem c_clb : compF Tryz.prog 97 = some F_clb := by kernel_rfl
def F_equalB : FnM := FnM.mk 26 (.seq (.lst [.mk 0 false (some 4) none (.mv (.c (.val (.bool false))))]) (.seq (.seq (.lst [.mk 0 false (some 6) none (.mv (.t 0)), .mk 1 false (some 7) none (.len (.t 6)), .mk 2 false (some 8) none (.mv (.t 1)), .mk 3 false (some 9) none (.len (.t 8)), .mk 4 false (some 10) none (.bin .neq (.t 7) (.t 9))]) (.cond (.t 10) (.seq (.lst [.mk 0 false (some 4) none (.mv (.c (.val (.bool false))))]) .ret) .skip)) (.seq (.seq (.lst [.mk 0 false (some 11) none (.mv (.t 0)), .mk 1 false (some 12) none (.len (.t 11)), .mk 2 false (some 13) none (.mv (.c (.val (.int .i64 0))))]) (.block 0 (.loop (.seq (.lst [.mk 0 false (some 14) none (.bin .lss (.t 13) (.t 12))]) (.seq (.cond (.t 14) .skip (.exit 0)) (.seq (.block 1 (.seq (.lst [.mk 0 false (some 15) none (.mv (.t 13)), .mk 1 false (some 5) none (.mv (.t 15))]) (.seq (.flat [.mk 0 true (some 16) none (.mv (.t 0)), .mk 1 true (some 17) none (.mv (.t 5)), .mk 2 true (some 18) none (.iadr 1 (.t 16) (.t 17)), .mk 3 true (some 19) none (.load false 1 (.t 18)), .mk 4 true (some 20) none (.mv (.t 1)), .mk 5 true (some 21) none (.mv (.t 5)), .mk 6 true (some 22) none (.iadr 1 (.t 20) (.t 21)), .mk 7 true (some 23) none (.load false 1 (.t 22)), .mk 8 true (some 24) none (.bin .neq (.t 19) (.t 23))]) (.cond (.t 24) (.seq (.lst [.mk 0 false (some 4) none (.mv (.c (.val (.bool false))))]) .ret) .skip)))) (.lst [.mk 0 false (some 25) none (.bin .add (.t 13) (.c (.val (.int .i64 1)))), .mk 1 false (some 13) none (.mv (.t 25))]))))))) (.seq (.lst [.mk 0 false (some 4) none (.mv (.c (.val (.bool true))))]) .ret)))) [.t 4]
theorem c_equalB : compF Tryz.prog 9 = some F_equalB := by kernel_rfl
end Go.Proofs.YtkcdgaijklhnaaaGreatDoor.Vm
namespace Go.Proofs.YtkcdgaijklhnaaaGreatDoor.Vm
open Go.RowKit
def bys (l : List Int) : List V := l.map fun n => .val (.int .u8 n)
@[simp] theorem bys_len (l : List Int) : (bys l).length = l.length := by simp [bys]
theorem bys_cons (c : Int) (r : List Int) : bys (c :: r) = .val (.int .u8 c) :: bys r := rfl
def isB (l : List Int) : Prop := ∀ x ∈ l, 0 ≤ x ∧ x ≤ 255
theorem isB.tail {c : Int} {r : List Int} (h : isB (c :: r)) : isB r := fun x hx => h x (List.mem_cons_of_mem _ hx)
abbrev Rs (α : Type) : Type := Int ⊕ (α × List Int)
def pU : Nat → Nat → Int → List Int → Rs Int
 | _, _, _, [] => .inl 11
 | 0, k, acc, c :: r => if c < 128 then (if c = 0 ∧ 0 < k then .inl 3 else .inr (acc + c % 128 * 2 ^ (7 * k), r)) else .inl 3
 | f + 1, k, acc, c :: r => if c < 128 then (if c = 0 ∧ 0 < k then .inl 3 else .inr (acc + c % 128 * 2 ^ (7 * k), r)) else pU f (k + 1) (acc + c % 128 * 2 ^ (7 * k)) r
def decU (u : Int) : Int := if u % 2 = 1 then -(u / 2) - 1 else u / 2
def pFin : Rs Int → Rs Int
 | .inl e => .inl e
 | .inr (u, r) => if u < 4294967296 then .inr (decU u, r) else .inl 3
def pNum (l : List Int) : Rs Int := pFin (pU 4 0 0 l)
def pCnt (l : List Int) : Rs Int := match pNum l with
 | .inl e => .inl e
 | .inr (n, r) => if n < 0 then .inl 3 else .inr (n, r)
def pMany : Nat → List Int → List Int → Rs (List Int)
 | 0, acc, l => .inr (acc, l)
 | n + 1, acc, l => match pNum l with
  | .inl e => .inl e
  | .inr (x, r) => pMany n (acc ++ [x]) r
def pLst (l : List Int) : Rs (List Int) := match pCnt l with
 | .inl e => .inl e
 | .inr (n, r) => pMany n.toNat [] r
theorem and127 {c : Int} (h : 0 ≤ c ∧ c ≤ 255) : IntKind.u8.wrap (BitVec.ofInt IntKind.u8.bits c &&& BitVec.ofInt IntKind.u8.bits 127).toNat = c % 128 := by
 obtain ⟨n, rfl⟩ : ∃ n : Nat, c = (n : Int) := ⟨c.toNat, by omega⟩
 have h1 : (BitVec.ofInt IntKind.u8.bits (n : Int) &&& BitVec.ofInt IntKind.u8.bits 127).toNat = n % 128 := by
  show (BitVec.ofInt 8 (n : Int) &&& BitVec.ofInt 8 127).toNat = _
  have h2 : (BitVec.ofInt 8 (n : Int)).toNat = n := by
   simp
   omega
  have h3 : (BitVec.ofInt 8 127).toNat = 2 ^ 7 - 1 := by decide
  rw [BitVec.toNat_and, h2, h3, Nat.and_two_pow_sub_one_eq_mod]
 rw [h1]
 simp [IntKind.wrap, IntKind.signed, IntKind.bits]
 omega
theorem or_nat {a d k : Nat} (ha : a < 2 ^ k) : a ||| d * 2 ^ k = a + d * 2 ^ k := by
 have := Nat.shiftLeft_add_eq_or_of_lt ha d
 rw [Nat.shiftLeft_eq] at this
 rw [Nat.or_comm, ← this, Nat.add_comm]
theorem or_bits {a b : Nat} (ha : a < 9223372036854775808) (hb : b < 9223372036854775808) : (BitVec.ofInt 64 (a : Int) ||| BitVec.ofInt 64 (b : Int)).toNat = a ||| b := by
 simp [BitVec.toNat_or]
 rw [Nat.mod_eq_of_lt (by omega), Nat.mod_eq_of_lt (by omega)]
theorem or_place {a d : Int} {j : Nat} (hj : j ≤ 4) (ha : 0 ≤ a ∧ a < 2 ^ (7 * j)) (hd : 0 ≤ d ∧ d < 128) : (BitVec.ofInt 64 a ||| BitVec.ofInt 64 (d * 2 ^ (7 * j))).toNat = a.toNat + d.toNat * 2 ^ (7 * j) := by
 obtain ⟨a, rfl⟩ : ∃ n : Nat, a = (n : Int) := ⟨a.toNat, by omega⟩
 obtain ⟨d, rfl⟩ : ∃ n : Nat, d = (n : Int) := ⟨d.toNat, by omega⟩
 have ha' : a < 2 ^ (7 * j) := by exact_mod_cast ha.2
 have hp : (2 : Nat) ^ (7 * j) ≤ 2 ^ 28 := Nat.pow_le_pow_right (by omega) (by omega)
 have hd' : d * 2 ^ (7 * j) ≤ 127 * 2 ^ 28 := Nat.mul_le_mul (by omega) hp
 have hor := or_nat (d := d) ha'
 have e : ((d : Int) * 2 ^ (7 * j)) = ((d * 2 ^ (7 * j) : Nat) : Int) := by push_cast; rfl
 have hn : (2 : Nat) ^ 28 = 268435456 := by decide
 rw [e, or_bits (by omega) (by omega), hor]
 simp
end Go.Proofs.YtkcdgaijklhnaaaGreatDoor.Vm
namespace Go.Proofs.YtkcdgaijklhnaaaGreatDoor.Vm
open Go.RowKit
def F_cread1 : FnM := FnM.mk 14 (.seq (.lst [.mk 0 false (some 6) none .bad]) (.block 0 (.seq (.lst [.mk 0 false (some 8) none (.inil false (.t 6))]) (.cond (.t 8) (.lst [.mk 0 false (some 3) none (.mv (.t 6))]) (.seq (.lst [.mk 0 false (some 9) none (.tas 29 (.t 6)), .mk 1 false (some 10) none (.ext (.t 9) 1), .mk 2 false (some 11) none (.ext (.t 9) 0)]) (.cond (.t 10) (.seq (.lst [.mk 0 false (some 4) none (.mv (.t 11))]) (.lst [.mk 0 false (some 12) none (.load true 11 (.t 0)), .mk 1 false (some 13) none (.mv (.t 4)), .mk 2 false none none (.store 11 (.t 1) (.t 12)), .mk 3 false none none (.store 1 (.t 2) (.t 13))])) (.seq (.lst [.mk 0 false (some 5) none (.mv (.t 6))]) (.lst [.mk 0 false (some 7) none (.mv (.t 5)), .mk 1 false none none (.pan (.t 7))])))))))) []
theorem c_cread1 : compF Tryz.prog 137 = some F_cread1 := by kernel_rfl
end Go.Proofs.YtkcdgaijklhnaaaGreatDoor.Vm
namespace Go.Proofs.YtkcdgaijklhnaaaGreatDoor
open Go.RowKit
theorem tok2 : True := trivial
end Go.Proofs.YtkcdgaijklhnaaaGreatDoor
namespace Go.Proofs.YtkcdgaijklhnaaaGreatDoor
open Go.RowKit
end Go.Proofs.YtkcdgaijklhnaaaGreatDoor
namespace Go.Proofs.YtkcdgaijklhnaaaGreatDoor
open Go.RowKit
end Go.Proofs.YtkcdgaijklhnaaaGreatDoor
namespace Go.Proofs.YtkcdgaijklhnaaaGreatDoor
open Go.RowKit
end Go.Proofs.YtkcdgaijklhnaaaGreatDoor
namespace Go.Proofs.YtkcdgaijklhnaaaGreatDoor.Vm
open Go.RowKit
end Go.Proofs.YtkcdgaijklhnaaaGreatDoor.Vm
namespace Go.Proofs.YtkcdgaijklhnaaaGreatDoor.Vm
open Go.RowKit
end Go.Proofs.YtkcdgaijklhnaaaGreatDoor.Vm
namespace Go.Proofs.YtkcdgaijklhnaaaGreatDoor.Vm
open Go.RowKit
end Go.Proofs.YtkcdgaijklhnaaaGreatDoor.Vm
namespace Go.Proofs.YtkcdgaijklhnaaaGreatDoor.Vm
open Go.RowKit
def F_sameM : FnM := FnM.mk 10 (.seq (.lst [.mk 0 false (some 2) none (.box 27 (.t 0)), .mk 1 false (some 3) none (.box 27 (.t 1)), .mk 2 false (some 4) none (.mv (.c (.val (.bool false))))]) (.seq (.flat [.mk 0 true (some 5) none (.load true 11 (.t 2)), .mk 2 true (some 7) none (.load true 11 (.t 3)), .mk 1 false (some 6) none (.call 10 [.t 5]), .mk 3 false (some 8) none (.call 10 [.t 7]), .mk 4 false (some 9) none (.call 9 [.t 6, .t 8]), .mk 5 false (some 4) none (.mv (.t 9))]) .ret)) [.t 4]
theorem c_sameM : compF Tryz.prog 16 = some F_sameM := by kernel_rfl
end Go.Proofs.YtkcdgaijklhnaaaGreatDoor.Vm
