/-
  Stream.Changed: a text with a byte that is changed, added or removed.
-/
import Derived.Test.YtlildanamfjnmaaGreatDoorStrm
import Derived.Test.YtlildanamfjnmaaGreatDoorFormat
import Derived.Deep.QuietTactic
import Derived.BigQuiet
namespace Go.Proofs.YtlildanamfjnmaaGreatDoor
open Go.RowKit

def TextPost (w : World) (g c : Nat) (A : Option Addr) (xs : List Int) (a k : Int) (m : Nat) (e : Ending) (w' : World) : Prop :=
  ∃ S : ByteArray, e = .returned (.string S) ∧ S.size ≤ m ∧ SP w g c A xs a k w'

set_option maxHeartbeats 2000000 in
set_option maxRecDepth 100000 in
theorem changed_none (w : World) (g c : Nat) (A : Option Addr) (xs : List Int) (a : Int) (hs : Strm w g A c xs a) :
    Calls Tryz.prog 43 #[.pointer (some ⟨g, 0, none⟩), .string ⟨#[]⟩, .string ⟨#[48, 49, 50, 51, 52, 53, 54, 55, 56, 57, 45, 47, 43, 32, 46, 120]⟩] w (TextPost w g c A xs a 3 17) := by
  have HS := Lib.hid hs
  clear hs
  go_enter Tryz.func43, Tryz.ntmps43
  go_wp2
  go_ret
  exact ⟨_, rfl, by decide, ⟨a, by omega, by omega, HS.out⟩, only_refl _ _⟩

theorem enc_le (b : UInt8) : (Utf8.encode (b.toNat : Int)).size ≤ 4 := by
  have h : ∀ n : Fin 256, (Utf8.encode ((n.val : Nat) : Int)).size ≤ 4 := by decide +kernel
  exact h ⟨b.toNat, b.toNat_lt⟩

set_option maxHeartbeats 4000000 in
set_option maxRecDepth 100000 in
theorem changed_some (S : ByteArray) (w : World) (g c : Nat) (A : Option Addr) (xs : List Int) (a : Int) (hs : Strm w g A c xs a) (ha : 0 ≤ a) (ha2 : a ≤ 1000000000) (h0 : 0 < S.size) (h9 : S.size ≤ 1000000) :
    Calls Tryz.prog 43 #[.pointer (some ⟨g, 0, none⟩), .string S, .string ⟨#[48, 49, 50, 51, 52, 53, 54, 55, 56, 57, 45, 47, 43, 32, 46, 120]⟩] w (TextPost w g c A xs a 3 (S.size + 4)) := by
  have e1 : S.data.toList.isEmpty = false := by
    cases h : S.data.toList with
    | nil => rw [bytes_size, h] at h0; simp at h0
    | cons x l => rfl
  have e2 : ¬ (S.toList = []) := by rw [ByteArray.toList_eq]; intro h; rw [h] at e1; cases e1
  have e3 : S.toList.isEmpty = false := by rw [ByteArray.toList_eq]; exact e1
  have HX := Lib.hid (next_any w g c A xs a (S.size : Int) hs ha (by omega) (by omega) (by omega))
  clear hs
  go_enter Tryz.func43, Tryz.ntmps43
  go_wp2_with fail
  refine HX.out.mono ?_
  rintro e w1 ⟨z, rfl, z1, z2, hs1, ha1⟩
  obtain ⟨i, rfl⟩ : ∃ i : Nat, z = i := ⟨z.toNat, by omega⟩
  have hi : (i : Int) < (S.size : Int) := by omega
  have hi2 : i < S.size := by omega
  have HA1 := Lib.hid ha1
  have HX1 := Lib.hid (next_any w1 g c A xs (a + 1) 16 hs1 (by omega) (by omega) (by omega) (by omega))
  clear hs1 ha1 e1 e2 e3
  go_wp2_with fail
  refine HX1.out.mono ?_
  rintro e w2 ⟨z', rfl, y1, y2, hs2, ha2'⟩
  obtain ⟨j, rfl⟩ : ∃ j : Nat, z' = j := ⟨z'.toNat, by omega⟩
  have hj : (j : Int) < 16 := by omega
  have hj2 : j < 16 := by omega
  obtain ⟨b, hb⟩ : ∃ b : UInt8, (ByteArray.mk #[48, 49, 50, 51, 52, 53, 54, 55, 56, 57, 45, 47, 43, 32, 46, 120])[j]'hj2 = b := ⟨_, rfl⟩
  have hb9 := b.toNat_lt
  have HA2 := Lib.hid ha2'
  have HX2 := Lib.hid (next_any w2 g c A xs (a + 1 + 1) 3 hs2 (by omega) (by omega) (by omega) (by omega))
  clear hs2 ha2'
  have henc := enc_le b
  obtain ⟨B, hB⟩ : ∃ B, B = b.toNat := ⟨_, rfl⟩
  rw [← hB] at henc hb9
  have hwb : IntKind.i32.wrap (B : Int) = (B : Int) := by rw [IntKind.wrap_i32]; omega
  have hwi : IntKind.i64.wrap ((i : Int) + 1) = (i : Int) + 1 := by rw [IntKind.wrap_i64]; omega
  have hi0 : (0 : Int) ≤ (i : Int) := by omega
  have hi1 : (0 : Int) ≤ (i : Int) + 1 := by omega
  have hi3 : (i : Int) + 1 ≤ (S.size : Int) := by omega
  have hi4 : (i : Int) ≤ (S.size : Int) := by omega
  have hin : ((i : Int) + 1).toNat = i + 1 := by omega
  obtain ⟨E, hE⟩ : ∃ E, Utf8.encode (B : Int) = E := ⟨_, rfl⟩
  rw [hE] at henc
  go_wp2_with fail
  rw [← hB]
  refine HX2.out.mono ?_
  rintro e w3 ⟨t, rfl, t1, t2, hs3, ha3⟩
  have HS3 := Lib.hid hs3
  have HG : Hid (w.grownBy w3 (some g)) := Lib.hid (only_trans (only_trans HA1.out.1 HA2.out.1) ha3.1)
  clear hs3 ha3 hb hB
  rcases (show t = 0 ∨ t = 1 ∨ t = 2 by omega) with rfl | rfl | rfl
  all_goals
    go_wp2_with fail
    go_quiet (fail)
    go_wp2
    go_ret
    exact ⟨_, rfl, by simp only [ByteArray.size_append, ByteArray.size_extract]; omega, ⟨_, by omega, by omega, HS3.out.drewN _⟩, only_drewN HG.out _⟩
end Go.Proofs.YtlildanamfjnmaaGreatDoor
