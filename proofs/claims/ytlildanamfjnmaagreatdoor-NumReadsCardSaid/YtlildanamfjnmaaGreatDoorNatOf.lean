/-
  nat.Of: the digits of an uint64.
-/
import Derived.Test.YtlildanamfjnmaaGreatDoorBase
import Derived.Outline
namespace Go.Proofs.YtlildanamfjnmaaGreatDoor
open Go.RowKit

theorem info_u32 : (Tryz.prog.info? 118).map (fun i => (i.zero, i.size, i.bytes)) = some (some (.int .u32 0), 1, 4) := by kernel_rfl

set_option maxHeartbeats 400000 in
set_option maxRecDepth 100000 in
theorem of_any (n : Nat) (w : World) (hn : n < 18446744073709551616) :
    Calls Tryz.prog 103 #[.int .u64 n] w fun e w' => ∃ v, e = .returned v ∧ Nt w' v n ∧ Below w.heap.size w w' := by
  obtain ⟨i0, hi, hz0, hz1, hz2⟩ := info_parts info_u32
  have HN := Lib.hid hn
  clear hn
  go_enter Tryz.func103, Tryz.ntmps103
  go_wp2
  go_loopw [0, 3] (fun a0 a3 wr => ∃ (m : Nat) (ds : List Nat), a0 = .int .u64 m ∧ m ≤ n ∧ wr.ownsRow w.heap.size 118 1 a3 ds.length (u32s ds) ∧ Mth.dg 1000000000 n = ds ++ Mth.dg 1000000000 m ∧ Below w.heap.size w wr) (fun a0 _ _ => (intOf a0).toNat)
  case atStart => exact ⟨n, [], rfl, Nat.le_refl _, World.ownsRow_nil _ _ _ _, rfl, Below.refl _ _⟩
  case round =>
    obtain ⟨m, ds, rfl, hm, hown, hd, hB⟩ := hrel
    have HD := Lib.hid hd
    have hl3 : ds.length ≤ 3 := by
      have h1 := Mth.dg_len_le (b := 1000000000) (by omega) 3 n (by have := HN.out; omega)
      rw [hd] at h1
      simp at h1
      omega
    clear hd
    by_cases h0 : 0 < m
    · go_wp2_with (at_builtin; go_must (refine wpList_append_own _ rfl _ _ 74 rfl w.heap.size 118 i0 (.int .u32 0) 1 4 Tryz.underlying74 hi hz0 hz1 hz2 rfl (by decide) _ _ _ rfl (hown.alloc _) ⟨wr.heap.size, 0, none⟩ 1 1 [.int .u32 ((m : Int) % 1000000000)] rfl rfl (cell_one_new _ _ _) (by simp [Value.oneCell']) (by unfold maxLen; omega) (by omega) (by have := hB.size; simp; omega) ?_); intro v' w1 hown' hgrow _)
      have hw : IntKind.u64.wrap ((m : Int) / 1000000000) = ((m / 1000000000 : Nat) : Int) := by
        have := HN.out
        rw [IntKind.wrap_u64]; omega
      have hd := HD.out
      rw [Mth.dg_pos (b := 1000000000) (by omega) h0] at hd
      go_roundw
      case rel =>
        refine ⟨m / 1000000000, ds ++ [m % 1000000000], by rw [hw], by omega, ?_, by rw [hd]; simp, (hB.alloc (hB.size) _).grown hgrow (by have := hB.size; simp; omega) (fun k hk => (hown.lt k hk).1)⟩
        rw [u32s_append, List.length_append]
        exact hown'
      case measure => rw [hw]; simp [intOf]; omega
    · go_wp2
      go_ret
      obtain rfl : m = 0 := by omega
      have hd := HD.out
      rw [Mth.dg_zero, List.append_nil] at hd
      refine ⟨_, rfl, ?_, hB⟩
      unfold Nt
      rw [hd]
      exact Sl.of_own hown
end Go.Proofs.YtlildanamfjnmaaGreatDoor
