/- The law TopNames answers true: the numbers of package api are what the document says. No input, no condition. -/
import Derived.Test.YtlklehliapbgeaaProg
import Derived.WalkKit
import Derived.LoopTactic
import Derived.KernelRfl
import Derived.Outline
import Derived.WalkLawsBesides
import Derived.WalkSpells
import Derived.Lib.Hide
import Derived.Deep.QuietTactic
import Derived.BigQuiet
import Derived.RegionTactic
namespace Go.Proofs.Ytlklehliapbgeaa.Names
open Go.RowKit

set_option maxHeartbeats 400000 in
theorem are_any (w : World) (g n c : Nat) (v : Nat → Int) (hn : n ≤ 1000) (h0 : ∀ i, i < n → w.cell? ⟨g, i * 2, none⟩ = some (.int .i64 (v i))) (h1 : ∀ i, i < n → w.cell? ⟨g, i * 2 + 1, none⟩ = some (.int .i64 (v i))) :
    Calls Try.prog 48 #[.slice (some ⟨g, 0, none⟩) n c] w fun e w' => e = .returned (.bool true) ∧ ∃ k, w' = w.drewN k := by
  go_enter Try.func48, Try.ntmps48
  go_wp2
  go_loopw [3] (fun i wr => ∃ k m : Nat, k ≤ n ∧ i = .int .i64 k ∧ wr = w.drewN m) (fun i _ => n - (intOf i).toNat)
  case atStart => exact ⟨0, 0, Nat.zero_le _, rfl, rfl⟩
  case round =>
    obtain ⟨k, m, hk, rfl, rfl⟩ := hrel
    by_cases hlt : k < n
    · have a0 := h0 k hlt
      have a1 := h1 k hlt
      go_wp2
      go_quiet (fail)
      go_wp2
      go_roundw
      case rel => exact ⟨k + 1, m + nq, by omega, by go_num, rfl⟩
      case measure => simp [intOf]; omega
    · go_wp2
      go_ret
      exact ⟨rfl, m, rfl⟩

theorem drawn {B : Nat} {w w1 : World} (h : Below B w w1) (k : Nat) : Below B w (w1.drewN k) := ⟨h.os, h.tape, h.output, h.size, h.block⟩

theorem are_block (w : World) (g n c : Nat) (cs : Array Value) (T : TypeId) (v : Nat → Int) (hn : n ≤ 1000) (hb : w.heap[g]? = some (.cells cs T (0, 0))) (h0 : ∀ i, i < n → cs[i * 2]? = some (.int .i64 (v i)) ∧ cs[i * 2 + 1]? = some (.int .i64 (v i))) :
    Calls Try.prog 48 #[.slice (some ⟨g, 0, none⟩) n c] w fun e w' => e = .returned (.bool true) ∧ ∃ k, w' = w.drewN k :=
  are_any w g n c v hn (fun i hi => by simp [World.cell?, hb, (h0 i hi).1]) (fun i hi => by simp [World.cell?, hb, (h0 i hi).2])

set_option maxHeartbeats 400000 in
theorem first_any (w : World) : Calls Try.prog 31 #[] w fun e w' => e = .returned (.bool true) ∧ Below w.heap.size w w' := by
  go_enter Try.func31, Try.ntmps31
  go_wp2_with fail
  refine (are_block _ _ 10 _ _ 74 (fun i => ([0, 1, 2, 3, 4, 5, 6, 7, 8, 128] : List Int).getD i 0) (by omega) (heap_alloc_new w _) (fun i hi => ?_)).mono ?_
  · have h : i = 0 ∨ i = 1 ∨ i = 2 ∨ i = 3 ∨ i = 4 ∨ i = 5 ∨ i = 6 ∨ i = 7 ∨ i = 8 ∨ i = 9 := by omega
    rcases h with rfl | rfl | rfl | rfl | rfl | rfl | rfl | rfl | rfl | rfl <;> exact ⟨rfl, rfl⟩
  rintro e w' ⟨rfl, k, rfl⟩
  go_wp2
  go_ret
  exact ⟨rfl, drawn (((Below.refl _ _).alloc (Nat.le_refl _) _)) k⟩

set_option maxHeartbeats 400000 in
theorem second_any (w : World) : Calls Try.prog 32 #[] w fun e w' => e = .returned (.bool true) ∧ Below w.heap.size w w' := by
  go_enter Try.func32, Try.ntmps32
  go_wp2_with fail
  refine (are_block _ _ 10 _ _ 74 (fun i => ([6, 8, 256, 4, 16, 15, 20, 300, 60, 65536] : List Int).getD i 0) (by omega) (heap_alloc_new w _) (fun i hi => ?_)).mono ?_
  · have h : i = 0 ∨ i = 1 ∨ i = 2 ∨ i = 3 ∨ i = 4 ∨ i = 5 ∨ i = 6 ∨ i = 7 ∨ i = 8 ∨ i = 9 := by omega
    rcases h with rfl | rfl | rfl | rfl | rfl | rfl | rfl | rfl | rfl | rfl <;> exact ⟨rfl, rfl⟩
  rintro e w' ⟨rfl, k, rfl⟩
  go_wp2
  go_ret
  exact ⟨rfl, drawn (((Below.refl _ _).alloc (Nat.le_refl _) _)) k⟩

set_option maxHeartbeats 400000 in
theorem third_any (w : World) : Calls Try.prog 33 #[] w fun e w' => e = .returned (.bool true) ∧ Below w.heap.size w w' := by
  go_enter Try.func33, Try.ntmps33
  go_wp2_with fail
  refine (are_block _ _ 8 _ _ 74 (fun i => ([1, 2, 3, 4, 5, 6, 7, 8] : List Int).getD i 0) (by omega) (heap_alloc_new w _) (fun i hi => ?_)).mono ?_
  · have h : i = 0 ∨ i = 1 ∨ i = 2 ∨ i = 3 ∨ i = 4 ∨ i = 5 ∨ i = 6 ∨ i = 7 := by omega
    rcases h with rfl | rfl | rfl | rfl | rfl | rfl | rfl | rfl <;> exact ⟨rfl, rfl⟩
  rintro e w' ⟨rfl, k, rfl⟩
  go_wp2
  go_ret
  exact ⟨rfl, drawn (((Below.refl _ _).alloc (Nat.le_refl _) _)) k⟩

theorem TopNames_walk (w : World) : Calls Try.prog 8 #[] w fun e w' => e = .returned (.bool true) ∧ Below w.heap.size w w' := by
  go_enter Try.func8, Try.ntmps8
  go_wp2_with fail
  refine (first_any _).mono ?_
  rintro e w1 ⟨rfl, b1⟩
  go_wp2_with fail
  refine (second_any _).mono ?_
  rintro e w2 ⟨rfl, b2⟩
  go_wp2_with fail
  refine (third_any _).mono ?_
  rintro e w3 ⟨rfl, b3⟩
  go_wp2
  go_ret
  exact ⟨rfl, (b1.trans (b2.mono b1.size)).trans (b3.mono (Nat.le_trans b1.size b2.size))⟩

end Go.Proofs.Ytlklehliapbgeaa.Names
