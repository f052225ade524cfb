/- Package levels: what Choose answers. -/
import Derived.Test.YtlklehliapbgeaaLevPure
import Derived.Lib.SliceRun
import Derived.Deep.DeepMust
namespace Go.Proofs.Ytlklehliapbgeaa.Lev
open Go.RowKit Go.Proofs.Ytlklehliapbgeaa.PLev Go.Proofs.YtlklehliapbgeaaW.PrintWords Go.Proofs.YtlklehliapbgeaaW.PrintLast Go.Proofs.YtlklehliapbgeaaW.PrintMore Go.Proofs.Ytlklehliapbgeaa.Histo

set_option maxHeartbeats 4000000 in
theorem may_yes (a b c d : Int) (w : World) (h1 : 1 ≤ a) (h2 : a ≤ 128) (h3 : 0 ≤ b) (h4 : b ≤ a) (h5 : 0 ≤ c) (h6 : c ≤ 128) (h7 : 1 ≤ d) (h8 : d ≤ 20) :
    Calls Try.prog 49 #[.int .i64 a, .int .i64 b, .int .i64 c, .int .i64 d] w fun e w' => e = .returned (.bool true) ∧ w' = w := by
  go_enter Try.func49, Try.ntmps49
  go_wp2
  go_ret
  exact ⟨rfl, rfl⟩
set_option maxHeartbeats 4000000 in
theorem may_no (a b c d : Int) (w : World) (h : ¬ (1 ≤ a ∧ a ≤ 128 ∧ 0 ≤ b ∧ b ≤ a ∧ 0 ≤ c ∧ c ≤ 128 ∧ 1 ≤ d ∧ d ≤ 20)) :
    Calls Try.prog 49 #[.int .i64 a, .int .i64 b, .int .i64 c, .int .i64 d] w fun e w' => e = .returned (.bool false) ∧ w' = w := by
  by_cases h1 : 1 ≤ a
  case neg =>
    have h1' : a < 1 := by omega
    clear h h1; go_enter Try.func49, Try.ntmps49; go_wp2; go_ret; exact ⟨rfl, rfl⟩
  by_cases h2 : a ≤ 128
  case neg => clear h; go_enter Try.func49, Try.ntmps49; go_wp2; go_ret; exact ⟨rfl, rfl⟩
  by_cases h3 : 0 ≤ b
  case neg => clear h; go_enter Try.func49, Try.ntmps49; go_wp2; go_ret; exact ⟨rfl, rfl⟩
  by_cases h4 : b ≤ a
  case neg => clear h; go_enter Try.func49, Try.ntmps49; go_wp2; go_ret; exact ⟨rfl, rfl⟩
  by_cases h5 : 0 ≤ c
  case neg => clear h; go_enter Try.func49, Try.ntmps49; go_wp2; go_ret; exact ⟨rfl, rfl⟩
  by_cases h6 : c ≤ 128
  case neg => clear h; go_enter Try.func49, Try.ntmps49; go_wp2; go_ret; exact ⟨rfl, rfl⟩
  by_cases h7 : 1 ≤ d
  case neg => clear h; go_enter Try.func49, Try.ntmps49; go_wp2; go_ret; exact ⟨rfl, rfl⟩
  have h8 : ¬ d ≤ 20 := fun h8 => h ⟨h1, h2, h3, h4, h5, h6, h7, h8⟩
  clear h; go_enter Try.func49, Try.ntmps49; go_wp2; go_ret; exact ⟨rfl, rfl⟩

theorem info3 : (Try.prog.info? 3).map (fun i => (i.zero, i.size, i.bytes)) = some (some (.int .i64 0), 1, 8) := by kernel_rfl
set_option maxHeartbeats 4000000 in
theorem clone_any (A0 : Option Addr) (c0 : Nat) (xs : List Int) (w : World) (hC : Kd.C (Kd.int .i64) w A0 xs.length xs) (hb : xs.length * 8 ≤ 140737488355328) :
    Calls Try.prog 50 #[.slice A0 xs.length c0] w fun e w' => ∃ A c, e = .returned (.slice A xs.length c) ∧ w'.ownsRow w.heap.size 3 1 (.slice A xs.length c) xs.length (nums .i64 xs) ∧ Below w.heap.size w w' := by
  have he := fun W => Lib.run_eql_slice_nil (P := Try.prog) W 35 3 A0 xs.length c0 0 0 Try.underlying35
  cases A0 with
  | none =>
    have hx : xs = [] := by
      rcases Nat.eq_zero_or_pos xs.length with h | h
      · exact List.eq_nil_of_length_eq_zero h
      · obtain ⟨ad, h, _⟩ := hC.2.2 h; cases h
    subst hx
    have he0 := fun W => Lib.run_eql_slice_nil (P := Try.prog) W 35 3 none 0 c0 0 0 Try.underlying35
    clear he hC hb
    show Calls Try.prog 50 #[.slice none 0 c0] w _
    go_enter Try.func50, Try.ntmps50
    go_wp2
    go_ret
    exact ⟨none, 0, rfl, own_nil _ _ _ _, Below.refl _ _⟩
  | some ad =>
    have HC := Lib.hid hC
    clear hC
    go_enter Try.func50, Try.ntmps50
    go_wp2_with (first
      | (at_builtin; go_must (refine print_append_row w.heap.size rfl _ _ 35 3 .i64 8 rfl Try.underlying35 info3 (by decide) _ [] xs _ _ _ rfl rfl (own_lit w w.heap.size 3 .i64 [] (Nat.le_refl _) (by simp)) (Kd.reads_of_C (d := (0 : Int)) (h1 := fun _ => rfl) (Kd.C_below HC.out ((Below.refl _ _).alloc (Nat.le_refl _) _))) ((Below.refl _ _).alloc (Nat.le_refl _) _) (by simp) (by simpa using hb) ?_); intro v1 w1 hown hB1 hg1 hat1))
    obtain ⟨A, c, hv1⟩ := own_slice hown
    subst hv1
    have hlen : ([] ++ xs).length = xs.length := rfl
    go_ret
    exact ⟨A, c, rfl, hown, hB1⟩
end Go.Proofs.Ytlklehliapbgeaa.Lev
