/- Package levels: the contract of Choose, for all arguments. -/
import Derived.Test.YtlklehliapbgeaaLevMain
namespace Go.Proofs.Ytlklehliapbgeaa.Lev
open Go.RowKit Go.Proofs.Ytlklehliapbgeaa.PLev Go.Proofs.YtlklehliapbgeaaW.PrintWords Go.Proofs.YtlklehliapbgeaaW.PrintLast Go.Proofs.YtlklehliapbgeaaW.PrintMore Go.Proofs.Ytlklehliapbgeaa.Histo

set_option maxRecDepth 20000 in
set_option maxHeartbeats 4000000 in
theorem choose_no (w : World) (a b c d : Int) (A0 : Option Addr) (c0 n0 : Nat)
    (h : ¬ (1 ≤ a ∧ a ≤ 128 ∧ 0 ≤ b ∧ b ≤ a ∧ 0 ≤ c ∧ c ≤ 128 ∧ 1 ≤ d ∧ d ≤ 20)) :
    Calls Try.prog 35 #[.int .i64 a, .int .i64 b, .int .i64 c, .int .i64 d, .slice A0 n0 c0] w fun e w' => e = .returned (.tuple #[.slice none 0 0, .int .i64 1]) ∧ w' = w := by
  have H := Lib.hid h
  clear h
  go_enter Try.func35, Try.ntmps35
  go_wp2_with fail
  refine (may_no _ _ _ _ _ H.out).mono ?_
  rintro e w1 ⟨rfl, rfl⟩
  go_wp2
  go_ret2
  exact ⟨rfl, rfl⟩

def chooseO (a b c d : Int) (l : List Int) : Option (List Int × Int) := if l.length * 8 ≤ 140737488351232 then some (chooseP a b c d l) else none
theorem choose_any (a0 a1 a2 a3 : Int) (A4 : Option Addr) (c4 : Nat) (l4 : List Int) (r1 : List Int) (r2 : Int) (w : World) (hr4 : Kd.C (Kd.int .i64) w A4 l4.length l4) (h : chooseO a0 a1 a2 a3 l4 = some (r1, r2)) :
    Calls Try.prog 35 #[.int .i64 a0, .int .i64 a1, .int .i64 a2, .int .i64 a3, .slice A4 l4.length c4] w fun e w' => ∃ v0_ : Value, e = .returned (.tuple #[v0_, .int .i64 r2]) ∧ Kd.R (Kd.int .i64) 3 w' w.heap.size (fun _ => True) v0_ r1 ∧ Below w.heap.size w w' := by
  unfold chooseO at h
  by_cases hb : l4.length * 8 ≤ 140737488351232
  case neg => rw [if_neg hb] at h; cases h
  rw [if_pos hb] at h
  have h' := Option.some.inj h
  by_cases hm : 1 ≤ a0 ∧ a0 ≤ 128 ∧ 0 ≤ a1 ∧ a1 ≤ a0 ∧ 0 ≤ a2 ∧ a2 ≤ 128 ∧ 1 ≤ a3 ∧ a3 ≤ 20
  · obtain ⟨n0, rfl⟩ := Int.eq_ofNat_of_zero_le (show 0 ≤ a0 by omega)
    obtain ⟨n1, rfl⟩ := Int.eq_ofNat_of_zero_le (show 0 ≤ a1 by omega)
    obtain ⟨n2, rfl⟩ := Int.eq_ofNat_of_zero_le (show 0 ≤ a2 by omega)
    obtain ⟨n3, rfl⟩ := Int.eq_ofNat_of_zero_le (show 0 ≤ a3 by omega)
    have := choose_yes w n0 n1 n2 n3 A4 c4 l4 hr4 hb (by omega) (by omega) (by omega) (by omega) (by omega) (by omega)
    rw [h'] at this
    exact this
  · have hp : chooseP a0 a1 a2 a3 l4 = ([], 1) := by
      unfold chooseP
      rw [if_neg]
      unfold mayB
      rw [decide_eq_true_eq]
      exact hm
    rw [hp] at h'
    injection h' with h1 h2
    subst h1 h2
    refine (choose_no w a0 a1 a2 a3 A4 c4 l4.length hm).mono ?_
    rintro e w' ⟨rfl, rfl⟩
    exact ⟨_, rfl, Kd.R_nil _ _ _ _ _, Below.refl _ _⟩
end Go.Proofs.Ytlklehliapbgeaa.Lev
