/- The reference's choice of levels: its contract, for all arguments: the same answer as levels.Choose's. -/
import Derived.Test.YtlklehliapbgeaaLevRefW
namespace Go.Proofs.Ytlklehliapbgeaa.Lev
open Go.RowKit Go.Proofs.Ytlklehliapbgeaa.PLev Go.Proofs.Ytlklehliapbgeaa.PWay Go.Proofs.YtlklehliapbgeaaW.PrintWords Go.Proofs.YtlklehliapbgeaaW.PrintLast Go.Proofs.YtlklehliapbgeaaW.PrintMore Go.Proofs.Ytlklehliapbgeaa.Histo

theorem able_no (width low most stride : Int) (h : ¬ Able width low most stride) : PRefT.flocculusref11_able.f width low most stride = some false := by
  unfold PRefT.flocculusref11_able.f
  by_cases h1 : width ≥ 1
  · rw [if_pos h1]
    by_cases h2 : width ≤ 128
    · rw [if_pos h2]
      by_cases h3 : low ≥ 0
      · rw [if_pos h3]
        by_cases h4 : low ≤ width
        · rw [if_pos h4]
          by_cases h5 : most ≥ 0
          · rw [if_pos h5]
            by_cases h6 : most ≤ 128
            · rw [if_pos h6]
              by_cases h7 : stride ≥ 1
              · rw [if_pos h7]
                by_cases h8 : stride ≤ 20
                · exact absurd ⟨h1, h2, h3, h4, h5, h6, h7, h8⟩ h
                · rw [decide_eq_false h8]
              · rw [if_neg h7]
            · rw [if_neg h6]
          · rw [if_neg h5]
        · rw [if_neg h4]
      · rw [if_neg h3]
    · rw [if_neg h2]
  · rw [if_neg h1]

set_option maxRecDepth 20000 in
set_option maxHeartbeats 4000000 in
theorem ref_no (w : World) (a b c d : Int) (A0 : Option Addr) (c0 n0 : Nat) (h : ¬ Able a b c d) :
    Calls Try.prog 36 #[.int .i64 a, .int .i64 b, .int .i64 c, .int .i64 d, .slice A0 n0 c0] w fun e w' => e = .returned (.tuple #[.slice none 0 0, .int .i64 1]) ∧ Below w.heap.size w w' := by
  have H := Lib.hid (able_no _ _ _ _ h)
  clear h
  go_enter Try.func36, Try.ntmps36
  go_wp2_with fail
  refine (PRefT.flocculusref11_able.calls _ _ _ _ false _ H.out).mono ?_
  rintro e w1 ⟨rfl, ⟨n1, rfl⟩⟩
  go_wp2
  go_ret2
  exact ⟨rfl, pw_below_drewN (Below.refl _ _) _⟩

theorem ref_any (a0 a1 a2 a3 : Int) (A4 : Option Addr) (c4 : Nat) (l4 : List Int) (r1 : List Int) (r2 : Int) (w : World) (hr4 : Kd.C (Kd.int .i64) w A4 l4.length l4) (hc4 : l4.length ≤ c4) (h : chooseO a0 a1 a2 a3 l4 = some (r1, r2)) :
    Calls Try.prog 36 #[.int .i64 a0, .int .i64 a1, .int .i64 a2, .int .i64 a3, .slice A4 l4.length c4] w fun e w' => ∃ v0_ : Value, e = .returned (.tuple #[v0_, .int .i64 r2]) ∧ Kd.R (Kd.int .i64) 3 w' w.heap.size (fun _ => True) v0_ r1 ∧ Below w.heap.size w w' := by
  unfold chooseO at h
  by_cases hb : l4.length * 8 ≤ 140737488351232
  case neg => rw [if_neg hb] at h; cases h
  rw [if_pos hb] at h
  have h' := Option.some.inj h
  by_cases hm : Able a0 a1 a2 a3
  · have hm' := hm
    obtain ⟨h1, h2, h3, h4, h5, h6, h7, h8⟩ := hm
    obtain ⟨n0, rfl⟩ := Int.eq_ofNat_of_zero_le (show 0 ≤ a0 by omega)
    obtain ⟨n1, rfl⟩ := Int.eq_ofNat_of_zero_le (show 0 ≤ a1 by omega)
    obtain ⟨n2, rfl⟩ := Int.eq_ofNat_of_zero_le (show 0 ≤ a2 by omega)
    obtain ⟨n3, rfl⟩ := Int.eq_ofNat_of_zero_le (show 0 ≤ a3 by omega)
    have h0 := ref_yes w n0 n1 n2 n3 A4 c4 l4 hr4 hc4 (by omega) (by omega) (by omega) (by omega) (by omega) (by omega)
    have h9 : refR n0 n1 n2 n3 l4 = (r1, r2) := (ref_same n0 n1 n2 n3 l4 hm').trans h'
    rw [h9] at h0
    exact h0
  · have hp : chooseP a0 a1 a2 a3 l4 = ([], 1) := by
      unfold chooseP
      rw [if_neg]
      unfold mayB
      rw [decide_eq_true_eq]
      exact hm
    rw [hp] at h'
    injection h' with h1 h2
    subst h1 h2
    refine (ref_no w a0 a1 a2 a3 A4 c4 l4.length hm).mono ?_
    rintro e w' ⟨rfl, hB⟩
    exact ⟨_, rfl, Kd.R_nil _ _ _ _ _, hB⟩
end Go.Proofs.Ytlklehliapbgeaa.Lev
