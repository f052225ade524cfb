/- The reference's bytes of a command that is no batch. -/
import Derived.Test.YtliighhedmfgjaaEnc
import Derived.Test.YtliighhedmfgjaaPRefCx4
namespace Go.Proofs.Ytliighhedmfgjaa.Cmd
open Go.RowKit Go.Proofs.Ytliighhedmfgjaa.PRefC Go.Proofs.YtliighhedmfgjaaW.PrintWords Go.Proofs.YtliighhedmfgjaaW.PrintLast Go.Proofs.YtliighhedmfgjaaW.PrintMore

def cbF (k : Nat) (c : S29) : Option (List Int) := flocculusref21_CommandBytes.f k c.f0 c.f1 c.f2 c.f3.f0.f0 c.f3.f0.f1 c.f3.f1 c.f4.f0 c.f4.f1 c.f5 c.f6
theorem be1 (n : Int) (h : 1 ≤ n ∧ n ≤ 8) : be 1 (w64 n) = [n % 256] := by
  rw [w64_small (by omega) (by omega)]
  show [n / 2 ^ (8 * 0) % 256] = _
  simp
/-- An edit's bytes. -/
theorem cb_edit (c : S29) (ho : okA c) (hk : c.f0 = 1 ∨ c.f0 = 2) : Ev (fun k => cbF k c) (encP c) := by
  obtain ⟨f0, f1, f2, ⟨⟨hi, lo⟩, len⟩, ⟨ahi, alo⟩, seed, l⟩ := c
  obtain ⟨h1, h2⟩ := ho
  dsimp only at hk h1 h2
  rcases hk with rfl | rfl
  · obtain ⟨K1, e1⟩ := fpre_ev hi lo len h1 h2 [1] (by decide)
    obtain ⟨K2, e2⟩ := fnum_ev (w64 f1) (w64_range f1) 4 ([1] ++ prefB hi lo len) (by omega) (by rw [List.length_append, prefB_length]; decide)
    refine ⟨K1 + K2 + 3, fun k hk => ?_⟩
    obtain ⟨k, rfl⟩ : ∃ k', k = k' + 3 := ⟨k - 3, by omega⟩
    have g1 : flocculusref21_prefix.f k [1] hi lo len = some ([1] ++ prefB hi lo len) := e1 k (by omega)
    have g2 : flocculusref21_num.f k ([1] ++ prefB hi lo len) (IntKind.u64.wrap f1) 4 = some ([1] ++ prefB hi lo len ++ be 4 (w64 f1)) := e2 k (by omega)
    have r1 : encP ⟨1, f1, f2, ⟨⟨hi, lo⟩, len⟩, ⟨ahi, alo⟩, seed, l⟩ = if (prefX len || fitX f1) = true then [] else be 1 (w64 1) ++ (prefB hi lo len ++ be 4 (w64 f1)) := rfl
    show flocculusref21_CommandBytes.f (k + 3) 1 f1 f2 hi lo len ahi alo seed l = some (encP _)
    rw [r1, be1 1 (by omega)]
    simp only [flocculusref21_CommandBytes.f, flocculusref21_CommandBytes.j0]
    rw [if_neg (by omega), if_neg (by simp), Option.bind_some]
    unfold prefX
    by_cases c1 : len < 0
    · rw [if_pos c1, decide_eq_true c1]
      simp [flocculusref21_CommandBytes.j1]
    · by_cases c2 : len > 255
      · rw [if_neg c1, if_pos c2, decide_eq_true (show 255 < len from c2)]
        simp [flocculusref21_CommandBytes.j1]
      · rw [if_neg c1, if_neg c2, decide_eq_false c1, decide_eq_false (show ¬ 255 < len from c2), fits_f, Option.bind_some]
        cases hf : fitX f1 with
        | true => simp [flocculusref21_CommandBytes.j1]
        | false =>
          simp only [flocculusref21_CommandBytes.j1, Bool.not_false, Bool.not_true, Bool.or_false]
          rw [if_neg Bool.false_ne_true, if_neg Bool.false_ne_true]
          show ((flocculusref21_prefix.f k [1] hi lo len).bind _) = _
          rw [g1, Option.bind_some, g2, Option.bind_some]
          simp [List.append_assoc]
  · obtain ⟨K1, e1⟩ := fpre_ev hi lo len h1 h2 [2] (by decide)
    refine ⟨K1 + 3, fun k hk => ?_⟩
    obtain ⟨k, rfl⟩ : ∃ k', k = k' + 2 := ⟨k - 2, by omega⟩
    have g1 : flocculusref21_prefix.f k [2] hi lo len = some ([2] ++ prefB hi lo len) := e1 k (by omega)
    have r1 : encP ⟨2, f1, f2, ⟨⟨hi, lo⟩, len⟩, ⟨ahi, alo⟩, seed, l⟩ = if prefX len = true then [] else be 1 (w64 2) ++ prefB hi lo len := rfl
    show flocculusref21_CommandBytes.f (k + 2) 2 f1 f2 hi lo len ahi alo seed l = some (encP _)
    rw [r1, be1 2 (by omega)]
    simp only [flocculusref21_CommandBytes.f, flocculusref21_CommandBytes.j0]
    rw [if_neg (by omega), if_neg (by simp), Option.bind_some, if_neg (by omega)]
    unfold prefX
    by_cases c1 : len < 0
    · rw [if_pos trivial, if_pos c1, decide_eq_true c1]; rfl
    · by_cases c2 : len > 255
      · rw [if_pos trivial, if_neg c1, if_pos c2, decide_eq_true (show 255 < len from c2), Bool.or_true]; rfl
      · rw [if_pos trivial, if_neg c1, if_neg c2, decide_eq_false c1, decide_eq_false (show ¬ 255 < len from c2)]
        show ((flocculusref21_prefix.f k [2] hi lo len).bind _) = _
        rw [g1, Option.bind_some]
        rfl
end Go.Proofs.Ytliighhedmfgjaa.Cmd
