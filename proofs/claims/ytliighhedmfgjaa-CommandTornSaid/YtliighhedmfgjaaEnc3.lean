/- The reference's bytes of a command that is neither an edit nor a batch. -/
import Derived.Test.YtliighhedmfgjaaEnc2
namespace Go.Proofs.Ytliighhedmfgjaa.Cmd
open Go.RowKit Go.Proofs.Ytliighhedmfgjaa.PRefC Go.Proofs.YtliighhedmfgjaaW.PrintWords Go.Proofs.YtliighhedmfgjaaW.PrintLast Go.Proofs.YtliighhedmfgjaaW.PrintMore

theorem cb_out (c : S29) (hk : c.f0 < 1 ∨ 8 < c.f0) : Ev (fun k => cbF k c) (encP c) := by
  obtain ⟨f0, f1, f2, ⟨⟨hi, lo⟩, len⟩, ⟨ahi, alo⟩, seed, l⟩ := c
  dsimp only at hk
  have hx : encP ⟨f0, f1, f2, ⟨⟨hi, lo⟩, len⟩, ⟨ahi, alo⟩, seed, l⟩ = [] := by
    unfold encP cmdX
    dsimp only
    rw [if_neg (show ¬ f0 = 1 by omega), if_neg (show ¬ f0 = 2 by omega), if_neg (show ¬ f0 = 3 by omega), if_neg (show ¬ f0 = 4 by omega), if_neg (show ¬ f0 = 6 by omega), if_neg (show ¬ f0 = 7 by omega), if_neg (show ¬ f0 = 5 by omega), if_neg (show ¬ f0 = 8 by omega), if_pos rfl]
  refine ⟨2, fun k hk2 => ?_⟩
  obtain ⟨k, rfl⟩ : ∃ k', k = k' + 2 := ⟨k - 2, by omega⟩
  rw [hx]
  show flocculusref21_CommandBytes.f (k + 2) f0 f1 f2 hi lo len ahi alo seed l = some []
  simp only [flocculusref21_CommandBytes.f, flocculusref21_CommandBytes.j0]
  by_cases h1 : f0 < 1
  · rw [if_pos h1]; rfl
  · rw [if_neg h1, if_pos (decide_eq_true (show f0 > 8 by omega))]
theorem cb_look (c : S29) (ho : okC c) (hk : c.f0 = 3) : Ev (fun k => cbF k c) (encP c) := by
  obtain ⟨f0, f1, f2, ⟨⟨hi, lo⟩, len⟩, ⟨ahi, alo⟩, seed, l⟩ := c
  obtain ⟨_, o3, o4, o5⟩ := ho
  dsimp only at hk o3 o4 o5
  subst hk
  obtain ⟨K1, e1⟩ := fnum_ev ahi o3 8 [3] (by omega) (by decide)
  obtain ⟨K2, e2⟩ := fnum_ev alo o4 8 ([3] ++ be 8 ahi) (by omega) (by rw [List.length_append, be_length]; decide)
  refine ⟨K1 + K2 + 2, fun k hk => ?_⟩
  obtain ⟨k, rfl⟩ : ∃ k', k = k' + 2 := ⟨k - 2, by omega⟩
  have g1 : flocculusref21_num.f k [3] ahi 8 = some ([3] ++ be 8 ahi) := e1 k (by omega)
  have g2 : flocculusref21_num.f k ([3] ++ be 8 ahi) alo 8 = some ([3] ++ be 8 ahi ++ be 8 alo) := e2 k (by omega)
  have r1 : encP ⟨3, f1, f2, ⟨⟨hi, lo⟩, len⟩, ⟨ahi, alo⟩, seed, l⟩ = be 1 (w64 3) ++ (be 8 ahi ++ be 8 alo) := rfl
  show flocculusref21_CommandBytes.f (k + 2) 3 f1 f2 hi lo len ahi alo seed l = some (encP _)
  rw [r1, be1 3 (by omega)]
  simp only [flocculusref21_CommandBytes.f, flocculusref21_CommandBytes.j0]
  rw [if_neg (by omega), if_neg (by simp), Option.bind_some, if_neg (by omega), if_neg (by omega), if_pos trivial]
  show ((flocculusref21_num.f k [3] ahi 8).bind _) = _
  rw [g1, Option.bind_some, g2, Option.bind_some]
  simp [List.append_assoc]
end Go.Proofs.Ytliighhedmfgjaa.Cmd
