/- The reference's bytes of a command that starts, steps or dumps. -/
import Derived.Test.YtliighhedmfgjaaEnc3
namespace Go.Proofs.Ytliighhedmfgjaa.Cmd
open Go.RowKit Go.Proofs.Ytliighhedmfgjaa.PRefC Go.Proofs.YtliighhedmfgjaaW.PrintWords Go.Proofs.YtliighhedmfgjaaW.PrintLast Go.Proofs.YtliighhedmfgjaaW.PrintMore

theorem cb_start (c : S29) (hk : c.f0 = 4) : Ev (fun k => cbF k c) (encP c) := by
  obtain ⟨f0, f1, f2, ⟨⟨hi, lo⟩, len⟩, ⟨ahi, alo⟩, seed, l⟩ := c
  dsimp only at hk
  subst hk
  obtain ⟨K1, e1⟩ := fnum_ev (w64 f2) (w64_range f2) 4 [4] (by omega) (by decide)
  refine ⟨K1 + 3, fun k hk => ?_⟩
  obtain ⟨k, rfl⟩ : ∃ k', k = k' + 3 := ⟨k - 3, by omega⟩
  have g1 : flocculusref21_num.f k [4] (IntKind.u64.wrap f2) 4 = some ([4] ++ be 4 (w64 f2)) := e1 k (by omega)
  have r1 : encP ⟨4, f1, f2, ⟨⟨hi, lo⟩, len⟩, ⟨ahi, alo⟩, seed, l⟩ = if fitX f2 = true then [] else be 1 (w64 4) ++ be 4 (w64 f2) := rfl
  show flocculusref21_CommandBytes.f (k + 3) 4 f1 f2 hi lo len ahi alo seed l = some (encP _)
  rw [r1, be1 4 (by omega)]
  simp only [flocculusref21_CommandBytes.f, flocculusref21_CommandBytes.j0, flocculusref21_CommandBytes.j2]
  rw [if_neg (by omega), if_neg (by simp), Option.bind_some, if_neg (by omega), if_neg (by omega), if_neg (by omega), if_pos trivial, if_pos (show ((4 : Int) == 4) = true by decide), fits_f, Option.bind_some]
  cases hf : fitX f2 with
  | true => simp
  | false =>
    rw [if_pos (show (!false) = true from rfl), if_neg (by omega), if_neg Bool.false_ne_true]
    show ((flocculusref21_num.f k [4] (IntKind.u64.wrap f2) 4).bind _) = _
    rw [g1, Option.bind_some]
    rfl
theorem cb_plain (c : S29) (hk : c.f0 = 5 ∨ c.f0 = 8) : Ev (fun k => cbF k c) (encP c) := by
  obtain ⟨f0, f1, f2, ⟨⟨hi, lo⟩, len⟩, ⟨ahi, alo⟩, seed, l⟩ := c
  dsimp only at hk
  refine ⟨3, fun k hk2 => ?_⟩
  obtain ⟨k, rfl⟩ : ∃ k', k = k' + 3 := ⟨k - 3, by omega⟩
  rcases hk with rfl | rfl
  · show flocculusref21_CommandBytes.f (k + 3) 5 f1 f2 hi lo len ahi alo seed l = some (be 1 (w64 5) ++ [])
    rw [be1 5 (by omega)]
    simp [flocculusref21_CommandBytes.f, flocculusref21_CommandBytes.j0, flocculusref21_CommandBytes.j2]
  · show flocculusref21_CommandBytes.f (k + 3) 8 f1 f2 hi lo len ahi alo seed l = some (be 1 (w64 8) ++ [])
    rw [be1 8 (by omega)]
    simp [flocculusref21_CommandBytes.f, flocculusref21_CommandBytes.j0, flocculusref21_CommandBytes.j2]
theorem cb_seed (c : S29) (ho : okC c) (hk : c.f0 = 6) : Ev (fun k => cbF k c) (encP c) := by
  obtain ⟨f0, f1, f2, ⟨⟨hi, lo⟩, len⟩, ⟨ahi, alo⟩, seed, l⟩ := c
  obtain ⟨_, o3, o4, o5⟩ := ho
  dsimp only at hk o5
  subst hk
  obtain ⟨K1, e1⟩ := fnum_ev seed o5 8 [6] (by omega) (by decide)
  obtain ⟨K2, e2⟩ := fnum_ev (w64 f2) (w64_range f2) 4 ([6] ++ be 8 seed) (by omega) (by rw [List.length_append, be_length]; decide)
  refine ⟨K1 + K2 + 3, fun k hk => ?_⟩
  obtain ⟨k, rfl⟩ : ∃ k', k = k' + 3 := ⟨k - 3, by omega⟩
  have g1 : flocculusref21_num.f k [6] seed 8 = some ([6] ++ be 8 seed) := e1 k (by omega)
  have g2 : flocculusref21_num.f k ([6] ++ be 8 seed) (IntKind.u64.wrap f2) 4 = some ([6] ++ be 8 seed ++ be 4 (w64 f2)) := e2 k (by omega)
  have r1 : encP ⟨6, f1, f2, ⟨⟨hi, lo⟩, len⟩, ⟨ahi, alo⟩, seed, l⟩ = if fitX f2 = true then [] else be 1 (w64 6) ++ (be 8 seed ++ be 4 (w64 f2)) := rfl
  show flocculusref21_CommandBytes.f (k + 3) 6 f1 f2 hi lo len ahi alo seed l = some (encP _)
  rw [r1, be1 6 (by omega)]
  simp only [flocculusref21_CommandBytes.f, flocculusref21_CommandBytes.j0, flocculusref21_CommandBytes.j2]
  rw [if_neg (by omega), if_neg (by simp), Option.bind_some, if_neg (by omega), if_neg (by omega), if_neg (by omega), if_neg (by omega), if_pos (show ((6 : Int) == 6) = true by decide), fits_f, Option.bind_some]
  cases hf : fitX f2 with
  | true => simp
  | false =>
    rw [if_pos (show (!false) = true from rfl), if_pos trivial, if_neg Bool.false_ne_true]
    show ((flocculusref21_num.f k [6] seed 8).bind _) = _
    rw [g1, Option.bind_some, g2, Option.bind_some]
    simp [List.append_assoc]
end Go.Proofs.Ytliighhedmfgjaa.Cmd
