/- What the reference's RightLevels answers, for the functions as they are printed for the law LevelsTell. -/
import Derived.Test.YtlklehliapbgeaaPLevelsTellx2
import Derived.Test.YtlklehliapbgeaaLevOpt
namespace Go.Proofs.Ytlklehliapbgeaa.RLLevelsTell
open Go.RowKit Go.Proofs.Ytlklehliapbgeaa.PLevelsTell Go.Proofs.YtlklehliapbgeaaW.PrintWords Go.Proofs.YtlklehliapbgeaaW.PrintLast Go.Proofs.YtlklehliapbgeaaW.PrintMore Go.Proofs.Ytlklehliapbgeaa.Histo
open Go.Proofs.Ytlklehliapbgeaa.Lev (Goes Able Right Goes.le)

theorem able_f (a b c d : Int) (v : Bool) (hv : v = true ↔ Able a b c d) : flocculusref11_able.f a b c d = some v := by
  have key : ∀ u : Bool, (u = true ↔ Able a b c d) → u = v := fun u hu => Bool.eq_iff_iff.mpr (hu.trans hv.symm)
  unfold flocculusref11_able.f
  unfold Able at key
  repeat' split
  all_goals (refine congrArg some (key _ ?_))
  all_goals (try rw [decide_eq_true_eq])
  all_goals (first | omega | (constructor <;> intro h <;> (first | omega | (exact absurd h (by decide)))))
theorem right_l (W st : Int) (l : List Int) (hlen : l.length ≤ 1000) (hbig : ∀ x ∈ l, x < 9223372036854775808) : ∀ (rest : List Int) (i : Nat) (a : Int) (v : Bool), l.drop i = rest → i ≤ l.length → 0 ≤ a → (v = true ↔ Goes W st a rest) →
    Ev (fun k => flocculusref11_RightLevels.l0 k W st l a (i : Int)) v
  | [], i, a, v, hd, hi, ha, hv => by
    have hl := drop_nil hd
    have e : (a == W) = v := Bool.eq_iff_iff.mpr (by rw [beq_iff_eq]; exact hv.symm)
    refine Ev.step (f := fun _ => some v) (fun k => ?_) (Ev.now _)
    simp only [flocculusref11_RightLevels.l0]; rw [if_neg (by omega), e]
  | x :: xs, i, a, v, hd, hi, ha, hv => by
    obtain ⟨hl, hx, hd'⟩ := drop_cons hd
    have hxb := hbig x (List.mem_of_mem_drop (by rw [hd]; simp))
    have hf : ¬ Goes W st a (x :: xs) → v = false := fun h => Bool.eq_false_iff.mpr (fun h' => h (hv.mp h'))
    by_cases h1 : x ≤ a
    · have hv' := hf (fun h => by have := h.1; omega)
      subst hv'
      refine Ev.step (f := fun _ => some false) (fun k => ?_) (Ev.now _)
      simp only [flocculusref11_RightLevels.l0]; rw [if_pos (by omega), if_pos (by omega), hx, if_pos h1]
    · by_cases h3 : x - a > st
      · have hv' := hf (fun h => by have := h.2.1; omega)
        subst hv'
        refine Ev.step (f := fun _ => some false) (fun k => ?_) (Ev.now _)
        simp only [flocculusref11_RightLevels.l0]; rw [if_pos (by omega), if_pos (by omega), hx, if_neg h1, wrap_of (by omega) (by omega), if_pos h3]
      · refine Ev.step (f := fun k => flocculusref11_RightLevels.l0 k W st l x ((i + 1 : Nat) : Int)) (fun k => ?_) (right_l W st l hlen hbig xs (i + 1) x v hd' (by omega) (by omega) (hv.trans ⟨fun h => h.2.2, fun h => ⟨by omega, by omega, h⟩⟩))
        simp only [flocculusref11_RightLevels.l0]; rw [if_pos (by omega), if_pos (by omega), hx, if_neg h1, wrap_of (n := x - a) (by omega) (by omega), if_neg h3, wrap_of (by omega) (by omega)]; rfl
theorem right_f (W low most st : Int) (l : List Int) (hbig : ∀ x ∈ l, x < 9223372036854775808) (v : Bool) (hv : v = true ↔ Right W low most st l) : Ev (fun k => flocculusref11_RightLevels.f k W low most st l) v := by
  by_cases hm : Able W low most st
  · refine Ev.congr (f := fun k => flocculusref11_RightLevels.j0 k W low st l (decide ((l.length : Int) > most))) (fun k => ?_) ?_
    · unfold flocculusref11_RightLevels.f; rw [able_f _ _ _ _ true (by simp [hm])]; simp
    obtain ⟨h1, h2, h3, h4, h5, h6, h7, h8⟩ := hm
    by_cases hl : (l.length : Int) > most
    · have hv' : v = false := Bool.eq_false_iff.mpr (fun h => by have := (hv.mp h).2.1; omega)
      subst hv'
      refine Ev.step (f := fun _ => some false) (fun k => ?_) (Ev.now _)
      simp only [flocculusref11_RightLevels.j0]; rw [if_pos (by simp [hl])]
    · refine Ev.step (f := fun k => flocculusref11_RightLevels.l0 k W st l low ((0 : Nat) : Int)) (fun k => ?_) (right_l W st l (by omega) hbig l 0 low v rfl (by omega) h3 (hv.trans ⟨fun h => h.2.2, fun h => ⟨⟨h1, h2, h3, h4, h5, h6, h7, h8⟩, by omega, h⟩⟩))
      simp only [flocculusref11_RightLevels.j0]; rw [if_neg (by simp; omega)]; rfl
  · have hv' : v = false := Bool.eq_false_iff.mpr (fun h => hm (hv.mp h).1)
    subst hv'
    refine Ev.congr (f := fun k => flocculusref11_RightLevels.j0 k W low st l true) (fun k => ?_) ?_
    · unfold flocculusref11_RightLevels.f; rw [able_f _ _ _ _ false (by simp [hm])]; simp
    · refine Ev.step (f := fun _ => some false) (fun k => ?_) (Ev.now _)
      simp only [flocculusref11_RightLevels.j0]; rw [if_pos trivial]
end Go.Proofs.Ytlklehliapbgeaa.RLLevelsTell
