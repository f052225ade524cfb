/- What package levels answers, for the functions as they are printed for the law LevelsTell: Right, Choose, the example. -/
import Derived.Test.YtlklehliapbgeaaPLevelsTellx2
import Derived.Test.YtlklehliapbgeaaLevOpt
namespace Go.Proofs.Ytlklehliapbgeaa.LRLevelsTell
open Go.RowKit Go.Proofs.Ytlklehliapbgeaa.PLevelsTell Go.Proofs.YtlklehliapbgeaaW.PrintWords Go.Proofs.YtlklehliapbgeaaW.PrintLast Go.Proofs.YtlklehliapbgeaaW.PrintMore Go.Proofs.Ytlklehliapbgeaa.Histo
open Go.Proofs.Ytlklehliapbgeaa.Lev (Goes Able Right costG cutC chooseP chooseO choose_tells Goes.le Goes.cost Goes.rising costG_nonneg costG_same cutC_zero cutC_same)

theorem may_f (a b c d : Int) (v : Bool) (hv : v = true ↔ Able a b c d) : levels_may.f a b c d = some v := by
  have key : ∀ u : Bool, (u = true ↔ Able a b c d) → u = v := fun u hu => Bool.eq_iff_iff.mpr (hu.trans hv.symm)
  unfold levels_may.f
  unfold Able at key
  repeat' split
  all_goals (refine congrArg some (key _ ?_))
  all_goals (try rw [decide_eq_true_eq])
  all_goals (first | omega | (constructor <;> intro h <;> (first | omega | (exact absurd h (by decide)))))
theorem right_l (W st : Int) (hW : W ≤ 128) (l : List Int) (hlen : l.length ≤ 1000) : ∀ (rest : List Int) (i : Nat) (a : Int) (v : Bool), l.drop i = rest → i ≤ l.length → 0 ≤ a → a ≤ 128 → (v = true ↔ Goes W st a rest) →
    Ev (fun k => levels_Right.l0 k W a st l (l.length : Int) (i : Int)) v
  | [], i, a, v, hd, hi, ha, ha2, hv => by
    have hl := drop_nil hd
    have e : (a == W) = v := Bool.eq_iff_iff.mpr (by rw [beq_iff_eq]; exact hv.symm)
    refine Ev.step (f := fun _ => some v) (fun k => ?_) (Ev.now _)
    simp only [levels_Right.l0]; rw [if_neg (by omega), e]
  | x :: xs, i, a, v, hd, hi, ha, ha2, hv => by
    obtain ⟨hl, hx, hd'⟩ := drop_cons hd
    have hf : ¬ Goes W st a (x :: xs) → v = false := fun h => Bool.eq_false_iff.mpr (fun h' => h (hv.mp h'))
    by_cases h1 : x ≤ a
    · have hv' := hf (fun h => by have := h.1; omega)
      subst hv'
      refine Ev.step (f := fun _ => some false) (fun k => ?_) (Ev.now _)
      simp only [levels_Right.l0]; rw [if_pos (by omega), if_pos (by omega), if_pos (by omega), hx, if_pos h1]
    · by_cases h2 : x > W
      · have hv' := hf (fun h => by have := h.2.2.le.1; omega)
        subst hv'
        refine Ev.step (f := fun _ => some false) (fun k => ?_) (Ev.now _)
        simp only [levels_Right.l0]; rw [if_pos (by omega), if_pos (by omega), if_pos (by omega), hx, if_neg h1, if_pos h2]
      · by_cases h3 : x - a > st
        · have hv' := hf (fun h => by have := h.2.1; omega)
          subst hv'
          refine Ev.step (f := fun _ => some false) (fun k => ?_) (Ev.now _)
          simp only [levels_Right.l0]; rw [if_pos (by omega), if_pos (by omega), if_pos (by omega), hx, if_neg h1, if_neg h2, wrap_of (by omega) (by omega), if_pos h3]
        · refine Ev.step (f := fun k => levels_Right.l0 k W x st l (l.length : Int) ((i + 1 : Nat) : Int)) (fun k => ?_) (right_l W st hW l hlen xs (i + 1) x v hd' (by omega) (by omega) (by omega) (hv.trans ⟨fun h => h.2.2, fun h => ⟨by omega, by omega, h⟩⟩))
          simp only [levels_Right.l0]; rw [if_pos (by omega), if_pos (by omega), if_pos (by omega), hx, if_neg h1, if_neg h2, wrap_of (n := x - a) (by omega) (by omega), if_neg h3, wrap_of (by omega) (by omega)]; rfl
theorem right_f (W low most st : Int) (l : List Int) (v : Bool) (hv : v = true ↔ Right W low most st l) : Ev (fun k => levels_Right.f k W low most st l) v := by
  by_cases hm : Able W low most st
  · refine Ev.congr (f := fun k => levels_Right.j0 k W low st l (decide ((l.length : Int) > most))) (fun k => ?_) ?_
    · unfold levels_Right.f; rw [may_f _ _ _ _ true (by simp [hm])]; simp
    obtain ⟨h1, h2, h3, h4, h5, h6, h7, h8⟩ := hm
    by_cases hl : (l.length : Int) > most
    · have hv' : v = false := Bool.eq_false_iff.mpr (fun h => by have := (hv.mp h).2.1; omega)
      subst hv'
      refine Ev.step (f := fun _ => some false) (fun k => ?_) (Ev.now _)
      simp only [levels_Right.j0]; rw [if_pos (by simp [hl])]
    · refine Ev.step (f := fun k => levels_Right.l0 k W low st l (l.length : Int) ((0 : Nat) : Int)) (fun k => ?_) (right_l W st h2 l (by omega) l 0 low v rfl (by omega) h3 (by omega) (hv.trans ⟨fun h => h.2.2, fun h => ⟨⟨h1, h2, h3, h4, h5, h6, h7, h8⟩, by omega, h⟩⟩))
      simp only [levels_Right.j0]; rw [if_neg (by simp; omega)]; rfl
  · have hv' : v = false := Bool.eq_false_iff.mpr (fun h => hm (hv.mp h).1)
    subst hv'
    refine Ev.congr (f := fun k => levels_Right.j0 k W low st l true) (fun k => ?_) ?_
    · unfold levels_Right.f; rw [may_f _ _ _ _ false (by simp [hm])]; simp
    · refine Ev.step (f := fun _ => some false) (fun k => ?_) (Ev.now _)
      simp only [levels_Right.j0]; rw [if_pos trivial]

theorem choose_f (a b c d : Int) (l : List Int) (hb : l.length * 8 ≤ 140737488351232) : levels_Choose.f a b c d l = some (chooseP a b c d l) := by
  unfold levels_Choose.f chooseO
  rw [if_pos hb]
theorem ex1 : chooseP 8 8 3 4 [] = ([], 0) := by
  rcases choose_tells 8 8 3 4 [] with ⟨h1, h2, _⟩ | ⟨_, h⟩
  · match hl : (chooseP 8 8 3 4 []).1, h2 with
    | [], h2 => exact Prod.ext hl h1
    | x :: xs, h2 => have := h2.2.2.1; have := h2.2.2.2.2.le.1; omega
  · exact absurd ⟨by unfold Able; omega, by simp, rfl⟩ (h [])
theorem ex2 : chooseP 8 4 3 4 [] = ([8], 0) := by
  have hr : Right 8 4 3 4 [8] := ⟨by unfold Able; omega, by simp, by omega, by omega, rfl⟩
  have hz : ∀ (l : List Int) (a : Int), costG [] a l = 0 := by
    intro l
    induction l with
    | nil => intro a; rfl
    | cons x xs ih =>
      intro a
      show S [] x _ + costG [] x xs = 0
      rw [ih, S_zero]
      · rfl
      · intro i _
        unfold atV mn
        split
        · rfl
        · rw [if_pos (by simp; omega)]
  rcases choose_tells 8 4 3 4 [] with ⟨h1, h2, h3⟩ | ⟨_, h⟩
  · have hb := h3 _ hr
    rw [hz, hz] at hb
    have hb' : (chooseP 8 4 3 4 []).1.length ≤ 1 := by rcases hb with h | h; omega; exact h.2
    match hl : (chooseP 8 4 3 4 []).1, h2, hb' with
    | [], h2, _ => have : (4 : Int) = 8 := h2.2.2; omega
    | [x], h2, _ =>
      have : x = 8 := h2.2.2.2.2
      subst this
      exact Prod.ext hl h1
    | _ :: _ :: _, _, hb' => simp only [List.length_cons] at hb'; omega
  · exact absurd hr (h _)
theorem alive_f : Ev (fun k => flocculuslaw17_alive.f k) true := by
  refine Ev.congr (f := fun k => (levels_Right.f k 8 4 3 4 [8]).bind fun t => some t) (fun k => ?_) (Ev.bind (right_f 8 4 3 4 [8] true ?_) (Ev.now _))
  · unfold flocculuslaw17_alive.f
    rw [choose_f _ _ _ _ _ (by simp), choose_f _ _ _ _ _ (by simp), ex1, ex2]
    simp [flocculuslaw17_num.f, rd]
  · exact ⟨fun _ => ⟨by unfold Able; omega, by simp, by omega, by omega, rfl⟩, fun _ => rfl⟩
end Go.Proofs.Ytlklehliapbgeaa.LRLevelsTell
