/- For every width, low, most, stride and counts: the law LevelsMore answers true. -/
import Derived.Test.YtlklehliapbgeaaPLevelsMorex3
import Derived.Test.YtlklehliapbgeaaRCLevelsMore
import Derived.Test.YtlklehliapbgeaaLRLevelsMore
namespace Go.Proofs.Ytlklehliapbgeaa.Pure
open Go.RowKit Go.Proofs.Ytlklehliapbgeaa.PLevelsMore Go.Proofs.YtlklehliapbgeaaW.PrintWords Go.Proofs.YtlklehliapbgeaaW.PrintLast Go.Proofs.YtlklehliapbgeaaW.PrintMore Go.Proofs.Ytlklehliapbgeaa.Histo
open Go.Proofs.Ytlklehliapbgeaa.Lev (Goes Able Right costG cutC chooseP chooseO choose_tells Goes.le Goes.cost Goes.rising Goes.wider costG_nonneg costG_same cutC_zero cutC_same)

theorem cost_right (c : List Int) (W low most st : Int) (l : List Int) (h : Right W low most st l) : Ev (fun k => flocculusref11_Cost.f k (cutC c W) l low) (costG c low l, true) := by
  obtain ⟨⟨h1, h2, h3, h4, h5, h6, h7, h8⟩, hl, hg⟩ := h
  have hc := hg.cost (c := cutC c W) h8 (fun n hn _ => cutC_zero c W n (by omega) hn)
  rw [← costG_same (c := cutC c W) (fun n hn => cutC_same c W n (by omega) hn) hg]
  exact RCLevelsMore.cost_f_yes (cutC c W) l low _ (by omega) h3 (hg.rising h2) hc
theorem Right.more {W low m s m' s' : Int} {l : List Int} (h : Right W low m s l) (hm : m ≤ m') (hs : s ≤ s') (hm' : m' ≤ 128) (hs' : s' ≤ 20) : Right W low m' s' l := by
  obtain ⟨⟨h1, h2, h3, h4, h5, h6, h7, h8⟩, hl, hg⟩ := h
  exact ⟨by unfold Able; omega, by omega, hg.wider hs⟩

theorem main (a0 a1 a2 a3 : Int) (l4 : List Int) (y4 : l4.length * 8 ≤ 140737488351232) (h1 : 1 ≤ a0) (h2 : a0 ≤ 40) (h3 : 0 ≤ a1) (h4 : a1 ≤ a0) (h5 : 0 ≤ a2) (h6 : a2 ≤ 40) (h7 : 1 ≤ a3) (h8 : a3 ≤ 19) (h9 : (l4.length : Int) ≤ 200) : Ev (fun k => flocculuslaw17_LevelsMore.f k a0 a1 a2 a3 l4) true := by
  obtain ⟨Ka, hKa⟩ := LRLevelsMore.alive_f
  have e0 : wrap64 (a0 + 1) = a0 + 1 := wrap_of (by omega) (by omega)
  have e2 : wrap64 (a2 + 1) = a2 + 1 := wrap_of (by omega) (by omega)
  have e3 : wrap64 (a3 + 1) = a3 + 1 := wrap_of (by omega) (by omega)
  have n1 : ¬ a0 < 1 := by omega
  have n2 : ¬ a0 > 40 := by omega
  have n3 : ¬ a1 < 0 := by omega
  have n4 : ¬ a1 > a0 := by omega
  have n5 : ¬ a2 < 0 := by omega
  have n6 : ¬ a2 > 40 := by omega
  have n7 : ¬ a3 < 1 := by omega
  have n8 : ¬ a3 > 19 := by omega
  have n9 : ¬ (l4.length : Int) > 200 := by omega
  rcases choose_tells a0 a1 a2 a3 l4 with ⟨c1, c2, c3⟩ | ⟨hc, _⟩
  · have r2 := Right.more (m' := a2 + 1) (s' := a3) c2 (by omega) (by omega) (by omega) (by omega)
    have r3 := Right.more (m' := a2) (s' := a3 + 1) c2 (by omega) (by omega) (by omega) (by omega)
    rcases choose_tells a0 a1 (a2 + 1) a3 l4 with ⟨d1, d2, d3⟩ | ⟨_, hd⟩
    case inr => exact absurd r2 (hd _)
    rcases choose_tells a0 a1 a2 (a3 + 1) l4 with ⟨f1, f2, f3⟩ | ⟨_, hf⟩
    case inr => exact absurd r3 (hf _)
    have b2 := d3 _ r2
    have b3 := f3 _ r3
    obtain ⟨Kb, hKb⟩ := cost_right l4 a0 a1 a2 a3 _ c2
    obtain ⟨Kc, hKc⟩ := cost_right l4 a0 a1 (a2 + 1) a3 _ d2
    obtain ⟨Kd, hKd⟩ := cost_right l4 a0 a1 a2 (a3 + 1) _ f2
    refine ⟨Ka + Kb + Kc + Kd, fun k hk => ?_⟩
    have hKa' : flocculuslaw17_alive.f k = some true := hKa _ (by omega)
    have hKb' := hKb k (by omega)
    have hKc' := hKc k (by omega)
    have hKd' := hKd k (by omega)
    have g2 : costG l4 a1 (chooseP a0 a1 (a2 + 1) a3 l4).1 ≤ costG l4 a1 (chooseP a0 a1 a2 a3 l4).1 := by omega
    have g3 : costG l4 a1 (chooseP a0 a1 a2 (a3 + 1) l4).1 ≤ costG l4 a1 (chooseP a0 a1 a2 a3 l4).1 := by omega
    unfold cutC at hKb' hKc' hKd'
    show flocculuslaw17_LevelsMore.f k a0 a1 a2 a3 l4 = some true
    unfold flocculuslaw17_LevelsMore.f
    rw [hKa']
    simp only [Option.bind_some, if_true, e0, e2, e3]
    rw [if_neg n1, if_neg n2, if_neg n3, if_neg n4, if_neg n5, if_neg n6, if_neg n7, if_neg n8, if_neg n9]
    by_cases hlen : (l4.length : Int) > a0 + 1
    · rw [if_pos hlen] at hKb' hKc' hKd'
      rw [if_pos hlen, if_pos (show (0 : Int) ≤ a0 + 1 by omega), if_pos (show a0 + 1 ≤ (l4.length : Int) by omega), LRLevelsMore.choose_f _ _ _ _ _ y4, LRLevelsMore.choose_f _ _ _ _ _ y4, LRLevelsMore.choose_f _ _ _ _ _ y4]
      simp only [Option.bind_some, flocculuslaw17_num.f, c1, d1, f1, hKb', hKc', hKd', if_true]
      simp [g2, g3]
    · rw [if_neg hlen] at hKb' hKc' hKd'
      rw [if_neg hlen, LRLevelsMore.choose_f _ _ _ _ _ y4, LRLevelsMore.choose_f _ _ _ _ _ y4, LRLevelsMore.choose_f _ _ _ _ _ y4]
      simp only [Option.bind_some, flocculuslaw17_num.f, c1, d1, f1, hKb', hKc', hKd', if_true]
      simp [g2, g3]
  · refine ⟨Ka, fun k hk => ?_⟩
    have hKa' : flocculuslaw17_alive.f k = some true := hKa _ (by omega)
    show flocculuslaw17_LevelsMore.f k a0 a1 a2 a3 l4 = some true
    unfold flocculuslaw17_LevelsMore.f
    rw [hKa']
    simp only [Option.bind_some, if_true, e0, e2, e3]
    rw [if_neg n1, if_neg n2, if_neg n3, if_neg n4, if_neg n5, if_neg n6, if_neg n7, if_neg n8, if_neg n9]
    by_cases hlen : (l4.length : Int) > a0 + 1
    · rw [if_pos hlen, if_pos (show (0 : Int) ≤ a0 + 1 by omega), if_pos (show a0 + 1 ≤ (l4.length : Int) by omega), LRLevelsMore.choose_f _ _ _ _ _ y4, LRLevelsMore.choose_f _ _ _ _ _ y4, LRLevelsMore.choose_f _ _ _ _ _ y4]
      simp only [Option.bind_some, flocculuslaw17_num.f, hc]
      rfl
    · rw [if_neg hlen, LRLevelsMore.choose_f _ _ _ _ _ y4, LRLevelsMore.choose_f _ _ _ _ _ y4, LRLevelsMore.choose_f _ _ _ _ _ y4]
      simp only [Option.bind_some, flocculuslaw17_num.f, hc]
      rfl

theorem LevelsMore : flocculuslaw17_LevelsMore.Pure := by
  intro a0 a1 a2 a3 l4 w0 w1 w2 w3 hm4 y4 hw4
  by_cases h : 1 ≤ a0 ∧ a0 ≤ 40 ∧ 0 ≤ a1 ∧ a1 ≤ a0 ∧ 0 ≤ a2 ∧ a2 ≤ 40 ∧ 1 ≤ a3 ∧ a3 ≤ 19 ∧ (l4.length : Int) ≤ 200
  · obtain ⟨h1, h2, h3, h4, h5, h6, h7, h8, h9⟩ := h
    exact (main a0 a1 a2 a3 l4 y4 h1 h2 h3 h4 h5 h6 h7 h8 h9).rounds
  · obtain ⟨Ka, hKa⟩ := LRLevelsMore.alive_f
    refine ⟨Ka, ?_⟩
    have hKa' : flocculuslaw17_alive.f Ka = some true := hKa _ (by omega)
    unfold flocculuslaw17_LevelsMore.f
    rw [hKa']
    simp only [Option.bind_some, if_true]
    by_cases n1 : a0 < 1
    · rw [if_pos n1]
    rw [if_neg n1]
    by_cases n2 : a0 > 40
    · rw [if_pos n2]
    rw [if_neg n2]
    by_cases n3 : a1 < 0
    · rw [if_pos n3]
    rw [if_neg n3]
    by_cases n4 : a1 > a0
    · rw [if_pos n4]
    rw [if_neg n4]
    by_cases n5 : a2 < 0
    · rw [if_pos n5]
    rw [if_neg n5]
    by_cases n6 : a2 > 40
    · rw [if_pos n6]
    rw [if_neg n6]
    by_cases n7 : a3 < 1
    · rw [if_pos n7]
    rw [if_neg n7]
    by_cases n8 : a3 > 19
    · rw [if_pos n8]
    rw [if_neg n8]
    rw [if_pos (show (l4.length : Int) > 200 by omega)]
end Go.Proofs.Ytlklehliapbgeaa.Pure
