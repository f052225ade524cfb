/- For every width, low, most, stride, counts and other levels: the law LevelsLeast answers true. -/
import Derived.Test.YtlklehliapbgeaaPLevelsLeastx3
import Derived.Test.YtlklehliapbgeaaRCLevelsLeast
import Derived.Test.YtlklehliapbgeaaLRLevelsLeast
import Derived.Test.YtlklehliapbgeaaRLLevelsLeast
namespace Go.Proofs.Ytlklehliapbgeaa.Pure
open Go.RowKit Go.Proofs.Ytlklehliapbgeaa.PLevelsLeast Go.Proofs.YtlklehliapbgeaaW.PrintWords Go.Proofs.YtlklehliapbgeaaW.PrintLast Go.Proofs.YtlklehliapbgeaaW.PrintMore Go.Proofs.Ytlklehliapbgeaa.Histo
open Go.Proofs.Ytlklehliapbgeaa.Lev (Goes Able Right costG cutC chooseP chooseO choose_tells Goes.le Goes.cost Goes.rising costG_nonneg costG_same cutC_zero cutC_same)

theorem wf_lt {x : Int} (h : (Lit.int .i64 x).wf = true) : -9223372036854775808 ≤ x ∧ x < 9223372036854775808 := by
  simp [Lit.wf, IntKind.min, IntKind.max, IntKind.bits, IntKind.signed] at h
  omega

theorem cost_right (c : List Int) (W low most st : Int) (l : List Int) (h : Right W low most st l) : Ev (fun k => flocculusref11_Cost.f k (cutC c W) l low) (costG c low l, true) := by
  obtain ⟨⟨h1, h2, h3, h4, h5, h6, h7, h8⟩, hl, hg⟩ := h
  have hc := hg.cost (c := cutC c W) h8 (fun n hn _ => cutC_zero c W n (by omega) hn)
  rw [← costG_same (c := cutC c W) (fun n hn => cutC_same c W n (by omega) hn) hg]
  exact RCLevelsLeast.cost_f_yes (cutC c W) l low _ (by omega) h3 (hg.rising h2) hc

theorem main (a0 a1 a2 a3 : Int) (l4 l5 : List Int) (y4 : l4.length * 8 ≤ 140737488351232) (hw5 : ∀ x ∈ l5, (Lit.int .i64 x).wf = true) : Ev (fun k => flocculuslaw17_LevelsLeast.j0 k a0 a1 a2 a3 l4 l5 true false) true := by
  obtain ⟨v, hv⟩ : ∃ v : Bool, v = true ↔ Right a0 a1 a2 a3 l5 := by classical exact ⟨decide (Right a0 a1 a2 a3 l5), decide_eq_true_iff⟩
  obtain ⟨Kb, hKb⟩ := RLLevelsLeast.right_f a0 a1 a2 a3 l5 (fun x hx => (wf_lt (hw5 x hx)).2) v hv
  rcases choose_tells a0 a1 a2 a3 l4 with ⟨h1, h2, h3⟩ | ⟨h, hno⟩
  · have h2' := h2
    obtain ⟨⟨g1, g2, g3, g4, g5, g6, g7, g8⟩, hl, hg⟩ := h2'
    obtain ⟨Kc, hKc⟩ := RLLevelsLeast.right_f a0 a1 a2 a3 (chooseP a0 a1 a2 a3 l4).1 (fun x hx => by have := (hg.le.2 x hx).2; omega) true ⟨fun _ => h2, fun _ => rfl⟩
    have hw : wrap64 (a0 + 1) = a0 + 1 := wrap_of (by omega) (by omega)
    cases hvv : v with
    | false =>
      refine ⟨Kb + Kc + 1, fun k hk => ?_⟩
      obtain ⟨k, rfl⟩ : ∃ j, k = j + 1 := ⟨k - 1, by omega⟩
      simp only [flocculuslaw17_LevelsLeast.j0]
      rw [LRLevelsLeast.choose_f _ _ _ _ _ y4]
      simp only [Option.bind_some, hKb k (by omega), flocculuslaw17_num.f, h1, hKc k (by omega), hvv]
      rfl
    | true =>
      have hr5 := hv.mp hvv
      obtain ⟨Kd, hKd⟩ := cost_right l4 a0 a1 a2 a3 _ h2
      obtain ⟨Ke, hKe⟩ := cost_right l4 a0 a1 a2 a3 _ hr5
      have hbest := h3 l5 hr5
      refine ⟨Kb + Kc + Kd + Ke + 1, fun k hk => ?_⟩
      obtain ⟨k, rfl⟩ : ∃ j, k = j + 1 := ⟨k - 1, by omega⟩
      have hKd := hKd k (by omega)
      have hKe := hKe k (by omega)
      simp only [flocculuslaw17_LevelsLeast.j0]
      rw [LRLevelsLeast.choose_f _ _ _ _ _ y4]
      simp only [Option.bind_some, hKb k (by omega), flocculuslaw17_num.f, h1, hKc k (by omega), hvv, hw, if_true]
      unfold cutC at hKd hKe
      by_cases hlen : (l4.length : Int) > a0 + 1
      · rw [if_pos hlen] at hKd hKe
        rw [if_pos hlen, if_pos (show (0 : Int) ≤ a0 + 1 by omega), if_pos (show a0 + 1 ≤ (l4.length : Int) by omega)]
        simp only [hKd, hKe, Option.bind_some, if_true]
        by_cases hlt : costG l4 a1 (chooseP a0 a1 a2 a3 l4).1 < costG l4 a1 l5
        · simp [hlt]
        · have e1 : costG l4 a1 (chooseP a0 a1 a2 a3 l4).1 = costG l4 a1 l5 := by omega
          have e2 : (chooseP a0 a1 a2 a3 l4).1.length ≤ l5.length := by omega
          simp [e1, e2]
      · rw [if_neg hlen] at hKd hKe
        rw [if_neg hlen]
        simp only [hKd, hKe, Option.bind_some, if_true]
        by_cases hlt : costG l4 a1 (chooseP a0 a1 a2 a3 l4).1 < costG l4 a1 l5
        · simp [hlt]
        · have e1 : costG l4 a1 (chooseP a0 a1 a2 a3 l4).1 = costG l4 a1 l5 := by omega
          have e2 : (chooseP a0 a1 a2 a3 l4).1.length ≤ l5.length := by omega
          simp [e1, e2]
  · have hv' : v = false := Bool.eq_false_iff.mpr (fun h' => hno l5 (hv.mp h'))
    refine ⟨Kb + 1, fun k hk => ?_⟩
    obtain ⟨k, rfl⟩ : ∃ j, k = j + 1 := ⟨k - 1, by omega⟩
    simp only [flocculuslaw17_LevelsLeast.j0]
    rw [LRLevelsLeast.choose_f _ _ _ _ _ y4]
    simp only [Option.bind_some, hKb k (by omega), flocculuslaw17_num.f, h, hv']
    rfl

theorem LevelsLeast : flocculuslaw17_LevelsLeast.Pure := by
  intro a0 a1 a2 a3 l4 l5 w0 w1 w2 w3 hm4 y4 hw4 hm5 y5 hw5
  obtain ⟨Ka, hKa⟩ := LRLevelsLeast.alive_f
  obtain ⟨Km, hKm⟩ := main a0 a1 a2 a3 l4 l5 y4 hw5
  refine ⟨Ka + Km + 1, ?_⟩
  have j : ∀ b, flocculuslaw17_LevelsLeast.j0 (Ka + Km + 1) a0 a1 a2 a3 l4 l5 true b = some true := by
    intro b
    cases b with
    | false => exact hKm _ (by omega)
    | true => simp only [flocculuslaw17_LevelsLeast.j0]; rfl
  unfold flocculuslaw17_LevelsLeast.f
  have hKa' : flocculuslaw17_alive.f (Ka + Km + 1) = some true := hKa _ (by omega)
  rw [hKa']
  simp only [Option.bind_some, j]
  repeat' split
  all_goals rfl
end Go.Proofs.Ytlklehliapbgeaa.Pure
