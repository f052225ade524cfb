/- What package histo answers, for the functions as they are printed for the law HistoMore. -/
import Derived.Test.YtlklehliapbgeaaPHistoMorex1
import Derived.Test.YtlklehliapbgeaaHisto
namespace Go.Proofs.Ytlklehliapbgeaa.HCHistoMore
open Go.RowKit Go.Proofs.Ytlklehliapbgeaa.PHistoMore Go.Proofs.YtlklehliapbgeaaW.PrintWords Go.Proofs.YtlklehliapbgeaaW.PrintLast Go.Proofs.YtlklehliapbgeaaW.PrintMore Go.Proofs.Ytlklehliapbgeaa.Histo

theorem at_f (c : List Int) (n : Int) : histo_At.f c n = some (atV c n) := by
  unfold histo_At.f atV
  split
  · rfl
  · split
    · rfl
    · rename_i h1 h2
      rw [if_pos (by omega), if_pos (by unfold mn at h2; split at h2 <;> omega)]

theorem rise_yes (ls : List Int) (hlen : ls.length ≤ 1000) : ∀ (rest : List Int) (i : Nat) (low : Int), ls.drop i = rest → i ≤ ls.length → Rising low rest →
    Ev (fun k => histo_rise.l0 k low ls (ls.length : Int) (i : Int)) true
  | [], i, low, hd, hi, _ => by
    have hl := drop_nil hd
    refine Ev.step (f := fun _ => some true) (fun k => ?_) (Ev.now _)
    simp only [histo_rise.l0]; rw [if_neg (by omega)]
  | x :: xs, i, low, hd, hi, hr => by
    obtain ⟨hl, hx, hd'⟩ := drop_cons hd
    obtain ⟨h1, h2, h3⟩ := hr
    refine Ev.step (f := fun k => histo_rise.l0 k x ls (ls.length : Int) ((i + 1 : Nat) : Int)) (fun k => ?_) (rise_yes ls hlen xs (i + 1) x hd' (by omega) h3)
    simp only [histo_rise.l0]; rw [if_pos (by omega), if_pos (by omega), if_pos (by omega), hx, if_neg (by omega), if_neg (by omega), wrap_of (by omega) (by omega)]; rfl

theorem rise_no (ls : List Int) (hlen : ls.length ≤ 1000) : ∀ (rest : List Int) (i : Nat) (low : Int), ls.drop i = rest → i ≤ ls.length → ¬ Rising low rest →
    Ev (fun k => histo_rise.l0 k low ls (ls.length : Int) (i : Int)) false
  | [], i, low, hd, hi, h => absurd trivial h
  | x :: xs, i, low, hd, hi, hr => by
    obtain ⟨hl, hx, hd'⟩ := drop_cons hd
    by_cases h1 : x ≤ low
    · refine Ev.step (f := fun _ => some false) (fun k => ?_) (Ev.now _)
      simp only [histo_rise.l0]; rw [if_pos (by omega), if_pos (by omega), if_pos (by omega), hx, if_pos h1]
    · by_cases h2 : x > 128
      · refine Ev.step (f := fun _ => some false) (fun k => ?_) (Ev.now _)
        simp only [histo_rise.l0]; rw [if_pos (by omega), if_pos (by omega), if_pos (by omega), hx, if_neg h1, if_pos h2]
      · refine Ev.step (f := fun k => histo_rise.l0 k x ls (ls.length : Int) ((i + 1 : Nat) : Int)) (fun k => ?_) (rise_no ls hlen xs (i + 1) x hd' (by omega) (fun h => hr ⟨by omega, by omega, h⟩))
        simp only [histo_rise.l0]; rw [if_pos (by omega), if_pos (by omega), if_pos (by omega), hx, if_neg h1, if_neg h2, wrap_of (by omega) (by omega)]; rfl

theorem shl_at (c : List Int) (n y : Int) (h0 : 0 ≤ y) (h1 : y ≤ 20) : shl .i64 (atV c n) y = atV c n * 2 ^ y.toNat := by
  unfold shl
  rw [Nat.min_eq_left (by show y.toNat ≤ 64; omega)]
  have h := term_range c n y.toNat
  have hp : (2 : Int) ^ y.toNat ≤ 2 ^ 20 := by
    have := Nat.pow_le_pow_right (n := 2) (by omega) (show y.toNat ≤ 20 by omega)
    exact_mod_cast this
  have h2 : (2 : Int) ^ 20 = 1048576 := by decide
  exact i64_of (by omega) (by omega)

theorem part_yes (c : List Int) (level : Int) (hl : level ≤ 128) : ∀ (d : Nat) (n acc : Int), level + 1 - n = d → 0 ≤ n → 0 ≤ acc → acc + S c level d ≤ 4611686018427387904 → Near c level d →
    Ev (fun k => histo_Part.l0 k c level acc n) (acc + S c level d, true)
  | 0, n, acc, hd, hn, ha, hb, h => by
    refine Ev.step (f := fun _ => some (acc + S c level 0, true)) (fun k => ?_) (Ev.now _)
    simp only [histo_Part.l0]; rw [if_neg (by omega)]; simp [S]
  | d + 1, n, acc, hd, hn, ha, hb, h => by
    have ew : wrap64 (n + 1) = n + 1 := wrap_of (by omega) (by omega)
    have ed : wrap64 (level - n) = d := by rw [wrap_of (by omega) (by omega)]; omega
    have en : level - (d : Int) = n := by omega
    have es : S c level (d + 1) = S c level d + atV c n * 2 ^ d := by show S c level d + atV c (level - d) * 2 ^ d = _; rw [en]
    have hS := S_nonneg c level d
    have hR := atV_range c n
    have hT := term_range c n d
    rw [es] at hb ⊢
    by_cases h0 : atV c n > 0
    · have hd20 : d ≤ 20 := by
        by_cases hc : d ≤ 20
        · exact hc
        · have := h d (by omega) (by omega); rw [en] at this; omega
      have ih := part_yes c level hl d (n + 1) (acc + atV c n * 2 ^ d) (by omega) (by omega) (by omega) (by omega) (h.less (by omega))
      refine Ev.step (f := fun k => histo_Part.j1 k c level acc n (atV c n) false) (fun k => ?_) ?_
      · simp only [histo_Part.l0]; rw [if_pos (by omega), at_f]; simp only [Option.bind_some]; rw [if_pos h0, ed, decide_eq_false (by omega)]
      · refine Ev.step (f := fun k => histo_Part.l0 k c level (acc + atV c n * 2 ^ d) (n + 1)) (fun k => ?_) ?_
        · simp only [histo_Part.j1]; rw [if_neg (by decide), if_pos h0, ed, if_pos (by omega), shl_at c n d (by omega) (by omega), Int.toNat_natCast, wrap_of (by omega) (by omega), ew]
        · rw [show acc + (S c level d + atV c n * 2 ^ d) = acc + atV c n * 2 ^ d + S c level d by omega]; exact ih
    · have hz : atV c n = 0 := by omega
      have ih := part_yes c level hl d (n + 1) acc (by omega) (by omega) (by omega) (by omega) (h.less (by omega))
      refine Ev.step (f := fun k => histo_Part.j1 k c level acc n (atV c n) false) (fun k => ?_) ?_
      · simp only [histo_Part.l0]; rw [if_pos (by omega), at_f]; simp only [Option.bind_some]; rw [if_neg h0]
      · refine Ev.step (f := fun k => histo_Part.l0 k c level acc (n + 1)) (fun k => ?_) ?_
        · simp only [histo_Part.j1]; rw [if_neg (by decide), if_neg h0, ew]
        · rw [hz, Int.zero_mul, Int.add_zero]; exact ih

theorem part_no (c : List Int) (level : Int) (hl : level ≤ 128) : ∀ (d : Nat) (n acc : Int), level + 1 - n = d → 0 ≤ n → ¬ Near c level d →
    Ev (fun k => histo_Part.l0 k c level acc n) (0, false)
  | 0, n, acc, hd, hn, h => absurd (fun i hi => absurd hi (Nat.not_lt_zero i)) h
  | d + 1, n, acc, hd, hn, h => by
    have ew : wrap64 (n + 1) = n + 1 := wrap_of (by omega) (by omega)
    have ed : wrap64 (level - n) = d := by rw [wrap_of (by omega) (by omega)]; omega
    have en : level - (d : Int) = n := by omega
    have hR := atV_range c n
    by_cases h0 : atV c n > 0
    · by_cases hd20 : d ≤ 20
      · have hn' : ¬ Near c level d := fun h' => h fun i hi h20 => by
          by_cases hid : i = d
          · omega
          · exact h' i (by omega) h20
        refine Ev.step (f := fun k => histo_Part.j1 k c level acc n (atV c n) false) (fun k => ?_) ?_
        · simp only [histo_Part.l0]; rw [if_pos (by omega), at_f]; simp only [Option.bind_some]; rw [if_pos h0, ed, decide_eq_false (by omega)]
        · refine Ev.step (f := fun k => histo_Part.l0 k c level (wrap64 (acc + shl .i64 (atV c n) d)) (n + 1)) (fun k => ?_) (part_no c level hl d (n + 1) _ (by omega) (by omega) hn')
          simp only [histo_Part.j1]; rw [if_neg (by decide), if_pos h0, ed, if_pos (by omega), ew]
      · refine Ev.step (f := fun k => histo_Part.j1 k c level acc n (atV c n) true) (fun k => ?_) ?_
        · simp only [histo_Part.l0]; rw [if_pos (by omega), at_f]; simp only [Option.bind_some]; rw [if_pos h0, ed, decide_eq_true (by omega)]
        · refine Ev.step (f := fun _ => some (0, false)) (fun k => ?_) (Ev.now _)
          simp only [histo_Part.j1]; rw [if_pos trivial]
    · have hn' : ¬ Near c level d := fun h' => h fun i hi h20 => by
        by_cases hid : i = d
        · subst hid; rw [en]; omega
        · exact h' i (by omega) h20
      refine Ev.step (f := fun k => histo_Part.j1 k c level acc n (atV c n) false) (fun k => ?_) ?_
      · simp only [histo_Part.l0]; rw [if_pos (by omega), at_f]; simp only [Option.bind_some]; rw [if_neg h0]
      · refine Ev.step (f := fun k => histo_Part.l0 k c level acc (n + 1)) (fun k => ?_) (part_no c level hl d (n + 1) acc (by omega) (by omega) hn')
        simp only [histo_Part.j1]; rw [if_neg (by decide), if_neg h0, ew]

theorem part_f_yes (c : List Int) (low level : Int) (h0 : 0 ≤ low) (h1 : low ≤ level) (hl : level ≤ 128) (h : Near c level (level - low).toNat) :
    Ev (fun k => histo_Part.f k c low level) (S c level (level - low).toNat, true) := by
  have hle := S_le c level _ h
  have := part_yes c level hl (level - low).toNat (low + 1) 0 (by omega) (by omega) (by omega) (by omega) h
  rw [Int.zero_add] at this
  refine Ev.congr (fun k => ?_) this
  unfold histo_Part.f
  rw [wrap_of (by omega) (by omega)]
theorem part_f_no (c : List Int) (low level : Int) (h0 : 0 ≤ low) (h1 : low ≤ level) (hl : level ≤ 128) (h : ¬ Near c level (level - low).toNat) :
    Ev (fun k => histo_Part.f k c low level) (0, false) := by
  refine Ev.congr (fun k => ?_) (part_no c level hl (level - low).toNat (low + 1) 0 (by omega) (by omega) h)
  unfold histo_Part.f
  rw [wrap_of (by omega) (by omega)]

theorem tail_yes (c : List Int) (s : Int) : ∀ (d : Nat) (n : Int), 128 - n ≤ d → 0 ≤ n → TailZero c n → Ev (fun k => histo_Cost.l1 k c s n) (s, true)
  | d, n, hd, h0, h => by
    by_cases hn : n < 128
    · match d with
      | 0 => omega
      | d + 1 =>
        have ew : wrap64 (n + 1) = n + 1 := wrap_of (by omega) (by omega)
        refine Ev.step (f := fun k => histo_Cost.l1 k c s (n + 1)) (fun k => ?_) (tail_yes c s d (n + 1) (by omega) (by omega) (fun m h1 h2 => h m (by omega) h2))
        simp only [histo_Cost.l1]; rw [if_pos hn, ew, at_f]; simp only [Option.bind_some]; rw [if_neg (by rw [h (n + 1) (by omega) (by omega)]; omega)]
    · refine Ev.step (f := fun _ => some (s, true)) (fun k => ?_) (Ev.now _)
      simp only [histo_Cost.l1]; rw [if_neg hn]
theorem tail_no (c : List Int) (s : Int) : ∀ (d : Nat) (n : Int), 128 - n ≤ d → 0 ≤ n → ¬ TailZero c n → Ev (fun k => histo_Cost.l1 k c s n) (0, false)
  | d, n, hd, h0, h => by
    by_cases hn : n < 128
    · match d with
      | 0 => omega
      | d + 1 =>
        have ew : wrap64 (n + 1) = n + 1 := wrap_of (by omega) (by omega)
        by_cases hz : atV c (n + 1) > 0
        · refine Ev.step (f := fun _ => some (0, false)) (fun k => ?_) (Ev.now _)
          simp only [histo_Cost.l1]; rw [if_pos hn, ew, at_f]; simp only [Option.bind_some]; rw [if_pos hz]
        · refine Ev.step (f := fun k => histo_Cost.l1 k c s (n + 1)) (fun k => ?_) (tail_no c s d (n + 1) (by omega) (by omega) (fun h' => h fun m h1 h2 => ?_))
          · simp only [histo_Cost.l1]; rw [if_pos hn, ew, at_f]; simp only [Option.bind_some]; rw [if_neg hz]
          · by_cases hm : m = n + 1
            · subst hm; have := atV_range c (n + 1); omega
            · exact h' m (by omega) h2
    · exact absurd (fun m h1 h2 => by omega) h

theorem cost_yes (c ls : List Int) (hlen : ls.length ≤ 1000) : ∀ (rest : List Int) (i : Nat) (low acc s : Int), ls.drop i = rest → 0 ≤ low → 0 ≤ acc → acc + s ≤ 4611686018427387904 → Rising low rest → Cost c low rest s →
    Ev (fun k => histo_Cost.l0 k c low acc ls (ls.length : Int) (i : Int)) (acc + s, true)
  | [], i, low, acc, s, hd, h0, ha, hb, hr, h => by
    have hl := drop_nil hd
    obtain ⟨ht, rfl⟩ := h
    refine Ev.step (f := fun k => histo_Cost.l1 k c acc low) (fun k => ?_) (by rw [Int.add_zero]; exact tail_yes c acc (128 - low).toNat low (by omega) h0 ht)
    simp only [histo_Cost.l0]; rw [if_neg (by omega)]
  | x :: xs, i, low, acc, s, hd, h0, ha, hb, hr, h => by
    obtain ⟨hl, hx, hd'⟩ := drop_cons hd
    obtain ⟨hn, s', hs, rfl⟩ := h
    obtain ⟨h1, h2, h3⟩ := hr
    have hS := S_nonneg c x (x - low).toNat
    have hC := hs.range
    have ih := cost_yes c ls hlen xs (i + 1) x (acc + S c x (x - low).toNat) s' hd' (by omega) (by omega) (by omega) h3 hs
    rw [show acc + (S c x (x - low).toNat + s') = acc + S c x (x - low).toNat + s' by omega]
    refine Ev.step (f := fun k => (histo_Part.f k c low x).bind fun bt => (if bt.2 = true then (histo_Cost.l0 k c x (wrap64 (acc + bt.1)) ls (ls.length : Int) ((i + 1 : Nat) : Int)) else (some (0, false)))) (fun k => ?_)
      (Ev.bind (part_f_yes c low x h0 (by omega) h2 hn) ?_)
    · simp only [histo_Cost.l0]; rw [if_pos (by omega), if_pos (by omega), if_pos (by omega), hx, wrap_of (n := (i : Int) + 1) (by omega) (by omega)]; rfl
    · refine Ev.congr (fun k => ?_) ih
      rw [if_pos rfl, wrap_of (by omega) (by omega)]
theorem cost_no (c ls : List Int) (hlen : ls.length ≤ 1000) : ∀ (rest : List Int) (i : Nat) (low acc : Int), ls.drop i = rest → 0 ≤ low → Rising low rest → (¬ ∃ s, Cost c low rest s) →
    Ev (fun k => histo_Cost.l0 k c low acc ls (ls.length : Int) (i : Int)) (0, false)
  | [], i, low, acc, hd, h0, hr, h => by
    have hl := drop_nil hd
    refine Ev.step (f := fun k => histo_Cost.l1 k c acc low) (fun k => ?_) (tail_no c acc (128 - low).toNat low (by omega) h0 (fun ht => h ⟨0, ht, rfl⟩))
    simp only [histo_Cost.l0]; rw [if_neg (by omega)]
  | x :: xs, i, low, acc, hd, h0, hr, h => by
    obtain ⟨hl, hx, hd'⟩ := drop_cons hd
    obtain ⟨h1, h2, h3⟩ := hr
    have unf : ∀ k, histo_Cost.l0 (k + 1) c low acc ls (ls.length : Int) (i : Int) = (histo_Part.f k c low x).bind fun bt => (if bt.2 = true then (histo_Cost.l0 k c x (wrap64 (acc + bt.1)) ls (ls.length : Int) ((i + 1 : Nat) : Int)) else (some (0, false))) := by
      intro k
      simp only [histo_Cost.l0]; rw [if_pos (by omega), if_pos (by omega), if_pos (by omega), hx, wrap_of (n := (i : Int) + 1) (by omega) (by omega)]; rfl
    by_cases hn : Near c x (x - low).toNat
    · refine Ev.step unf (Ev.bind (part_f_yes c low x h0 (by omega) h2 hn) ?_)
      refine Ev.congr (fun k => if_pos rfl) (cost_no c ls hlen xs (i + 1) x _ hd' (by omega) h3 (fun ⟨s', hs⟩ => h ⟨_, hn, s', hs, rfl⟩))
    · exact Ev.step unf (Ev.bind (part_f_no c low x h0 (by omega) h2 hn) (Ev.congr (fun k => if_neg (by decide)) (Ev.now _)))

/-- histo.Cost: the sum, or that there is none. -/
theorem cost_f_yes (c ls : List Int) (low s : Int) (hlen : ls.length ≤ 1000) (h0 : 0 ≤ low) (hr : Rising low ls) (h : Cost c low ls s) : Ev (fun k => histo_Cost.f k c ls low) (s, true) := by
  have hC := h.range
  have h1 := cost_yes c ls hlen ls 0 low 0 s rfl h0 (by omega) (by omega) hr h
  rw [Int.zero_add] at h1
  have h2 : Ev (fun k => histo_rise.f k ls low) true := rise_yes ls hlen ls 0 low rfl (by omega) hr
  refine Ev.congr (fun k => ?_) (Ev.bind (f := fun k t => histo_Cost.j0 k c ls low (!t)) h2 (Ev.step (f := fun k => histo_Cost.l0 k c low 0 ls (ls.length : Int) 0) (fun k => ?_) h1))
  · unfold histo_Cost.f; rw [if_neg (by omega)]
  · simp only [histo_Cost.j0]; rw [if_neg (by decide)]
theorem cost_f_no (c ls : List Int) (low : Int) (hlen : ls.length ≤ 1000) (h : ¬ (0 ≤ low ∧ Rising low ls ∧ ∃ s, Cost c low ls s)) : Ev (fun k => histo_Cost.f k c ls low) (0, false) := by
  have j0 : ∀ k, histo_Cost.j0 (k + 1) c ls low true = some (0, false) := fun k => by simp only [histo_Cost.j0]; rw [if_pos trivial]
  by_cases h0 : 0 ≤ low
  · have un : ∀ k, histo_Cost.f k c ls low = (histo_rise.f k ls low).bind fun t => histo_Cost.j0 k c ls low (!t) := fun k => by unfold histo_Cost.f; rw [if_neg (by omega)]
    by_cases hr : Rising low ls
    · have h2 : Ev (fun k => histo_rise.f k ls low) true := rise_yes ls hlen ls 0 low rfl (by omega) hr
      refine Ev.congr un (Ev.bind (f := fun k t => histo_Cost.j0 k c ls low (!t)) h2 (Ev.step (f := fun k => histo_Cost.l0 k c low 0 ls (ls.length : Int) 0) (fun k => ?_) (cost_no c ls hlen ls 0 low 0 rfl h0 hr (fun hs => h ⟨h0, hr, hs⟩))))
      simp only [histo_Cost.j0]; rw [if_neg (by decide)]
    · have h2 : Ev (fun k => histo_rise.f k ls low) false := rise_no ls hlen ls 0 low rfl (by omega) hr
      exact Ev.congr un (Ev.bind (f := fun k t => histo_Cost.j0 k c ls low (!t)) h2 (Ev.step (g := fun k => histo_Cost.j0 k c ls low (!false)) (f := fun _ => some (0, false)) j0 (Ev.now _)))
  · refine Ev.congr (fun k => ?_) (Ev.step (g := fun k => histo_Cost.j0 k c ls low true) (f := fun _ => some (0, false)) j0 (Ev.now _))
    unfold histo_Cost.f; rw [if_pos (by omega)]

end Go.Proofs.Ytlklehliapbgeaa.HCHistoMore
