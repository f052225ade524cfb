/- What the reference's cost answers, for the functions as they are printed for the law LevelsOne: the same sum, or that there is none. -/
import Derived.Test.YtlklehliapbgeaaPLevelsOnex1
import Derived.Test.YtlklehliapbgeaaHisto
namespace Go.Proofs.Ytlklehliapbgeaa.RCLevelsOne
open Go.RowKit Go.Proofs.Ytlklehliapbgeaa.PLevelsOne Go.Proofs.YtlklehliapbgeaaW.PrintWords Go.Proofs.YtlklehliapbgeaaW.PrintLast Go.Proofs.YtlklehliapbgeaaW.PrintMore Go.Proofs.Ytlklehliapbgeaa.Histo

theorem cap_f (n lo hi : Int) (h : lo ≤ hi) : flocculusref1_Cap.f n lo hi = some (mx lo (mn n hi)) := by
  unfold flocculusref1_Cap.f mx mn
  by_cases h1 : n < lo
  · rw [if_pos h1, if_neg (show ¬ hi < n by omega), if_neg (by omega)]
  · rw [if_neg h1]
    by_cases h2 : n > hi
    · rw [if_pos h2, if_pos (show hi < n from h2)]
      by_cases h3 : lo < hi
      · rw [if_pos h3]
      · rw [if_neg h3]; congr 1; omega
    · rw [if_neg h2, if_neg (show ¬ hi < n by omega)]
      by_cases h3 : lo < n
      · rw [if_pos h3]
      · rw [if_neg h3]; congr 1; omega

theorem at_f (c : List Int) (n : Int) : flocculusref11_At.f c n = some (atV c n) := by
  unfold flocculusref11_At.f atV
  have hm : mn (c.length : Int) 129 = if (129 : Int) < c.length then 129 else (c.length : Int) := rfl
  by_cases h1 : n < 0
  · rw [if_pos h1, if_pos h1]
  rw [if_neg h1, if_neg h1, hm]
  by_cases h2 : n ≥ (c.length : Int)
  · rw [if_pos h2, if_pos (by split <;> omega)]
  rw [if_neg h2]
  by_cases h3 : n > 128
  · rw [if_pos h3, if_pos (by split <;> omega)]
  rw [if_neg h3, if_pos (by omega), if_pos (by omega), cap_f _ _ _ (by decide)]
  simp only [Option.bind_some]
  rw [if_neg (by split <;> omega)]

theorem shl_at (c : List Int) (n y : Int) (h0 : 0 ≤ y) (h1 : y ≤ 20) : shl .i64 (atV c n) y = atV c n * 2 ^ y.toNat := by
  unfold shl
  rw [Nat.min_eq_left (by show y.toNat ≤ 64; omega)]
  have h := term_range c n y.toNat
  have hp : (2 : Int) ^ y.toNat ≤ 2 ^ 20 := by
    have := Nat.pow_le_pow_right (n := 2) (by omega) (show y.toNat ≤ 20 by omega)
    exact_mod_cast this
  have h2 : (2 : Int) ^ 20 = 1048576 := by decide
  exact i64_of (by omega) (by omega)

theorem u64_of {n : Int} (h0 : 0 ≤ n) (h1 : n < 18446744073709551616) : IntKind.u64.wrap n = n := by
  show n % 18446744073709551616 = n
  exact Int.emod_eq_of_lt h0 h1

/-- The look for the first level that is not below a length: all of pre is below it. -/
theorem walk_l2 (c ls : List Int) (hlen : ls.length ≤ 1000) (acc n t : Int) (r : Int × Bool) : ∀ (pre : List Int) (j : Nat) (rest : List Int), ls.drop j = pre ++ rest → (∀ x ∈ pre, x < n) → (∀ x xs, rest = x :: xs → n ≤ x) → j + pre.length + rest.length = ls.length →
    Ev (fun k => flocculusref11_Cost.j3 k c ls acc n t ((j + pre.length : Nat) : Int)) r → Ev (fun k => flocculusref11_Cost.l2 k c ls acc n t (j : Int)) r
  | [], j, rest, hd, hp, hx, hl, h => by
    refine Ev.step (fun k => ?_) h
    match rest, hd, hx with
    | [], hd, hx =>
      have := drop_nil hd
      simp only [flocculusref11_Cost.l2]; rw [if_neg (by omega)]; simp
    | x :: xs, hd, hx =>
      obtain ⟨hl', hx', _⟩ := drop_cons hd
      have := hx x xs rfl
      simp only [flocculusref11_Cost.l2]; rw [if_pos (by omega), if_pos (by omega), hx', if_neg (by omega)]; simp
  | p :: pre, j, rest, hd, hp, hx, hl, h => by
    obtain ⟨hl', hx', hd'⟩ := drop_cons hd
    have hpn := hp p (by simp)
    refine Ev.step (f := fun k => flocculusref11_Cost.l2 k c ls acc n t ((j + 1 : Nat) : Int)) (fun k => ?_) (walk_l2 c ls hlen acc n t r pre (j + 1) rest hd' (fun y hy => hp y (by simp [hy])) hx (by simp only [List.length_cons] at hl; omega) (by rw [show j + 1 + pre.length = j + (p :: pre).length by simp only [List.length_cons]; omega]; exact h))
    simp only [flocculusref11_Cost.l2]; rw [if_pos (by omega), if_pos (by omega), hx', if_pos hpn, wrap_of (by omega) (by omega)]; rfl

theorem seg_yes (c ls : List Int) (hlen : ls.length ≤ 1000) (pre : List Int) (x : Int) (xs : List Int) (hls : ls = pre ++ x :: xs) (hx : x ≤ 128) (r : Int × Bool) :
    ∀ (d : Nat) (n acc : Int), x + 1 - n = d → 0 ≤ n → (∀ y ∈ pre, y < n) → 0 ≤ acc → acc + S c x d ≤ 4611686018427387904 → Near c x d →
    Ev (fun k => flocculusref11_Cost.l1 k c ls (acc + S c x d) (x + 1)) r → Ev (fun k => flocculusref11_Cost.l1 k c ls acc n) r
  | 0, n, acc, hd, h0, hp, ha, hb, hn, h => by
    obtain rfl : n = x + 1 := by omega
    simpa [S] using h
  | d + 1, n, acc, hd, h0, hp, ha, hb, hn, h => by
    have ew : wrap64 (n + 1) = n + 1 := wrap_of (by omega) (by omega)
    have ed : wrap64 (x - n) = d := by rw [wrap_of (by omega) (by omega)]; omega
    have en : x - (d : Int) = n := by omega
    have es : S c x (d + 1) = S c x d + atV c n * 2 ^ d := by show S c x d + atV c (x - d) * 2 ^ d = _; rw [en]
    have hS := S_nonneg c x d
    have hR := atV_range c n
    have hT := term_range c n d
    have hll : ls.length = pre.length + (xs.length + 1) := by rw [hls, List.length_append, List.length_cons]
    rw [es] at hb h
    have hdrop : ls.drop pre.length = x :: xs := by rw [hls]; exact List.drop_left
    obtain ⟨hpl, hrd, _⟩ := drop_cons hdrop
    refine Ev.step (f := fun k => flocculusref11_Cost.l2 k c ls acc n (atV c n) ((0 : Nat) : Int)) (fun k => ?_) ?_
    · simp only [flocculusref11_Cost.l1]; rw [if_pos (by omega), at_f]; rfl
    refine walk_l2 c ls hlen acc n (atV c n) r pre 0 (x :: xs) hls hp (fun y ys he => by injection he with h1 h2; omega) (by simp only [List.length_cons]; omega) ?_
    rw [Nat.zero_add]
    by_cases hz : atV c n = 0
    · refine Ev.step (f := fun k => flocculusref11_Cost.l1 k c ls acc (n + 1)) (fun k => ?_) (seg_yes c ls hlen pre x xs hls hx r d (n + 1) acc (by omega) (by omega) (fun y hy => by have := hp y hy; omega) ha (by omega) (hn.less (by omega)) ?_)
      · simp only [flocculusref11_Cost.j3]; rw [if_pos hz, ew]
      · rw [hz, Int.zero_mul, Int.add_zero] at h; exact h
    · have hd20 : d ≤ 20 := by
        by_cases hc : d ≤ 20
        · exact hc
        · have := hn d (by omega) (by omega); rw [en] at this; omega
      refine Ev.step (f := fun k => flocculusref11_Cost.l1 k c ls (acc + atV c n * 2 ^ d) (n + 1)) (fun k => ?_) (seg_yes c ls hlen pre x xs hls hx r d (n + 1) (acc + atV c n * 2 ^ d) (by omega) (by omega) (fun y hy => by have := hp y hy; omega) (by omega) (by omega) (hn.less (by omega)) ?_)
      · simp only [flocculusref11_Cost.j3]; rw [if_neg hz, if_neg (by omega), if_pos (by omega), if_pos (by omega), hrd, ed, if_neg (by omega), u64_of (by omega) (by omega), if_pos (by omega), shl_at c n d (by omega) (by omega), Int.toNat_natCast, wrap_of (by omega) (by omega), ew]
      · rw [show acc + (S c x d + atV c n * 2 ^ d) = acc + atV c n * 2 ^ d + S c x d by omega] at h; exact h

theorem seg_no (c ls : List Int) (hlen : ls.length ≤ 1000) (pre : List Int) (x : Int) (xs : List Int) (hls : ls = pre ++ x :: xs) (hx : x ≤ 128) :
    ∀ (d : Nat) (n acc : Int), x + 1 - n = d → 0 ≤ n → (∀ y ∈ pre, y < n) → ¬ Near c x d → Ev (fun k => flocculusref11_Cost.l1 k c ls acc n) (0, false)
  | 0, n, acc, hd, h0, hp, h => absurd (fun i hi => absurd hi (Nat.not_lt_zero i)) h
  | d + 1, n, acc, hd, h0, hp, h => by
    have ew : wrap64 (n + 1) = n + 1 := wrap_of (by omega) (by omega)
    have ed : wrap64 (x - n) = d := by rw [wrap_of (by omega) (by omega)]; omega
    have en : x - (d : Int) = n := by omega
    have hll : ls.length = pre.length + (xs.length + 1) := by rw [hls, List.length_append, List.length_cons]
    have hdrop : ls.drop pre.length = x :: xs := by rw [hls]; exact List.drop_left
    obtain ⟨hpl, hrd, _⟩ := drop_cons hdrop
    refine Ev.step (f := fun k => flocculusref11_Cost.l2 k c ls acc n (atV c n) ((0 : Nat) : Int)) (fun k => ?_) ?_
    · simp only [flocculusref11_Cost.l1]; rw [if_pos (by omega), at_f]; rfl
    refine walk_l2 c ls hlen acc n (atV c n) _ pre 0 (x :: xs) hls hp (fun y ys he => by injection he with h1 h2; omega) (by simp only [List.length_cons]; omega) ?_
    rw [Nat.zero_add]
    by_cases hz : atV c n = 0
    · have hn' : ¬ Near c x d := fun h' => h fun i hi h20 => by
        by_cases hid : i = d
        · subst hid; rw [en]; exact hz
        · exact h' i (by omega) h20
      refine Ev.step (f := fun k => flocculusref11_Cost.l1 k c ls acc (n + 1)) (fun k => ?_) (seg_no c ls hlen pre x xs hls hx d (n + 1) acc (by omega) (by omega) (fun y hy => by have := hp y hy; omega) hn')
      simp only [flocculusref11_Cost.j3]; rw [if_pos hz, ew]
    · by_cases hd20 : d ≤ 20
      · have hn' : ¬ Near c x d := fun h' => h fun i hi h20 => by
          by_cases hid : i = d
          · omega
          · exact h' i (by omega) h20
        refine Ev.step (f := fun k => flocculusref11_Cost.l1 k c ls (wrap64 (acc + shl .i64 (atV c n) d)) (n + 1)) (fun k => ?_) (seg_no c ls hlen pre x xs hls hx d (n + 1) _ (by omega) (by omega) (fun y hy => by have := hp y hy; omega) hn')
        simp only [flocculusref11_Cost.j3]; rw [if_neg hz, if_neg (by omega), if_pos (by omega), if_pos (by omega), hrd, ed, if_neg (by omega), u64_of (by omega) (by omega), if_pos (by omega), ew]
      · refine Ev.step (f := fun _ => some (0, false)) (fun k => ?_) (Ev.now _)
        simp only [flocculusref11_Cost.j3]; rw [if_neg hz, if_neg (by omega), if_pos (by omega), if_pos (by omega), hrd, ed, if_pos (by omega)]

theorem end_yes (c ls : List Int) (hlen : ls.length ≤ 1000) (acc : Int) : ∀ (d : Nat) (n : Int), 129 - n ≤ d → 0 ≤ n → (∀ y ∈ ls, y < n) → (∀ m, n ≤ m → m ≤ 128 → atV c m = 0) → Ev (fun k => flocculusref11_Cost.l1 k c ls acc n) (acc, true)
  | d, n, hd, h0, hp, h => by
    by_cases hn : n ≤ 128
    · match d with
      | 0 => omega
      | d + 1 =>
        refine Ev.step (f := fun k => flocculusref11_Cost.l2 k c ls acc n (atV c n) ((0 : Nat) : Int)) (fun k => ?_) ?_
        · simp only [flocculusref11_Cost.l1]; rw [if_pos (by omega), at_f]; rfl
        refine walk_l2 c ls hlen acc n (atV c n) _ ls 0 [] (by simp) hp (fun y ys he => by cases he) (by simp) ?_
        refine Ev.step (f := fun k => flocculusref11_Cost.l1 k c ls acc (n + 1)) (fun k => ?_) (end_yes c ls hlen acc d (n + 1) (by omega) (by omega) (fun y hy => by have := hp y hy; omega) (fun m h1 h2 => h m (by omega) h2))
        simp only [flocculusref11_Cost.j3]; rw [if_pos (h n (by omega) hn), wrap_of (by omega) (by omega)]
    · refine Ev.step (f := fun _ => some (acc, true)) (fun k => ?_) (Ev.now _)
      simp only [flocculusref11_Cost.l1]; rw [if_neg hn]
theorem end_no (c ls : List Int) (hlen : ls.length ≤ 1000) (acc : Int) : ∀ (d : Nat) (n : Int), 129 - n ≤ d → 0 ≤ n → (∀ y ∈ ls, y < n) → (¬ ∀ m, n ≤ m → m ≤ 128 → atV c m = 0) → Ev (fun k => flocculusref11_Cost.l1 k c ls acc n) (0, false)
  | d, n, hd, h0, hp, h => by
    by_cases hn : n ≤ 128
    · match d with
      | 0 => omega
      | d + 1 =>
        refine Ev.step (f := fun k => flocculusref11_Cost.l2 k c ls acc n (atV c n) ((0 : Nat) : Int)) (fun k => ?_) ?_
        · simp only [flocculusref11_Cost.l1]; rw [if_pos (by omega), at_f]; rfl
        refine walk_l2 c ls hlen acc n (atV c n) _ ls 0 [] (by simp) hp (fun y ys he => by cases he) (by simp) ?_
        by_cases hz : atV c n = 0
        · refine Ev.step (f := fun k => flocculusref11_Cost.l1 k c ls acc (n + 1)) (fun k => ?_) (end_no c ls hlen acc d (n + 1) (by omega) (by omega) (fun y hy => by have := hp y hy; omega) (fun h' => h fun m h1 h2 => ?_))
          · simp only [flocculusref11_Cost.j3]; rw [if_pos hz, wrap_of (by omega) (by omega)]
          · by_cases hm : m = n
            · subst hm; exact hz
            · exact h' m (by omega) h2
        · refine Ev.step (f := fun _ => some (0, false)) (fun k => ?_) (Ev.now _)
          simp only [flocculusref11_Cost.j3]; rw [if_neg hz, if_pos (by simp)]
    · exact absurd (fun m h1 h2 => by omega) h

theorem sum_yes (c ls : List Int) (hlen : ls.length ≤ 1000) : ∀ (rest pre : List Int) (low acc s : Int), ls = pre ++ rest → 0 ≤ low → (∀ y ∈ pre, y ≤ low) → 0 ≤ acc → acc + s ≤ 4611686018427387904 → Rising low rest → Cost c low rest s →
    Ev (fun k => flocculusref11_Cost.l1 k c ls acc (low + 1)) (acc + s, true)
  | [], pre, low, acc, s, hls, h0, hp, ha, hb, hr, h => by
    obtain ⟨ht, rfl⟩ := h
    rw [List.append_nil] at hls
    subst hls
    rw [Int.add_zero]
    exact end_yes c ls hlen acc (129 - (low + 1)).toNat (low + 1) (by omega) (by omega) (fun y hy => by have := hp y hy; omega) (fun m h1 h2 => ht m (by omega) h2)
  | x :: xs, pre, low, acc, s, hls, h0, hp, ha, hb, hr, h => by
    obtain ⟨hn, s', hs, rfl⟩ := h
    obtain ⟨h1, h2, h3⟩ := hr
    have hS := S_nonneg c x (x - low).toNat
    have hC := hs.range
    have ih := sum_yes c ls hlen xs (pre ++ [x]) x (acc + S c x (x - low).toNat) s' (by rw [hls]; simp) (by omega) (fun y hy => by
      rcases List.mem_append.mp hy with h | h
      · have := hp y h; omega
      · rw [List.mem_singleton] at h; omega) (by omega) (by omega) h3 hs
    rw [show acc + (S c x (x - low).toNat + s') = acc + S c x (x - low).toNat + s' by omega]
    exact seg_yes c ls hlen pre x xs hls h2 _ (x - low).toNat (low + 1) acc (by omega) (by omega) (fun y hy => by have := hp y hy; omega) ha (by omega) hn ih
theorem sum_no (c ls : List Int) (hlen : ls.length ≤ 1000) : ∀ (rest pre : List Int) (low acc : Int), ls = pre ++ rest → 0 ≤ low → (∀ y ∈ pre, y ≤ low) → 0 ≤ acc → acc + 2199023255552 * rest.length ≤ 4611686018427387904 → Rising low rest → (¬ ∃ s, Cost c low rest s) →
    Ev (fun k => flocculusref11_Cost.l1 k c ls acc (low + 1)) (0, false)
  | [], pre, low, acc, hls, h0, hp, ha, hb, hr, h => by
    rw [List.append_nil] at hls
    subst hls
    exact end_no c ls hlen acc (129 - (low + 1)).toNat (low + 1) (by omega) (by omega) (fun y hy => by have := hp y hy; omega) (fun ht => h ⟨0, fun m h1 h2 => ht m (by omega) h2, rfl⟩)
  | x :: xs, pre, low, acc, hls, h0, hp, ha, hb, hr, h => by
    obtain ⟨h1, h2, h3⟩ := hr
    by_cases hn : Near c x (x - low).toNat
    · have hS := S_nonneg c x (x - low).toNat
      have hS2 := S_le c x (x - low).toNat hn
      simp only [List.length_cons] at hb
      have ih := sum_no c ls hlen xs (pre ++ [x]) x (acc + S c x (x - low).toNat) (by rw [hls]; simp) (by omega) (fun y hy => by
        rcases List.mem_append.mp hy with h | h
        · have := hp y h; omega
        · rw [List.mem_singleton] at h; omega) (by omega) (by omega) h3 (fun ⟨s', hs⟩ => h ⟨_, hn, s', hs, rfl⟩)
      exact seg_yes c ls hlen pre x xs hls h2 _ (x - low).toNat (low + 1) acc (by omega) (by omega) (fun y hy => by have := hp y hy; omega) ha (by omega) hn ih
    · exact seg_no c ls hlen pre x xs hls h2 (x - low).toNat (low + 1) acc (by omega) (by omega) (fun y hy => by have := hp y hy; omega) hn

/-- The look whether the levels rise. -/
theorem rise_yes (c ls : List Int) (hlen : ls.length ≤ 1000) (low : Int) (r : Int × Bool) : ∀ (rest : List Int) (i : Nat) (p : Int), ls.drop i = rest → i ≤ ls.length → low ≤ p → (0 < i → p = rd ls ((i : Int) - 1)) → Rising p rest →
    Ev (fun k => flocculusref11_Cost.l1 k c ls 0 (wrap64 (mx 0 (mn low 128) + 1))) r → Ev (fun k => flocculusref11_Cost.l0 k c ls low (i : Int)) r
  | [], i, p, hd, hi, hp, hpr, hr, h => by
    have hl := drop_nil hd
    refine Ev.step (fun k => ?_) h
    simp only [flocculusref11_Cost.l0]; rw [if_neg (by omega), cap_f _ _ _ (by decide)]; rfl
  | x :: xs, i, p, hd, hi, hp, hpr, hr, h => by
    obtain ⟨hl, hx, hd'⟩ := drop_cons hd
    obtain ⟨h1, h2, h3⟩ := hr
    refine Ev.step (f := fun k => flocculusref11_Cost.l0 k c ls low ((i + 1 : Nat) : Int)) (fun k => ?_) (rise_yes c ls hlen low r xs (i + 1) x hd' (by omega) (by omega) (fun _ => by rw [show ((i + 1 : Nat) : Int) - 1 = i by omega]; exact hx.symm) h3 h)
    simp only [flocculusref11_Cost.l0]; rw [if_pos (by omega), if_pos (by omega), hx, if_neg (by omega), if_neg (by omega), wrap_of (n := (i : Int) + 1) (by omega) (by omega)]
    by_cases h0 : (i : Int) > 0
    · rw [if_pos h0, wrap_of (by omega) (by omega), if_pos (by omega), if_pos (by omega), ← hpr (by omega), if_neg (by omega)]; rfl
    · rw [if_neg h0]; rfl
theorem rise_no (c ls : List Int) (hlen : ls.length ≤ 1000) (low : Int) : ∀ (rest : List Int) (i : Nat) (p : Int), ls.drop i = rest → i ≤ ls.length → low ≤ p → (i = 0 → p = low) → (0 < i → p = rd ls ((i : Int) - 1)) → ¬ Rising p rest →
    Ev (fun k => flocculusref11_Cost.l0 k c ls low (i : Int)) (0, false)
  | [], i, p, hd, hi, hp, hpl, hpr, hr => absurd trivial hr
  | x :: xs, i, p, hd, hi, hp, hpl, hpr, hr => by
    obtain ⟨hl, hx, hd'⟩ := drop_cons hd
    by_cases h1 : x ≤ low
    · refine Ev.step (f := fun _ => some (0, false)) (fun k => ?_) (Ev.now _)
      simp only [flocculusref11_Cost.l0]; rw [if_pos (by omega), if_pos (by omega), hx, if_pos h1]
    by_cases h2 : x > 128
    · refine Ev.step (f := fun _ => some (0, false)) (fun k => ?_) (Ev.now _)
      simp only [flocculusref11_Cost.l0]; rw [if_pos (by omega), if_pos (by omega), hx, if_neg h1, if_pos h2]
    by_cases h0 : (i : Int) > 0
    · by_cases h3 : x ≤ p
      · refine Ev.step (f := fun _ => some (0, false)) (fun k => ?_) (Ev.now _)
        simp only [flocculusref11_Cost.l0]; rw [if_pos (by omega), if_pos (by omega), hx, if_neg h1, if_neg h2, if_pos h0, wrap_of (by omega) (by omega), if_pos (by omega), if_pos (by omega), ← hpr (by omega), if_pos h3]
      · refine Ev.step (f := fun k => flocculusref11_Cost.l0 k c ls low ((i + 1 : Nat) : Int)) (fun k => ?_) (rise_no c ls hlen low xs (i + 1) x hd' (by omega) (by omega) (by omega) (fun _ => by rw [show ((i + 1 : Nat) : Int) - 1 = i by omega]; exact hx.symm) (fun h => hr ⟨by omega, by omega, h⟩))
        simp only [flocculusref11_Cost.l0]; rw [if_pos (by omega), if_pos (by omega), hx, if_neg h1, if_neg h2, if_pos h0, wrap_of (n := (i : Int) - 1) (by omega) (by omega), if_pos (by omega), if_pos (by omega), ← hpr (by omega), if_neg h3, wrap_of (by omega) (by omega)]; rfl
    · have := hpl (by omega)
      refine Ev.step (f := fun k => flocculusref11_Cost.l0 k c ls low ((i + 1 : Nat) : Int)) (fun k => ?_) (rise_no c ls hlen low xs (i + 1) x hd' (by omega) (by omega) (by omega) (fun _ => by rw [show ((i + 1 : Nat) : Int) - 1 = i by omega]; exact hx.symm) (fun h => hr ⟨by omega, by omega, h⟩))
      simp only [flocculusref11_Cost.l0]; rw [if_pos (by omega), if_pos (by omega), hx, if_neg h1, if_neg h2, if_neg h0, wrap_of (by omega) (by omega)]; rfl

/-- Where a cost exists at all and low is great, no level is there. -/
theorem low_le {low x : Int} {xs : List Int} (h : Rising low (x :: xs)) : low ≤ 128 := by obtain ⟨h1, h2, _⟩ := h; omega

theorem cost_f_yes (c ls : List Int) (low s : Int) (hlen : ls.length ≤ 1000) (h0 : 0 ≤ low) (hr : Rising low ls) (h : Cost c low ls s) : Ev (fun k => flocculusref11_Cost.f k c ls low) (s, true) := by
  have hC := h.range
  have un : ∀ k, flocculusref11_Cost.f k c ls low = flocculusref11_Cost.l0 k c ls low ((0 : Nat) : Int) := fun k => by unfold flocculusref11_Cost.f; rw [if_neg (by omega)]; rfl
  refine Ev.congr un (rise_yes c ls hlen low _ ls 0 low rfl (by omega) (by omega) (by omega) hr ?_)
  by_cases hl : low ≤ 128
  · have e : wrap64 (mx 0 (mn low 128) + 1) = low + 1 := by unfold mx mn; rw [if_neg (show ¬ (128 : Int) < low by omega)]; split <;> rw [wrap_of (by omega) (by omega)]; omega
    have h1 := sum_yes c ls hlen ls [] low 0 s rfl h0 (by simp) (by omega) (by omega) hr h
    rw [Int.zero_add] at h1
    rw [e]; exact h1
  · match ls, hr, h with
    | [], hr, h =>
      obtain ⟨ht, rfl⟩ := h
      have e : wrap64 (mx 0 (mn low 128) + 1) = 129 := by unfold mx mn; rw [if_pos (show (128 : Int) < low by omega), if_pos (by decide), wrap_of (by omega) (by omega)]; rfl
      rw [e]
      refine Ev.step (f := fun _ => some (0, true)) (fun k => ?_) (Ev.now _)
      simp only [flocculusref11_Cost.l1]; rw [if_neg (by decide)]
    | x :: xs, hr, h => exact absurd (low_le hr) hl
theorem cost_f_no (c ls : List Int) (low : Int) (hlen : ls.length ≤ 1000) (h : ¬ (0 ≤ low ∧ Rising low ls ∧ ∃ s, Cost c low ls s)) : Ev (fun k => flocculusref11_Cost.f k c ls low) (0, false) := by
  by_cases h0 : 0 ≤ low
  · have un : ∀ k, flocculusref11_Cost.f k c ls low = flocculusref11_Cost.l0 k c ls low ((0 : Nat) : Int) := fun k => by unfold flocculusref11_Cost.f; rw [if_neg (by omega)]; rfl
    by_cases hr : Rising low ls
    · refine Ev.congr un (rise_yes c ls hlen low _ ls 0 low rfl (by omega) (by omega) (by omega) hr ?_)
      by_cases hl : low ≤ 128
      · have e : wrap64 (mx 0 (mn low 128) + 1) = low + 1 := by unfold mx mn; rw [if_neg (show ¬ (128 : Int) < low by omega)]; split <;> rw [wrap_of (by omega) (by omega)]; omega
        rw [e]
        exact sum_no c ls hlen ls [] low 0 rfl h0 (by simp) (by omega) (by omega) hr (fun hs => h ⟨h0, hr, hs⟩)
      · match ls, hr, h with
        | [], hr, h => exact absurd ⟨h0, trivial, 0, fun n h1 h2 => by omega, rfl⟩ h
        | x :: xs, hr, h => exact absurd (low_le hr) hl
    · exact Ev.congr un (rise_no c ls hlen low ls 0 low rfl (by omega) (by omega) (fun _ => rfl) (by omega) hr)
  · refine Ev.congr (fun k => ?_) (Ev.now _)
    unfold flocculusref11_Cost.f; rw [if_pos (by omega)]

end Go.Proofs.Ytlklehliapbgeaa.RCLevelsOne
