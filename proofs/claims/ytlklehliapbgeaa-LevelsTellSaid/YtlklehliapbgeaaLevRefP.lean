/- The reference's choice of levels, over lists alone: what it computes, and that it is the same choice. -/
import Derived.Test.YtlklehliapbgeaaLevLex
import Derived.Test.YtlklehliapbgeaaPWayx0
import Derived.Test.YtlklehliapbgeaaPRefTx2
namespace Go.Proofs.Ytlklehliapbgeaa.Lev
open Go.RowKit Go.Proofs.Ytlklehliapbgeaa.PLev Go.Proofs.Ytlklehliapbgeaa.PWay Go.Proofs.YtlklehliapbgeaaW.PrintWords Go.Proofs.YtlklehliapbgeaaW.PrintLast Go.Proofs.YtlklehliapbgeaaW.PrintMore Go.Proofs.Ytlklehliapbgeaa.Histo

/-! What its functions answer. -/
theorem ref_cap (n lo hi : Int) (h : lo ≤ hi) : PRefT.flocculusref1_Cap.f n lo hi = some (mx lo (mn n hi)) := by
  unfold PRefT.flocculusref1_Cap.f mx mn
  by_cases h1 : n < lo
  · rw [if_pos h1, if_neg (show ¬ hi < n by omega), if_neg (by omega)]
  · rw [if_neg h1]
    by_cases h2 : n > hi
    · rw [if_pos h2, if_pos (show hi < n from h2)]
      by_cases h3 : lo < hi
      · rw [if_pos h3]
      · rw [if_neg h3]; congr 1; omega
    · rw [if_neg h2, if_neg (show ¬ hi < n by omega)]
      by_cases h3 : lo < n
      · rw [if_pos h3]
      · rw [if_neg h3]; congr 1; omega
theorem ref_at (c : List Int) (n : Int) : PRefT.flocculusref11_At.f c n = some (atV c n) := by
  unfold PRefT.flocculusref11_At.f atV
  have hm : mn (c.length : Int) 129 = if (129 : Int) < c.length then 129 else (c.length : Int) := rfl
  by_cases h1 : n < 0
  · rw [if_pos h1, if_pos h1]
  rw [if_neg h1, if_neg h1, hm]
  by_cases h2 : n ≥ (c.length : Int)
  · rw [if_pos h2, if_pos (by split <;> omega)]
  rw [if_neg h2]
  by_cases h3 : n > 128
  · rw [if_pos h3, if_pos (by split <;> omega)]
  rw [if_neg h3, if_pos (by omega), if_pos (by omega), ref_cap _ _ _ (by decide)]
  simp only [Option.bind_some]
  rw [if_neg (by split <;> omega)]
theorem ref_shl (c : List Int) (n y : Int) (h0 : 0 ≤ y) (h1 : y ≤ 20) : shl .i64 (atV c n) y = atV c n * 2 ^ y.toNat := by
  unfold shl
  rw [Nat.min_eq_left (by show y.toNat ≤ 64; omega)]
  have h := term_range c n y.toNat
  have hp : (2 : Int) ^ y.toNat ≤ 2 ^ 20 := by
    have := Nat.pow_le_pow_right (n := 2) (by omega) (show y.toNat ≤ 20 by omega)
    exact_mod_cast this
  have h2 : (2 : Int) ^ 20 = 1048576 := by decide
  exact i64_of (by omega) (by omega)
theorem ref_u64 {n : Int} (h0 : 0 ≤ n) (h1 : n < 18446744073709551616) : IntKind.u64.wrap n = n := by
  show n % 18446744073709551616 = n
  exact Int.emod_eq_of_lt h0 h1
theorem part_l (c : List Int) (t : Int) (ht : t ≤ 128) (r : Int) : ∀ (d : Nat) (n acc : Int), t + 1 - n = d → 0 ≤ n → d ≤ 20 → 0 ≤ acc → acc + S c t d ≤ 4611686018427387904 → r = acc + S c t d → Ev (fun k => PRefT.flocculusref11_part.l0 k c t acc n) r
  | 0, n, acc, hd, h0, h20, ha, hb, hr => by
    refine ⟨1, fun k hk => ?_⟩
    obtain ⟨k, rfl⟩ : ∃ k', k = k' + 1 := ⟨k - 1, by omega⟩
    show PRefT.flocculusref11_part.l0 (k + 1) c t acc n = _
    simp only [PRefT.flocculusref11_part.l0]
    rw [if_neg (by omega), hr]
    simp [S]
  | d + 1, n, acc, hd, h0, h20, ha, hb, hr => by
    have ew : wrap64 (n + 1) = n + 1 := wrap_of (by omega) (by omega)
    have ed : wrap64 (t - n) = d := by rw [wrap_of (by omega) (by omega)]; omega
    have en : t - (d : Int) = n := by omega
    have es : S c t (d + 1) = S c t d + atV c n * 2 ^ d := by show S c t d + atV c (t - d) * 2 ^ d = _; rw [en]
    have ht1 := term_range c n d
    have hS := S_nonneg c t d
    rw [es] at hb hr
    have ea : wrap64 (acc + atV c n * 2 ^ d) = acc + atV c n * 2 ^ d := wrap_of (by omega) (by omega)
    have eu : IntKind.u64.wrap ((d : Nat) : Int) = d := ref_u64 (by omega) (by omega)
    refine Ev.step (f := fun k => PRefT.flocculusref11_part.l0 k c t (acc + atV c n * 2 ^ d) (n + 1)) (fun k => ?_) (part_l c t ht r d (n + 1) (acc + atV c n * 2 ^ d) (by omega) (by omega) (by omega) (by omega) (by omega) (by omega))
    simp only [PRefT.flocculusref11_part.l0]
    rw [if_pos (by omega), ref_at]
    simp only [Option.bind_some]
    rw [ed, eu, if_pos (by omega), ref_shl _ _ _ (by omega) (by omega), Int.toNat_natCast, ea, ew]
theorem part_ev (c : List Int) (a m : Nat) (h : a + 1 ≤ m ∧ m ≤ a + 20 ∧ m ≤ 128) : Ev (fun k => PRefT.flocculusref11_part.f k c a m) (S c m (m - a)) := by
  have hn := near_20 c (m : Int) (m - a) (by omega)
  have hb := S_le c (m : Int) (m - a) hn
  have := part_l c (m : Int) (by omega) (S c m (m - a)) (m - a) ((a : Int) + 1) 0 (by omega) (by omega) (by omega) (by omega) (by omega) (by omega)
  obtain ⟨K, hK⟩ := this
  refine ⟨K, fun k hk => ?_⟩
  have h := hK k hk
  show PRefT.flocculusref11_part.f k c a m = _
  unfold PRefT.flocculusref11_part.f
  rw [wrap_of (by omega) (by omega)]
  exact h

def betterB (a b : S88) : Bool := if a.f0 = true ∧ b.f0 = true then (if a.f1 = b.f1 then (if a.f2.length = b.f2.length then lexB a.f2 b.f2 else decide (a.f2.length < b.f2.length)) else decide (a.f1 < b.f1)) else a.f0
theorem better_l (x0 : Bool) (x1 : Int) (l m : List Int) (y0 : Bool) (y1 : Int) (hl : l.length = m.length) (hb : l.length ≤ 1000) : ∀ (xs ys : List Int) (j : Nat), l.drop j = xs → m.drop j = ys → Ev (fun k => PRefT.flocculusref11_better.l0 k j x0 x1 l y0 y1 m) (lexB xs ys)
  | [], ys, j, h1, h2 => by
    refine ⟨1, fun k hk => ?_⟩
    obtain ⟨k, rfl⟩ : ∃ k', k = k' + 1 := ⟨k - 1, by omega⟩
    show PRefT.flocculusref11_better.l0 (k + 1) j x0 x1 l y0 y1 m = _
    have := drop_nil h1
    simp only [PRefT.flocculusref11_better.l0]
    rw [if_neg (by omega)]
    simp [lexB]
  | x :: xs, [], j, h1, h2 => by
    have := drop_nil h2
    have := (drop_cons h1).1
    omega
  | x :: xs, y :: ys, j, h1, h2 => by
    obtain ⟨a1, a2, a3⟩ := drop_cons h1
    obtain ⟨b1, b2, b3⟩ := drop_cons h2
    have ih := better_l x0 x1 l m y0 y1 hl hb xs ys (j + 1) a3 b3
    by_cases e : x = y
    · refine Ev.step (f := fun k => PRefT.flocculusref11_better.l0 k ((j + 1 : Nat) : Int) x0 x1 l y0 y1 m) (fun k => ?_) (by simp only [lexB]; rw [if_pos e]; exact ih)
      simp only [PRefT.flocculusref11_better.l0]
      rw [if_pos (by omega), if_pos (by omega), if_pos (by omega), a2, b2, if_pos e, wrap_of (by omega) (by omega)]; rfl
    · refine ⟨1, fun k hk => ?_⟩
      obtain ⟨k, rfl⟩ : ∃ k', k = k' + 1 := ⟨k - 1, by omega⟩
      show PRefT.flocculusref11_better.l0 (k + 1) j x0 x1 l y0 y1 m = _
      simp only [PRefT.flocculusref11_better.l0, lexB]
      rw [if_pos (by omega), if_pos (by omega), if_pos (by omega), a2, b2, if_neg e, if_neg e]
theorem better_ev (a b : S88) (hb : a.f2.length ≤ 1000) : ∃ k, PRefT.flocculusref11_better.f k a.f0 a.f1 a.f2 b.f0 b.f1 b.f2 = some (betterB a b) := by
  obtain ⟨a0, a1, a2⟩ := a
  obtain ⟨b0, b1, b2⟩ := b
  dsimp only at hb ⊢
  unfold PRefT.flocculusref11_better.f betterB
  dsimp only
  cases a0 with
  | false => exact ⟨1, by simp [PRefT.flocculusref11_better.j0]⟩
  | true =>
    cases b0 with
    | false => exact ⟨1, by simp [PRefT.flocculusref11_better.j0]⟩
    | true =>
      simp only [eq_self, and_self, if_true, Bool.not_true]
      by_cases e1 : a1 = b1
      · by_cases e2 : a2.length = b2.length
        · obtain ⟨K, hK⟩ := better_l true a1 a2 b2 true b1 e2 hb a2 b2 0 rfl rfl
          have h : PRefT.flocculusref11_better.l0 K ((0 : Nat) : Int) true a1 a2 true b1 b2 = some (lexB a2 b2) := hK K (Nat.le_refl _)
          refine ⟨K + 1, ?_⟩
          simp only [PRefT.flocculusref11_better.j0]
          rw [if_neg (by simp), if_pos e1, if_pos (by omega), if_pos e1, if_pos e2]
          exact h
        · refine ⟨1, ?_⟩
          simp only [PRefT.flocculusref11_better.j0]
          rw [if_neg (by simp), if_pos e1, if_neg (by omega), if_pos e1, if_neg e2]
          congr 1
          exact decide_eq_decide.mpr (by omega)
      · refine ⟨1, ?_⟩
        simp only [PRefT.flocculusref11_better.j0]
        rw [if_neg (by simp), if_neg e1, if_neg e1]
end Go.Proofs.Ytlklehliapbgeaa.Lev
