/- What levels cost, over numbers and lists alone: the sums of a level, the whole cost, and that one level more never costs more. -/
import Derived.Test.YtlklehliapbgeaaWMore
namespace Go.Proofs.Ytlklehliapbgeaa.Histo
open Go.RowKit Go.Proofs.YtlklehliapbgeaaW.PrintWords Go.Proofs.YtlklehliapbgeaaW.PrintLast Go.Proofs.YtlklehliapbgeaaW.PrintMore

theorem drop_cons {l : List Int} {i : Nat} {x : Int} {xs : List Int} (h : l.drop i = x :: xs) : i < l.length ∧ rd l (i : Int) = x ∧ l.drop (i + 1) = xs := by
  have hl : i < l.length := by
    by_cases hc : i < l.length
    · exact hc
    · rw [List.drop_eq_nil_of_le (by omega)] at h; cases h
  rw [List.drop_eq_getElem_cons hl] at h
  injection h with h1 h2
  refine ⟨hl, ?_, h2⟩
  unfold rd
  rw [Int.toNat_natCast, List.getD_eq_getElem?_getD, List.getElem?_eq_getElem hl]
  exact h1
theorem drop_nil {l : List Int} {i : Nat} (h : l.drop i = []) : l.length ≤ i := List.drop_eq_nil_iff.mp h
theorem wrap_of {n : Int} (h0 : -9223372036854775808 ≤ n) (h1 : n < 9223372036854775808) : wrap64 n = n := by unfold wrap64; omega
theorem i64_of {n : Int} (h0 : -9223372036854775808 ≤ n) (h1 : n < 9223372036854775808) : IntKind.i64.wrap n = n := by
  unfold IntKind.wrap
  simp only [IntKind.signed, IntKind.bits, Bool.true_and]
  split
  · rename_i h
    have := of_decide_eq_true h
    omega
  · rename_i h
    have := of_decide_eq_false (Bool.eq_false_iff.mpr h)
    omega

def atV (c : List Int) (n : Int) : Int := if n < 0 then 0 else if n ≥ mn (c.length : Int) 129 then 0 else mx 0 (mn (rd c n) 1048576)
theorem atV_range (c : List Int) (n : Int) : 0 ≤ atV c n ∧ atV c n ≤ 1048576 := by
  unfold atV mx mn
  repeat' split
  all_goals omega

/-- What d lengths cost, from a level downward. -/
def S (c : List Int) (level : Int) : Nat → Int
  | 0 => 0
  | d + 1 => S c level d + atV c (level - d) * 2 ^ d
/-- None of d lengths that has routes is farther than 20 away. -/
def Near (c : List Int) (level : Int) (d : Nat) : Prop := ∀ i : Nat, i < d → 20 < i → atV c (level - i) = 0
theorem Near.less {c : List Int} {level : Int} {d e : Nat} (h : Near c level d) (he : e ≤ d) : Near c level e := fun i hi h20 => h i (by omega) h20

theorem two_pos (d : Nat) : (0 : Int) < 2 ^ d := Int.pow_pos (by decide)
theorem two_succ (d : Nat) : (2 : Int) ^ (d + 1) = 2 * 2 ^ d := by rw [Int.pow_succ]; omega
theorem term_range (c : List Int) (n : Int) (d : Nat) : 0 ≤ atV c n * 2 ^ d ∧ atV c n * 2 ^ d ≤ 1048576 * 2 ^ d := by
  have h := atV_range c n
  have hp := two_pos d
  exact ⟨Int.mul_nonneg h.1 (by omega), Int.mul_le_mul_of_nonneg_right h.2 (by omega)⟩
theorem S_nonneg (c : List Int) (level : Int) (d : Nat) : 0 ≤ S c level d := by
  induction d with
  | zero => exact Int.le_refl _
  | succ d ih => have := (term_range c (level - d) d).1; show 0 ≤ S c level d + _; omega
theorem S_le21 (c : List Int) (level : Int) (d : Nat) (hd : d ≤ 21) : S c level d ≤ 1048576 * (2 ^ d - 1) := by
  induction d with
  | zero => show (0 : Int) ≤ _; decide
  | succ d ih =>
    have h1 := ih (by omega)
    have h2 := (term_range c (level - d) d).2
    show S c level d + _ ≤ _
    rw [two_succ]
    omega
theorem S_le (c : List Int) (level : Int) (d : Nat) (h : Near c level d) : S c level d ≤ 2199023255552 := by
  induction d with
  | zero => show (0 : Int) ≤ _; decide
  | succ d ih =>
    by_cases hd : d + 1 ≤ 21
    · have h1 := S_le21 c level (d + 1) hd
      have h2 : (2 : Int) ^ (d + 1) ≤ 2 ^ 21 := by
        have := Nat.pow_le_pow_right (n := 2) (by omega) hd
        exact_mod_cast this
      have h3 : (2 : Int) ^ 21 = 2097152 := by decide
      omega
    · have h0 := h d (by omega) (by omega)
      show S c level d + atV c (level - d) * 2 ^ d ≤ _
      rw [h0, Int.zero_mul, Int.add_zero]
      exact ih (h.less (by omega))
/-- The lengths of two levels, one behind the other. -/
theorem S_add (c : List Int) (level : Int) (d e : Nat) : S c level (d + e) = S c level d + S c (level - d) e * 2 ^ d := by
  induction e with
  | zero => show S c level d = S c level d + 0 * 2 ^ d; rw [Int.zero_mul, Int.add_zero]
  | succ e ih =>
    show S c level (d + e) + atV c (level - (d + e : Nat)) * 2 ^ (d + e) = S c level d + (S c (level - d) e + atV c (level - d - e) * 2 ^ e) * 2 ^ d
    rw [ih, Int.add_mul, Int.pow_add, show level - ((d + e : Nat) : Int) = level - d - e by omega, Int.mul_comm (2 ^ d) (2 ^ e), Int.mul_assoc]
    omega

def TailZero (c : List Int) (low : Int) : Prop := ∀ n, low < n → n ≤ 128 → atV c n = 0
def Rising : Int → List Int → Prop
  | _, [] => True
  | low, l :: ls => low < l ∧ l ≤ 128 ∧ Rising l ls
def Cost (c : List Int) : Int → List Int → Int → Prop
  | low, [], s => TailZero c low ∧ s = 0
  | low, l :: ls, s => Near c l (l - low).toNat ∧ ∃ s', Cost c l ls s' ∧ s = S c l (l - low).toNat + s'
theorem Cost.range {c : List Int} : ∀ {low : Int} {ls : List Int} {s : Int}, Cost c low ls s → 0 ≤ s ∧ s ≤ 2199023255552 * ls.length
  | _, [], _, h => by obtain ⟨_, rfl⟩ := h; simp
  | low, l :: ls, _, h => by
    obtain ⟨hn, s', hs, rfl⟩ := h
    have h1 := Cost.range hs
    have h2 := S_nonneg c l (l - low).toNat
    have h3 := S_le c l (l - low).toNat hn
    simp only [List.length_cons]
    omega
theorem Cost.one {c : List Int} : ∀ {low : Int} {ls : List Int} {s t : Int}, Cost c low ls s → Cost c low ls t → s = t
  | _, [], _, _, h, g => by obtain ⟨_, rfl⟩ := h; obtain ⟨_, rfl⟩ := g; rfl
  | _, _ :: _, _, _, h, g => by
    obtain ⟨_, s', hs, rfl⟩ := h
    obtain ⟨_, t', ht, rfl⟩ := g
    rw [Cost.one hs ht]

theorem S_zero {c : List Int} {level : Int} {d : Nat} (h : ∀ i : Nat, i < d → atV c (level - i) = 0) : S c level d = 0 := by
  induction d with
  | zero => rfl
  | succ d ih =>
    show S c level d + atV c (level - d) * 2 ^ d = 0
    rw [ih (fun i hi => h i (by omega)), h d (by omega), Int.zero_mul]
    rfl

/-- One level more, in its place: the sum gets no greater. -/
theorem cost_more {c : List Int} {more : Int} (hm : more ≤ 128) : ∀ (pre rest : List Int) (low a : Int), Rising low (pre ++ rest) → low < more → (∀ x ∈ pre, x < more) → (∀ x xs, rest = x :: xs → more < x) →
    Cost c low (pre ++ rest) a → ∃ b, Cost c low (pre ++ more :: rest) b ∧ b ≤ a ∧ Rising low (pre ++ more :: rest)
  | [], [], low, a, _, hlow, _, _, h => by
    obtain ⟨ht, rfl⟩ := h
    have hz : ∀ i : Nat, i < (more - low).toNat → atV c (more - i) = 0 := fun i hi => ht _ (by omega) (by omega)
    refine ⟨S c more (more - low).toNat + 0, ⟨fun i hi _ => hz i hi, 0, ⟨fun n h1 h2 => ht n (by omega) h2, rfl⟩, rfl⟩, ?_, hlow, hm, trivial⟩
    rw [S_zero hz]
    decide
  | [], x :: xs, low, a, hr, hlow, _, hx, h => by
    obtain ⟨hn, s', hs, rfl⟩ := h
    have hlt := hx x xs rfl
    obtain ⟨_, hx128, hr'⟩ := hr
    have e : (x - low).toNat = (x - more).toNat + (more - low).toNat := by omega
    have ex : ((x - more).toNat : Int) = x - more := by omega
    rw [e] at hn ⊢
    refine ⟨S c more (more - low).toNat + (S c x (x - more).toNat + s'), ⟨?_, _, ⟨hn.less (by omega), s', hs, rfl⟩, rfl⟩, ?_, hlow, hm, hlt, hx128, hr'⟩
    · intro i hi h20
      have := hn ((x - more).toNat + i) (by omega) (by omega)
      rwa [show x - (((x - more).toNat + i : Nat) : Int) = more - i by omega] at this
    · rw [S_add, show x - ((x - more).toNat : Int) = more by omega]
      have h1 := S_nonneg c more (more - low).toNat
      have h2 : S c more (more - low).toNat * 1 ≤ S c more (more - low).toNat * 2 ^ (x - more).toNat :=
        Int.mul_le_mul_of_nonneg_left (by have := two_pos (x - more).toNat; omega) h1
      omega
  | p :: pre, rest, low, a, hr, hlow, hp, hx, h => by
    obtain ⟨hn, s', hs, rfl⟩ := h
    obtain ⟨h1, h2, h3⟩ := hr
    obtain ⟨b, hb, hle, hrb⟩ := cost_more hm pre rest p s' h3 (hp p (by simp)) (fun x hx' => hp x (by simp [hx'])) hx hs
    exact ⟨_, ⟨hn, b, hb, rfl⟩, by omega, h1, h2, hrb⟩

end Go.Proofs.Ytlklehliapbgeaa.Histo
