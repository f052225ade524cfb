/- For every two 64-bit numbers: the law MixerApart answers true: two numbers are mixed to one only where they are one. No condition. -/
import Derived.Test.YtlklehliapbgeaaPMixerApartx1
namespace Go.Proofs.Ytlklehliapbgeaa.Pure
open Go.RowKit Go.Proofs.Ytlklehliapbgeaa.PMixerApart Go.Proofs.YtlklehliapbgeaaW.PrintWords Go.Proofs.YtlklehliapbgeaaW.PrintLast

theorem wrapU (n : Int) : IntKind.u64.wrap n = n % 18446744073709551616 := rfl

theorem xorU (x y : Nat) (hx : x < 18446744073709551616) (hy : y < 18446744073709551616) : Go.bits .xor .u64 (x : Int) (y : Int) = ((x ^^^ y : Nat) : Int) := by
  have h : x ^^^ y < 18446744073709551616 := Nat.xor_lt_two_pow (n := 64) hx hy
  have ex : (BitVec.ofInt 64 (x : Int)).toNat = x := by rw [BitVec.ofInt_natCast, BitVec.toNat_ofNat]; exact Nat.mod_eq_of_lt hx
  have ey : (BitVec.ofInt 64 (y : Int)).toNat = y := by rw [BitVec.ofInt_natCast, BitVec.toNat_ofNat]; exact Nat.mod_eq_of_lt hy
  show IntKind.u64.wrap (((BitVec.ofInt 64 (x : Int) ^^^ BitVec.ofInt 64 (y : Int)).toNat : Nat) : Int) = _
  rw [BitVec.toNat_xor, ex, ey, wrapU]
  omega

/-- A number and what it is without its last bits: the number comes back. -/
theorem unshift (x s : Nat) (hx : x < 2 ^ 64) (hs : 64 ≤ 3 * s) : (x ^^^ (x >>> s)) ^^^ ((x ^^^ (x >>> s)) >>> s) ^^^ ((x ^^^ (x >>> s)) >>> (s + s)) = x := by
  have h0 : x >>> (s + s + s) = 0 := by
    rw [Nat.shiftRight_eq_div_pow]
    exact Nat.div_eq_of_lt (Nat.lt_of_lt_of_le hx (Nat.pow_le_pow_right (by omega) (by omega)))
  rw [Nat.shiftRight_xor_distrib, Nat.shiftRight_xor_distrib, ← Nat.shiftRight_add, ← Nat.shiftRight_add, show s + (s + s) = s + s + s by omega, h0]
  apply Nat.eq_of_testBit_eq
  intro i
  simp only [Nat.testBit_xor, Nat.zero_testBit]
  cases x.testBit i <;> cases (x >>> s).testBit i <;> cases (x >>> (s + s)).testBit i <;> rfl

theorem fold_inj (x y s : Nat) (hx : x < 2 ^ 64) (hy : y < 2 ^ 64) (hs : 64 ≤ 3 * s) (h : x ^^^ (x >>> s) = y ^^^ (y >>> s)) : x = y := by
  have a := unshift x s hx hs
  rw [h, unshift y s hy hs] at a
  exact a.symm

/-- One fold of a number: what the program writes. -/
theorem fold_nat (x : Nat) (hx : x < 18446744073709551616) (s : Nat) (d : Int) (hd : d = ((2 ^ s : Nat) : Int)) :
    Go.bits .xor .u64 (x : Int) ((x : Int) / d) = ((x ^^^ (x >>> s) : Nat) : Int) := by
  have e : (x : Int) / d = ((x >>> s : Nat) : Int) := by rw [hd, Nat.shiftRight_eq_div_pow]; rfl
  have hlt : x >>> s < 18446744073709551616 := Nat.lt_of_le_of_lt (by rw [Nat.shiftRight_eq_div_pow]; exact Nat.div_le_self _ _) hx
  rw [e, xorU x _ hx hlt]

theorem fold_lt (x s : Nat) (hx : x < 18446744073709551616) : x ^^^ (x >>> s) < 18446744073709551616 :=
  Nat.xor_lt_two_pow (n := 64) hx (Nat.lt_of_le_of_lt (by rw [Nat.shiftRight_eq_div_pow]; exact Nat.div_le_self _ _) hx)

theorem times_inj (x y : Nat) (c d : Nat) (hx : x < 18446744073709551616) (hy : y < 18446744073709551616) (hc : c * d % 18446744073709551616 = 1)
    (h : x * c % 18446744073709551616 = y * c % 18446744073709551616) : x = y := by
  have key : ∀ z : Nat, z < 18446744073709551616 → (z * c % 18446744073709551616) * d % 18446744073709551616 = z := by
    intro z hz
    rw [Nat.mod_mul_mod, Nat.mul_assoc, Nat.mul_mod, hc, Nat.mul_one, Nat.mod_mod]
    exact Nat.mod_eq_of_lt hz
  rw [← key x hx, ← key y hy, h]

def m1 (x : Nat) : Nat := (x + 11400714819323198485) % 18446744073709551616
def m2 (x : Nat) : Nat := (x ^^^ (x >>> 30)) * 13787848793156543929 % 18446744073709551616
def m3 (x : Nat) : Nat := (x ^^^ (x >>> 27)) * 10723151780598845931 % 18446744073709551616
def m4 (x : Nat) : Nat := x ^^^ (x >>> 31)

theorem m1_lt (x : Nat) : m1 x < 18446744073709551616 := Nat.mod_lt _ (by omega)
theorem m2_lt (x : Nat) : m2 x < 18446744073709551616 := Nat.mod_lt _ (by omega)
theorem m3_lt (x : Nat) : m3 x < 18446744073709551616 := Nat.mod_lt _ (by omega)

theorem wrap_nat (n : Nat) : IntKind.u64.wrap (n : Int) = ((n % 18446744073709551616 : Nat) : Int) := by rw [wrapU]; rfl

theorem mix_f (x : Nat) : mixer_Mix.f (x : Int) = some ((m4 (m3 (m2 (m1 x))) : Nat) : Int) := by
  unfold mixer_Mix.f
  have e1 : IntKind.u64.wrap ((x : Int) + 11400714819323198485) = ((m1 x : Nat) : Int) := wrap_nat (x + 11400714819323198485)
  rw [e1, fold_nat (m1 x) (m1_lt x) 30 1073741824 (by rfl)]
  have e2 : IntKind.u64.wrap (((m1 x ^^^ (m1 x >>> 30) : Nat) : Int) * 13787848793156543929) = ((m2 (m1 x) : Nat) : Int) := wrap_nat ((m1 x ^^^ (m1 x >>> 30)) * 13787848793156543929)
  rw [e2, fold_nat _ (m2_lt _) 27 134217728 (by rfl)]
  have e3 : IntKind.u64.wrap (((m2 (m1 x) ^^^ (m2 (m1 x) >>> 27) : Nat) : Int) * 10723151780598845931) = ((m3 (m2 (m1 x)) : Nat) : Int) := wrap_nat ((m2 (m1 x) ^^^ (m2 (m1 x) >>> 27)) * 10723151780598845931)
  rw [e3, fold_nat _ (m3_lt _) 31 2147483648 (by rfl)]
  rfl

theorem mix_inj (x y : Nat) (hx : x < 18446744073709551616) (hy : y < 18446744073709551616) (h : m4 (m3 (m2 (m1 x))) = m4 (m3 (m2 (m1 y)))) : x = y := by
  have h3 := fold_inj _ _ 31 (m3_lt (m2 (m1 x))) (m3_lt (m2 (m1 y))) (by omega) h
  have h3' := times_inj _ _ 10723151780598845931 3573116690164977347 (fold_lt _ 27 (m2_lt (m1 x))) (fold_lt _ 27 (m2_lt (m1 y))) (by decide +kernel) h3
  have h2 := fold_inj _ _ 27 (m2_lt (m1 x)) (m2_lt (m1 y)) (by omega) h3'
  have h2' := times_inj _ _ 13787848793156543929 10871156337175269513 (fold_lt _ 30 (m1_lt x)) (fold_lt _ 30 (m1_lt y)) (by decide +kernel) h2
  have h1 := fold_inj _ _ 30 (m1_lt x) (m1_lt y) (by omega) h2'
  unfold m1 at h1
  omega

theorem alive_f : flocculuslaw5_alive.f = some true := by decide +kernel

theorem MixerApart : flocculuslaw5_MixerApart.Pure := by
  intro a0 a1 w0 w1
  have b0 : 0 ≤ a0 ∧ a0 ≤ 18446744073709551615 := by simp [Lit.wf] at w0; simpa [IntKind.min, IntKind.max, IntKind.bits, IntKind.signed] using w0
  have b1 : 0 ≤ a1 ∧ a1 ≤ 18446744073709551615 := by simp [Lit.wf] at w1; simpa [IntKind.min, IntKind.max, IntKind.bits, IntKind.signed] using w1
  obtain ⟨x, rfl⟩ := Int.eq_ofNat_of_zero_le b0.1
  obtain ⟨y, rfl⟩ := Int.eq_ofNat_of_zero_le b1.1
  unfold flocculuslaw5_MixerApart.f
  rw [alive_f]
  simp only [Option.bind_some, if_true, mix_f]
  congr 1
  rw [beq_iff_eq, Bool.eq_iff_iff, beq_iff_eq, beq_iff_eq]
  constructor
  · intro h
    rw [mix_inj x y (by omega) (by omega) (by omega)]
  · intro h
    have : x = y := by omega
    rw [this]

end Go.Proofs.Ytlklehliapbgeaa.Pure
