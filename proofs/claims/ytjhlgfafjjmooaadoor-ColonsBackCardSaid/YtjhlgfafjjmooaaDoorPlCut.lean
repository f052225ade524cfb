/- The first bits of an address: the code's mask and the document's bit by bit are one. Plain. -/
import Derived.Test.YtjhlgfafjjmooaaDoorPCidrTellsx6
import Derived.Test.YtjhlgfafjjmooaaDoorPCidrTellsx7
import Derived.Test.YtjhlgfafjjmooaaDoorPCidrTellsx5
import Derived.Laws.BitsAllLaws
namespace Go.Proofs.YtjhlgfafjjmooaaDoor.Dot
open Go.RowKit Go.Proofs.YtjhlgfafjjmooaaDoor.PCidrTells Go.Proofs.YtjhlgfafjjmooaaDoorW.PrintWords Go.Proofs.YtjhlgfafjjmooaaDoorW.PrintLast Go.Proofs.YtjhlgfafjjmooaaDoorW.PrintMore

/-- The first m of the 64 bits of x. -/
def topN (x m : Nat) : Nat := x / 2 ^ (64 - m) * 2 ^ (64 - m)
theorem topN_zero {x : Nat} (h : x < 18446744073709551616) : topN x 0 = 0 := by
  unfold topN
  rw [Nat.div_eq_of_lt (by simpa using h), Nat.zero_mul]
theorem topN_full (x : Nat) : topN x 64 = x := by unfold topN; simp
theorem topN_le (x m : Nat) : topN x m ≤ x := Nat.div_mul_le_self _ _
theorem topN_step (x m : Nat) (hm : m < 64) : topN x (m + 1) = topN x m + x / 2 ^ (63 - m) % 2 * 2 ^ (63 - m) := by
  unfold topN
  have e1 : 64 - m = (63 - m) + 1 := by omega
  have e2 : 64 - (m + 1) = 63 - m := by omega
  rw [e1, e2, Nat.pow_succ, ← Nat.div_div_eq_div_mul]
  generalize 2 ^ (63 - m) = d
  generalize x / d = y
  have h := Nat.div_add_mod y 2
  have : y * d = (y / 2 * (d * 2) + y % 2 * d) := by
    calc y * d = (2 * (y / 2) + y % 2) * d := by rw [h]
      _ = y / 2 * (d * 2) + y % 2 * d := by rw [Nat.add_mul]; congr 1; rw [Nat.mul_comm 2, Nat.mul_assoc, Nat.mul_comm 2 d]
  exact this
theorem topN_or (x m : Nat) (hm : m < 64) : topN x m ||| 2 ^ (63 - m) = topN x m + 2 ^ (63 - m) :=
  nat_join (64 - m) _ _ (by unfold topN; exact Nat.mul_mod_left _ _) (Nat.pow_lt_pow_right (by decide) (by omega))
theorem topN_and (x m : Nat) (hx : x < 18446744073709551616) (hm : m ≤ 64) : x &&& (18446744073709551615 - 18446744073709551615 / 2 ^ m) = topN x m := by
  have hp : 2 ^ m * 2 ^ (64 - m) = 18446744073709551616 := by rw [← Nat.pow_add, Nat.add_sub_cancel' hm]
  have hpos : 0 < 2 ^ (64 - m) := Nat.two_pow_pos _
  have hpm : 0 < 2 ^ m := Nat.two_pow_pos _
  have hd : 18446744073709551615 / 2 ^ m = 2 ^ (64 - m) - 1 := by
    rw [Nat.div_eq_iff hpm]
    constructor
    · rw [Nat.sub_mul, Nat.mul_comm, hp]; omega
    · have : (2 ^ (64 - m) - 1 + 1) * 2 ^ m = 18446744073709551616 := by
        rw [Nat.sub_add_cancel hpos, Nat.mul_comm, hp]
      rw [Nat.add_mul] at this
      omega
  have he : 18446744073709551615 - (2 ^ (64 - m) - 1) = (2 ^ m - 1) * 2 ^ (64 - m) := by
    rw [Nat.sub_mul, hp]; omega
  rw [hd, he]
  unfold topN
  apply Nat.eq_of_testBit_eq
  intro j
  rw [Nat.testBit_and, Nat.testBit_mul_two_pow, Nat.testBit_mul_two_pow, Nat.testBit_two_pow_sub_one, Nat.testBit_div_two_pow]
  by_cases h : 64 - m ≤ j
  · rw [Nat.sub_add_cancel h]
    by_cases h2 : j - (64 - m) < m
    · simp [h, h2]
    · have : x.testBit j = false := Nat.testBit_lt_two_pow (Nat.lt_of_lt_of_le (show x < 2 ^ 64 by simpa using hx) (Nat.pow_le_pow_right (by decide) (by omega)))
      simp [this]
  · simp [h]
theorem mask_le (m : Nat) : 18446744073709551615 / 2 ^ m ≤ 18446744073709551615 := Nat.div_le_self _ _
theorem int_mask (x m : Nat) (hx : x < 18446744073709551616) (hm : m ≤ 64) : bits .andNot .u64 (x : Int) (18446744073709551615 / 2 ^ m) = (topN x m : Int) := by
  have e : (18446744073709551615 : Int) / 2 ^ m = ((18446744073709551615 / 2 ^ m : Nat) : Int) := by
    simp [Int.natCast_ediv, Int.natCast_pow]
  rw [e, u64_andNot_nat _ _ hx (Nat.lt_of_le_of_lt (mask_le m) (by decide)), topN_and x m hx hm]
/-- The code's Cut. -/
theorem cut_code (hi lo n : Nat) (hh : hi < 18446744073709551616) (hl : lo < 18446744073709551616) (hn : n ≤ 128) :
    addr_Cut.f hi lo n = some (((topN hi (min n 64) : Nat) : Int), ((topN lo (n - 64) : Nat) : Int)) := by
  unfold addr_Cut.f
  have e1 : (mn (mx 0 (mn (n : Int) 128)) 64).toNat = min n 64 := by unfold mn mx; repeat (first | omega | split)
  have e2 : (mx 0 ((mx 0 (mn (n : Int) 128)) - 64)).toNat = n - 64 := by unfold mn mx; repeat (first | omega | split)
  rw [e1, e2, int_mask hi _ hh (by omega), int_mask lo _ hl (by omega)]
theorem wrap64_of {n : Int} (h0 : -9223372036854775808 ≤ n) (h1 : n < 9223372036854775808) : wrap64 n = n := by unfold wrap64; omega
theorem u64_small {n : Int} (h0 : 0 ≤ n) (h1 : n < 18446744073709551616) : IntKind.u64.wrap n = n := by rw [IntKind.wrap_u64]; omega
theorem bit_of (x d : Nat) (hx : x < 18446744073709551616) (hd : d ≤ 63) : wrap64 (bits .and .u64 (shr .u64 (x : Int) (IntKind.u64.wrap (wrap64 (d : Int)))) 1) = (x / 2 ^ d % 2 : Nat) := by
  have e : IntKind.u64.wrap (wrap64 (d : Int)) = d := by rw [wrap64_of (by omega) (by omega), u64_small (by omega) (by omega)]
  have e2 : shr .u64 (x : Int) (d : Int) = ((x / 2 ^ d : Nat) : Int) := by
    unfold shr
    have : min (d : Int).toNat IntKind.u64.bits = d := by simp [IntKind.bits]; omega
    rw [this]
    simp [Int.natCast_ediv, Int.natCast_pow]
  have h2 : x / 2 ^ d < 18446744073709551616 := Nat.lt_of_le_of_lt (Nat.div_le_self _ _) hx
  rw [e, e2, show (1 : Int) = ((1 : Nat) : Int) from rfl, u64_and_nat _ _ h2 (by decide), nat_mask1, wrap64_of (by omega) (by omega)]
theorem shl_one (d : Nat) (hd : d ≤ 63) : shl .u64 1 (IntKind.u64.wrap (wrap64 (d : Int))) = ((2 ^ d : Nat) : Int) := by
  have e : IntKind.u64.wrap (wrap64 (d : Int)) = d := by rw [wrap64_of (by omega) (by omega), u64_small (by omega) (by omega)]
  rw [e]
  unfold shl
  have : min (d : Int).toNat IntKind.u64.bits = d := by simp [IntKind.bits]; omega
  rw [this]
  have h : 2 ^ d ≤ 9223372036854775808 := Nat.le_trans (Nat.pow_le_pow_right (show 0 < 2 by decide) hd) (by decide)
  have hc : (1 : Int) * 2 ^ d = ((2 ^ d : Nat) : Int) := by rw [Int.one_mul, Int.natCast_pow]; rfl
  rw [hc]
  have := Nat.two_pow_pos d
  generalize 2 ^ d = z at h this ⊢
  exact u64_small (by omega) (by omega)
/-- The document's Bit and With. -/
theorem ref_bit (k hi lo i : Nat) (hh : hi < 18446744073709551616) (hl : lo < 18446744073709551616) (hi2 : i < 128) (hk : 1 ≤ k) :
    flocculusref1_Bit.f k hi lo i = some ((if i < 64 then hi / 2 ^ (63 - i) % 2 else lo / 2 ^ (127 - i) % 2 : Nat) : Int) := by
  obtain ⟨k, rfl⟩ : ∃ j, k = j + 1 := ⟨k - 1, by omega⟩
  unfold flocculusref1_Bit.f
  rw [if_neg (by omega), show decide ((i : Int) > 127) = false from decide_eq_false (by omega)]
  simp only [flocculusref1_Bit.j0]
  rw [if_neg Bool.false_ne_true]
  by_cases h : i < 64
  · rw [if_pos (by omega), if_pos h]
    have e : (63 - (i : Int)) = ((63 - i : Nat) : Int) := by omega
    rw [e, bit_of hi _ hh (by omega), if_pos]
    rw [IntKind.wrap_u64]; omega
  · rw [if_neg (by omega), if_neg h]
    have e : (127 - (i : Int)) = ((127 - i : Nat) : Int) := by omega
    rw [e, bit_of lo _ hl (by omega), if_pos]
    rw [IntKind.wrap_u64]; omega
theorem ref_with (hi lo i : Nat) (hh : hi < 18446744073709551616) (hl : lo < 18446744073709551616) (hi2 : i < 128) :
    flocculusref1_With.f hi lo i = some (if i < 64 then ((hi ||| 2 ^ (63 - i) : Nat) : Int) else hi, if i < 64 then (lo : Int) else ((lo ||| 2 ^ (127 - i) : Nat) : Int)) := by
  unfold flocculusref1_With.f
  have hp : ∀ d, d ≤ 63 → 2 ^ d < 18446744073709551616 := fun d hd => Nat.lt_of_le_of_lt (Nat.pow_le_pow_right (by decide) hd) (by decide)
  by_cases h : i < 64
  · rw [if_pos (by omega), if_pos h, if_pos h]
    have e : (63 - (i : Int)) = ((63 - i : Nat) : Int) := by omega
    rw [e, shl_one _ (by omega), u64_or_nat _ _ hh (hp _ (by omega)), if_pos]
    rw [IntKind.wrap_u64]; omega
  · rw [if_neg (by omega), if_neg h, if_neg h]
    have e : (127 - (i : Int)) = ((127 - i : Nat) : Int) := by omega
    rw [e, shl_one _ (by omega), u64_or_nat _ _ hl (hp _ (by omega)), if_pos]
    rw [IntKind.wrap_u64]; omega
theorem ref_cut_l (hi lo n : Nat) (hh : hi < 18446744073709551616) (hl : lo < 18446744073709551616) (hn : n ≤ 128) :
    ∀ (d i k : Nat), i + d = n → d + 2 ≤ k → flocculusref1_Cut.l0 k n i hi lo ((topN hi (min i 64) : Nat) : Int) ((topN lo (i - 64) : Nat) : Int) = some (((topN hi (min n 64) : Nat) : Int), ((topN lo (n - 64) : Nat) : Int)) := by
  intro d
  induction d with
  | zero =>
    intro i k hi2 hk
    obtain ⟨k, rfl⟩ : ∃ j, k = j + 1 := ⟨k - 1, by omega⟩
    obtain rfl : i = n := by omega
    simp only [flocculusref1_Cut.l0]
    rw [if_neg (by omega)]
  | succ d ih =>
    intro i k hi2 hk
    obtain ⟨k, rfl⟩ : ∃ j, k = j + 1 := ⟨k - 1, by omega⟩
    simp only [flocculusref1_Cut.l0]
    rw [if_pos (by omega), ref_bit k hi lo i hh hl (by omega) (by omega), Option.bind_some]
    have hw : wrap64 ((i : Int) + 1) = ((i + 1 : Nat) : Int) := by rw [wrap64_of (by omega) (by omega)]; omega
    have IH := ih (i + 1) k (by omega) (by omega)
    rw [hw]
    have b1 : topN hi (min i 64) < 18446744073709551616 := Nat.lt_of_le_of_lt (topN_le _ _) hh
    have b2 : topN lo (i - 64) < 18446744073709551616 := Nat.lt_of_le_of_lt (topN_le _ _) hl
    rw [ref_with _ _ i b1 b2 (by omega)]
    by_cases h : i < 64
    · rw [if_pos h]
      have m1 : min i 64 = i := by omega
      have m2 : min (i + 1) 64 = i + 1 := by omega
      have m3 : i - 64 = 0 := by omega
      have m4 : i + 1 - 64 = 0 := by omega
      rw [m2, m4, topN_step hi i h] at IH
      rw [m1, m3]
      by_cases hb : hi / 2 ^ (63 - i) % 2 = 1
      · rw [hb, Nat.one_mul] at IH
        rw [hb, if_pos (show ((1 : Nat) : Int) = 1 from rfl), Option.bind_some, if_pos h, if_pos h, topN_or hi i h]
        exact IH
      · have hb0 : hi / 2 ^ (63 - i) % 2 = 0 := by omega
        rw [hb0, Nat.zero_mul, Nat.add_zero] at IH
        rw [hb0, if_neg (by decide)]
        exact IH
    · rw [if_neg h]
      have m1 : min i 64 = 64 := by omega
      have m2 : min (i + 1) 64 = 64 := by omega
      have m4 : i + 1 - 64 = (i - 64) + 1 := by omega
      have m5 : 127 - i = 63 - (i - 64) := by omega
      rw [m2, m4, topN_step lo (i - 64) (by omega)] at IH
      rw [m1, m5]
      by_cases hb : lo / 2 ^ (63 - (i - 64)) % 2 = 1
      · rw [hb, Nat.one_mul] at IH
        rw [hb, if_pos (show ((1 : Nat) : Int) = 1 from rfl), Option.bind_some, if_neg h, if_neg h, topN_or lo (i - 64) (by omega)]
        exact IH
      · have hb0 : lo / 2 ^ (63 - (i - 64)) % 2 = 0 := by omega
        rw [hb0, Nat.zero_mul, Nat.add_zero] at IH
        rw [hb0, if_neg (by decide)]
        exact IH
/-- The document's Cut. -/
theorem cut_ref (k hi lo n : Nat) (hh : hi < 18446744073709551616) (hl : lo < 18446744073709551616) (hn : n ≤ 128) (hk : 130 ≤ k) :
    flocculusref1_Cut.f k hi lo n = some (((topN hi (min n 64) : Nat) : Int), ((topN lo (n - 64) : Nat) : Int)) := by
  unfold flocculusref1_Cut.f flocculusref1_Cap.f
  rw [if_neg (by omega), if_neg (by omega), Option.bind_some]
  have := ref_cut_l hi lo n hh hl hn n 0 k (by omega) (by omega)
  have e0 : topN hi (min 0 64) = 0 := topN_zero hh
  have e1 : topN lo (0 - 64) = 0 := topN_zero hl
  rw [e0, e1] at this
  exact this
theorem right_same (k hi lo : Nat) (n : Int) (hh : hi < 18446744073709551616) (hl : lo < 18446744073709551616) (hk : 130 ≤ k) :
    flocculusref1_Right.f k hi lo n = addr_Right.f hi lo n := by
  unfold flocculusref1_Right.f addr_Right.f
  by_cases h0 : n ≥ 0
  · rw [if_pos h0, if_pos h0]
    by_cases h1 : n ≤ 128
    · rw [if_pos h1, if_pos h1]
      obtain ⟨m, rfl⟩ := Int.eq_ofNat_of_zero_le h0
      rw [cut_code hi lo m hh hl (by omega), cut_ref k hi lo m hh hl (by omega) hk]
    · rw [if_neg h1, if_neg h1]
  · rw [if_neg h0, if_neg h0]
theorem whole_same (k hi lo : Nat) (n : Int) (hh : hi < 18446744073709551616) (hl : lo < 18446744073709551616) (hk : 130 ≤ k) :
    flocculusref1_whole.f k hi lo n = cidr_Length.f hi lo n := by
  unfold flocculusref1_whole.f cidr_Length.f
  rw [right_same k hi lo n hh hl hk]
end Go.Proofs.YtjhlgfafjjmooaaDoor.Dot
