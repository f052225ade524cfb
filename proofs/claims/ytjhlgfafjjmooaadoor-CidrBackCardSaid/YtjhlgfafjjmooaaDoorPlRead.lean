/- Cidr: the code's Read and the document's are one. Plain. -/
import Derived.Test.YtjhlgfafjjmooaaDoorPlSplit
import Derived.Test.YtjhlgfafjjmooaaDoorRead
namespace Go.Proofs.YtjhlgfafjjmooaaDoor.Dot
open Go.RowKit Go.Proofs.YtjhlgfafjjmooaaDoor.PCidrTells Go.Proofs.YtjhlgfafjjmooaaDoorW.PrintWords Go.Proofs.YtjhlgfafjjmooaaDoorW.PrintLast Go.Proofs.YtjhlgfafjjmooaaDoorW.PrintMore

theorem wrap_mul (x d : Nat) (hx : x < 256) (hd : d ≤ 56) : shl .u64 (IntKind.u64.wrap (x : Int)) (IntKind.u64.wrap (wrap64 (d : Int))) = ((x * 2 ^ d : Nat) : Int) := by
  have e : IntKind.u64.wrap (wrap64 (d : Int)) = d := by rw [wrap64_of (by omega) (by omega), u64_small (by omega) (by omega)]
  have e1 : IntKind.u64.wrap (x : Int) = x := u64_small (by omega) (by omega)
  rw [e, e1]
  unfold shl
  have : min (d : Int).toNat IntKind.u64.bits = d := by simp [IntKind.bits]; omega
  rw [this]
  have hc : (x : Int) * 2 ^ d = ((x * 2 ^ d : Nat) : Int) := by rw [Int.natCast_mul, Int.natCast_pow]; rfl
  have h : x * 2 ^ d ≤ 255 * 72057594037927936 := Nat.mul_le_mul (by omega) (Nat.le_trans (Nat.pow_le_pow_right (show 0 < 2 by decide) hd) (by decide))
  rw [hc]
  generalize x * 2 ^ d = z at h ⊢
  exact u64_small (by omega) (by omega)
theorem stepA_nat (a v i : Nat) (ha : a < 256 ^ i) (hi : i < 4) (hv : v < 256) : stepA a v = ((a * 256 + v : Nat) : Int) := by
  unfold stepA
  have hp : 256 ^ i ≤ 16777216 := Nat.le_trans (Nat.pow_le_pow_right (show 0 < 256 by decide) (show i ≤ 3 by omega)) (by decide)
  have e1 : IntKind.u64.wrap ((a : Int) * 256) = ((a * 256 : Nat) : Int) := by rw [u64_small (by omega) (by omega)]; omega
  have e2 : IntKind.u64.wrap (v : Int) = v := u64_small (by omega) (by omega)
  rw [e1, e2, u64_or_nat _ _ (by omega) (by omega), nat_join 8 _ _ (by omega) (by omega)]
theorem ref_step (a v i : Nat) (ha : a < 256 ^ i) (hi : i < 4) (hv : v < 256) :
    bits .or .u64 ((a * 2 ^ (64 - 8 * i) : Nat) : Int) (shl .u64 (IntKind.u64.wrap (v : Int)) (IntKind.u64.wrap (wrap64 (56 - (wrap64 (8 * (i : Int))))))) = (((a * 256 + v) * 2 ^ (64 - 8 * (i + 1)) : Nat) : Int) := by
  have e : (56 - wrap64 (8 * (i : Int))) = ((56 - 8 * i : Nat) : Int) := by rw [wrap64_of (by omega) (by omega)]; omega
  rw [e, wrap_mul v _ hv (by omega)]
  have hs : 2 ^ (64 - 8 * i) = 256 * 2 ^ (56 - 8 * i) := by rw [show 64 - 8 * i = 8 + (56 - 8 * i) by omega, Nat.pow_add]
  have hpos : 0 < 2 ^ (56 - 8 * i) := Nat.two_pow_pos _
  have hv2 : v * 2 ^ (56 - 8 * i) < 2 ^ (64 - 8 * i) := by rw [hs]; exact Nat.mul_lt_mul_of_pos_right hv hpos
  have h64 : a * 2 ^ (64 - 8 * i) < 18446744073709551616 := by
    have h1 : 256 ^ i * 2 ^ (64 - 8 * i) = 18446744073709551616 := by
      rw [show (256 : Nat) = 2 ^ 8 from rfl, ← Nat.pow_mul, ← Nat.pow_add, show 8 * i + (64 - 8 * i) = 64 by omega]
    rw [← h1]
    exact Nat.mul_lt_mul_of_pos_right ha (Nat.two_pow_pos _)
  have hv3 : v * 2 ^ (56 - 8 * i) < 18446744073709551616 := Nat.lt_of_lt_of_le hv2 (Nat.le_trans (Nat.pow_le_pow_right (show 0 < 2 by decide) (show 64 - 8 * i ≤ 64 by omega)) (by decide))
  rw [u64_or_nat _ _ h64 hv3, nat_join (64 - 8 * i) _ _ (Nat.mul_mod_left _ _) hv2, hs, show 64 - 8 * (i + 1) = 56 - 8 * i by omega, Nat.add_mul, Nat.mul_assoc]
theorem rd_at (xs : List ByteArray) (i : Nat) (h : i < xs.length) : rdOf ByteArray.empty xs (i : Int) = xs[i] := by
  unfold rdOf
  rw [show ((i : Int)).toNat = i by omega, List.getD_eq_getElem?_getD, List.getElem?_eq_getElem h]
  rfl
/-- From the i-th number on. -/
theorem ref_read_l (n : Int) (xs : List ByteArray) (hx : xs.length = 4) : ∀ (d i k a : Nat), i + d = 4 → d + 200 ≤ k → a < 256 ^ i →
    flocculusref1_ReadDots.l0 k n xs i ((a * 2 ^ (64 - 8 * i) : Nat) : Int) 0 = match rdA (xs.drop i) a with | some b => cidr_Length.f (IntKind.u64.wrap (b * 4294967296)) 0 n | none => some (0, 0, 0, 2) := by
  intro d
  induction d with
  | zero =>
    intro i k a hi hk ha
    obtain ⟨k, rfl⟩ : ∃ j, k = j + 1 := ⟨k - 1, by omega⟩
    obtain rfl : i = 4 := by omega
    rw [List.drop_eq_nil_of_le (by omega)]
    simp only [flocculusref1_ReadDots.l0, rdA]
    have ha' : a < 4294967296 := by simpa using ha
    have e : IntKind.u64.wrap ((a : Int) * 4294967296) = ((a * 2 ^ (64 - 8 * 4) : Nat) : Int) := by
      rw [u64_small (by omega) (by omega)]; simp
    have hm : a * 2 ^ (64 - 8 * 4) < 18446744073709551616 := by simp; omega
    rw [if_neg (by omega), e]
    have := whole_same k (a * 2 ^ (64 - 8 * 4)) 0 n hm (by decide) (by omega)
    rw [show (((0 : Nat) : Int)) = 0 from rfl] at this
    rw [this]
    cases cidr_Length.f ((a * 2 ^ (64 - 8 * 4) : Nat) : Int) 0 n with
    | none => rfl
    | some p => rfl
  | succ d ih =>
    intro i k a hi hk ha
    obtain ⟨k, rfl⟩ : ∃ j, k = j + 1 := ⟨k - 1, by omega⟩
    have hil : i < xs.length := by omega
    simp only [flocculusref1_ReadDots.l0]
    rw [if_pos (by omega), if_pos (by omega), if_pos (by omega), rd_at xs i hil, ref_number k _ _ (by omega), Option.bind_some, num_same _ 255 (by omega) (by omega), List.drop_eq_getElem_cons hil, rdA]
    by_cases hb : numB xs[i].data.toList 255 = true
    · obtain ⟨v0, v1⟩ := numV_range _ _ hb
      rw [if_pos hb, if_pos hb, if_neg (by omega)]
      obtain ⟨v, hv⟩ := Int.eq_ofNat_of_zero_le v0
      rw [hv]
      have hu : 0 ≤ IntKind.u64.wrap (wrap64 (56 - wrap64 (8 * (i : Int)))) := by rw [IntKind.wrap_u64]; omega
      have hw : wrap64 ((i : Int) + 1) = ((i + 1 : Nat) : Int) := by rw [wrap64_of (by omega) (by omega)]; omega
      rw [if_pos hu, hw, ref_step a v i ha (by omega) (by omega), stepA_nat a v i ha (by omega) (by omega)]
      exact ih (i + 1) k _ (by omega) (by omega) (by rw [Nat.pow_succ]; omega)
    · rw [if_neg hb, if_neg hb, if_pos (by decide)]
theorem not_slash (l : List UInt8) (h : l.all dig = true) : (47 : UInt8) ∉ l := fun hm => by
  have := List.all_eq_true.mp h _ hm
  exact absurd this (by decide)
/-- The two readers are one. -/
theorem read_same (s : ByteArray) (k : Nat) (hs : s.size < 1000) (hk : 2000 ≤ k) : flocculusref1_ReadDots.f k s = readP s := by
  unfold flocculusref1_ReadDots.f
  have hsp := ref_split s 47 k (by omega) (by omega)
  rw [show (((47 : UInt8).toNat : Nat) : Int) = 47 from rfl] at hsp
  rw [hsp, Option.bind_some]
  have hpl := parts_length s
  have hps : partsB s = (cutAt 46 (leftB s).data.toList).map ba := splitB_same 46 (leftB s)
  unfold readP
  by_cases hm : (47 : UInt8) ∈ s.data.toList
  · obtain ⟨a, b, hab, ha⟩ := List.eq_append_cons_of_mem hm
    have hcut := cut_at 47 a b ha
    rw [← hab] at hcut
    have hl : leftB s = ba a := by unfold leftB ba; rw [hcut]
    have hr : rightB s = ba b := by unfold rightB ba; rw [hcut]
    have ho : okB s = true := by unfold okB; rw [hcut]
    have hlen : a.length + b.length + 1 = s.size := by
      have := congrArg List.length hab
      rw [data_len, List.length_append, List.length_cons] at this
      omega
    rw [hl] at hps
    rw [hr, ho, Bool.true_and, ba_data, hab, cutAt_at 47 b a ha]
    by_cases hb : (47 : UInt8) ∈ b
    · have hc := cutAt_length 47 b
      have hpos : 0 < b.count 47 := List.count_pos_iff.mpr hb
      have hnb : numB b 32 = false := by
        cases h : numB b 32 with
        | false => rfl
        | true => exact absurd hb (not_slash b (numB_digits b 32 (by omega) h))
      rw [if_neg (by rw [List.length_map, List.length_cons]; omega), hnb]
      rfl
    · rw [cutAt_none 47 b hb]
      simp only [List.map_cons, List.map_nil]
      have e1 : rdOf ByteArray.empty [ba a, ba b] 1 = ba b := rfl
      have e0 : rdOf ByteArray.empty [ba a, ba b] 0 = ba a := rfl
      rw [if_pos (show (([ba a, ba b].length : Nat) : Int) = 2 from rfl), if_pos (show 1 < (([ba a, ba b].length : Nat) : Int) by simp), e1, e0, ref_number k _ _ (by omega), Option.bind_some, if_pos (show 0 < (([ba a, ba b].length : Nat) : Int) by simp), ba_data]
      have hsp2 := ref_split (ba a) 46 k (by show a.toArray.size < _; simp; omega) (by show a.toArray.size + 2 ≤ _; simp; omega)
      rw [show (((46 : UInt8).toNat : Nat) : Int) = 46 from rfl, ba_data] at hsp2
      rw [ba_data] at hps
      rw [hsp2, ← hps, Option.bind_some, num_same b 32 (by omega) (by omega)]
      obtain ⟨k, rfl⟩ : ∃ j, k = j + 1 := ⟨k - 1, by omega⟩
      by_cases hnb : numB b 32 = true
      · rw [if_pos hnb, hnb, Bool.true_and]
        obtain ⟨v0, v1⟩ := numV_range _ _ hnb
        rw [if_neg (by omega)]
        simp only [flocculusref1_ReadDots.j0]
        by_cases h4 : (partsB s).length = 4
        · rw [if_pos (decide_eq_true h4), h4]
          have := ref_read_l (numV b) (partsB s) h4 4 0 k 0 (by omega) (by omega) (by simp)
          rw [List.drop_zero] at this
          have e4 : ((0 * 2 ^ (64 - 8 * 0) : Nat) : Int) = 0 := rfl
          rw [e4] at this
          rw [if_neg (by decide), this]
          cases rdA (partsB s) 0 <;> rfl
        · have hne : (((partsB s).length : Int) != 4) = true := bne_iff_ne.mpr (by omega)
          rw [hne, if_pos rfl, if_neg (by rw [decide_eq_false h4]; decide)]
      · have hnb' : numB b 32 = false := Bool.eq_false_iff.mpr hnb
        rw [if_neg hnb, if_pos (by decide), hnb']
        simp only [flocculusref1_ReadDots.j0]
        rfl
  · have hcut := cut_no 47 s.data.toList hm
    have ho : okB s = false := by unfold okB; rw [hcut]
    rw [cutAt_none 47 _ hm, ho]
    rfl
end Go.Proofs.YtjhlgfafjjmooaaDoor.Dot
