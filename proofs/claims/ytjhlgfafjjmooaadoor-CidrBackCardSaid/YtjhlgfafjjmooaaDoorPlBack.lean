/- Cidr: a right prefix is read as it was written. Plain. -/
import Derived.Test.YtjhlgfafjjmooaaDoorPlShow
namespace Go.Proofs.YtjhlgfafjjmooaaDoor.Dot
open Go.RowKit Go.Proofs.YtjhlgfafjjmooaaDoor.PCidrTells Go.Proofs.YtjhlgfafjjmooaaDoorW.PrintWords Go.Proofs.YtjhlgfafjjmooaaDoorW.PrintLast Go.Proofs.YtjhlgfafjjmooaaDoorW.PrintMore

theorem not_dot (l : List UInt8) (h : l.all dig = true) : (46 : UInt8) ∉ l := fun hm => by
  have := List.all_eq_true.mp h _ hm
  exact absurd this (by decide)
theorem rdA_cons (b a i : Nat) (xs : List ByteArray) (hb : b < 256) (ha : a < 256 ^ i) (hi : i < 4) : rdA (ba (Lib.itoa (b : Int)) :: xs) a = rdA xs ((a * 256 + b : Nat) : Int) := by
  obtain ⟨n1, n2⟩ := numB_itoa b 255 (by omega) (by omega)
  rw [rdA, ba_data, if_pos n1, n2, stepA_nat a b i ha hi hb]
theorem show_list (b0 b1 b2 b3 n : Int) (hi : Int) (h0 : byteP hi 0 = b0) (h1 : byteP hi 1 = b1) (h2 : byteP hi 2 = b2) (h3 : byteP hi 3 = b3) :
    (showB hi n).data.toList = (Lib.itoa b0 ++ 46 :: (Lib.itoa b1 ++ 46 :: (Lib.itoa b2 ++ 46 :: Lib.itoa b3))) ++ 47 :: Lib.itoa n := by
  subst h0 h1 h2 h3
  unfold showB
  simp only [cat_list]
  simp [Lib.join, List.intercalate, List.intersperse, slashB, txt]
theorem read_back (hi n : Nat) (hh : hi < 18446744073709551616) (hd : hi % 4294967296 = 0) (hn : n ≤ 32) (hR : addr_Right.f hi 0 n = some true) :
    readP (showB hi n) = some ((hi : Int), 0, (n : Int), 0) := by
  obtain ⟨b0, hb0⟩ : ∃ b, b = hi / 2 ^ 56 % 256 := ⟨_, rfl⟩
  obtain ⟨b1, hb1⟩ : ∃ b, b = hi / 2 ^ 48 % 256 := ⟨_, rfl⟩
  obtain ⟨b2, hb2⟩ : ∃ b, b = hi / 2 ^ 40 % 256 := ⟨_, rfl⟩
  obtain ⟨b3, hb3⟩ : ∃ b, b = hi / 2 ^ 32 % 256 := ⟨_, rfl⟩
  have p0 : byteP hi 0 = (b0 : Int) := by rw [(byte_of hi 0 hh (by omega)).2, hb0]
  have p1 : byteP hi 1 = (b1 : Int) := by rw [(byte_of hi 1 hh (by omega)).2, hb1]
  have p2 : byteP hi 2 = (b2 : Int) := by rw [(byte_of hi 2 hh (by omega)).2, hb2]
  have p3 : byteP hi 3 = (b3 : Int) := by rw [(byte_of hi 3 hh (by omega)).2, hb3]
  have hl := show_list _ _ _ _ (n : Int) hi p0 p1 p2 p3
  have i0 := (itoa_facts b0 (by omega)).2.2.2.1
  have i1 := (itoa_facts b1 (by omega)).2.2.2.1
  have i2 := (itoa_facts b2 (by omega)).2.2.2.1
  have i3 := (itoa_facts b3 (by omega)).2.2.2.1
  obtain ⟨J, hJ⟩ : ∃ J, J = Lib.itoa (b0 : Int) ++ 46 :: (Lib.itoa (b1 : Int) ++ 46 :: (Lib.itoa (b2 : Int) ++ 46 :: Lib.itoa (b3 : Int))) := ⟨_, rfl⟩
  have hJ47 : (47 : UInt8) ∉ J := by
    rw [hJ]
    simp only [List.mem_append, List.mem_cons, not_or]
    exact ⟨not_slash _ i0, by decide, not_slash _ i1, by decide, not_slash _ i2, by decide, not_slash _ i3⟩
  rw [← hJ] at hl
  have hcut := cut_at 47 J (Lib.itoa (n : Int)) hJ47
  rw [← hl] at hcut
  have el : leftB (showB hi n) = ba J := by unfold leftB ba; rw [hcut]
  have er : rightB (showB hi n) = ba (Lib.itoa (n : Int)) := by unfold rightB ba; rw [hcut]
  have eo : okB (showB hi n) = true := by unfold okB; rw [hcut]
  have hps : partsB (showB hi n) = (cutAt 46 (leftB (showB hi n)).data.toList).map ba := splitB_same 46 (leftB (showB hi n))
  rw [el, ba_data, hJ, cutAt_at 46 _ _ (not_dot _ i0), cutAt_at 46 _ _ (not_dot _ i1), cutAt_at 46 _ _ (not_dot _ i2), cutAt_none 46 _ (not_dot _ i3)] at hps
  simp only [List.map_cons, List.map_nil] at hps
  obtain ⟨n1, n2⟩ := numB_itoa n 32 (by omega) (by omega)
  have hrd : rdA (partsB (showB hi n)) 0 = some (((((b0 * 256 + b1) * 256 + b2) * 256 + b3 : Nat)) : Int) := by
    rw [hps, show (0 : Int) = ((0 : Nat) : Int) from rfl, rdA_cons b0 0 0 _ (by omega) (by decide) (by omega), rdA_cons b1 _ 1 _ (by omega) (by omega) (by omega), rdA_cons b2 _ 2 _ (by omega) (by omega) (by omega), rdA_cons b3 _ 3 _ (by omega) (by omega) (by omega)]
    simp only [rdA, Nat.zero_mul, Nat.zero_add]
  have hval : IntKind.u64.wrap (((((b0 * 256 + b1) * 256 + b2) * 256 + b3 : Nat) : Int) * 4294967296) = (hi : Int) := by
    have e : (((b0 * 256 + b1) * 256 + b2) * 256 + b3) * 4294967296 = hi := by
      have q0 : b0 = hi / 72057594037927936 % 256 := hb0
      have q1 : b1 = hi / 281474976710656 % 256 := hb1
      have q2 : b2 = hi / 1099511627776 % 256 := hb2
      have q3 : b3 = hi / 4294967296 % 256 := hb3
      clear hb0 hb1 hb2 hb3 hl hcut el er eo hps hrd hJ p0 p1 p2 p3 i0 i1 i2 i3 hR
      omega
    rw [u64_small (by omega) (by omega)]
    omega
  unfold readP
  rw [eo, er, ba_data, n1, n2, hps, List.length_cons, List.length_cons, List.length_cons, List.length_cons, List.length_nil, ← hps, hrd]
  rw [if_pos (by decide)]
  show cidr_Length.f _ _ _ = _
  rw [hval]
  unfold cidr_Length.f
  rw [hR]
  rfl
theorem topN_idem (x m : Nat) : topN (topN x m) m = topN x m := by
  unfold topN
  rw [Nat.mul_div_cancel _ (Nat.two_pow_pos _)]
theorem topN_32 (x m : Nat) (hm : m ≤ 32) : topN x m % 4294967296 = 0 := by
  unfold topN
  have : 2 ^ (64 - m) = 4294967296 * 2 ^ (32 - m) := by rw [show 64 - m = 32 + (32 - m) by omega, Nat.pow_add]
  rw [this, ← Nat.mul_assoc, Nat.mul_comm _ 4294967296, Nat.mul_assoc, Nat.mul_mod_right]
theorem topN_right (x m : Nat) (hx : x < 18446744073709551616) (hm : m ≤ 32) : addr_Right.f (topN x m) 0 m = some true := by
  have hb : topN x m < 18446744073709551616 := Nat.lt_of_le_of_lt (topN_le _ _) hx
  have := cut_code (topN x m) 0 m hb (by decide) (by omega)
  unfold addr_Right.f
  rw [if_pos (by omega), if_pos (by omega)]
  rw [show ((0 : Nat) : Int) = 0 from rfl] at this
  rw [this, Option.bind_some, show min m 64 = m by omega, topN_idem, show m - 64 = 0 by omega, topN_zero (by decide)]
  simp
/-- Two right prefixes are written as one only if they are one. -/
theorem show_inj (a b n m : Nat) (ha : a < 18446744073709551616) (hb : b < 18446744073709551616) (hn : n ≤ 32) (hm : m ≤ 32) (h : showB (topN a n) n = showB (topN b m) m) : topN a n = topN b m ∧ n = m := by
  have h1 := read_back (topN a n) n (Nat.lt_of_le_of_lt (topN_le _ _) ha) (topN_32 a n hn) hn (topN_right a n ha hn)
  have h2 := read_back (topN b m) m (Nat.lt_of_le_of_lt (topN_le _ _) hb) (topN_32 b m hm) hm (topN_right b m hb hm)
  rw [h, h2] at h1
  simp only [Option.some.injEq, Prod.mk.injEq] at h1
  omega
end Go.Proofs.YtjhlgfafjjmooaaDoor.Dot
