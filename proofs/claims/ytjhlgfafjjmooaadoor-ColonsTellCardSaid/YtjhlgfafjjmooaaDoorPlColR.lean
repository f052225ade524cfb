/- A number in base 16, read: the document's. Plain. Colons: the code's Read and the document's are one. Plain. -/
import Derived.Test.YtjhlgfafjjmooaaDoorPlHex
import Derived.Test.YtjhlgfafjjmooaaDoorRefCols
import Derived.Test.YtjhlgfafjjmooaaDoorCalive
import Derived.Test.YtjhlgfafjjmooaaDoorRefCols2
import Derived.Test.YtjhlgfafjjmooaaDoorPlJoin
namespace Go.Proofs.YtjhlgfafjjmooaaDoor.Dot
open Go.RowKit Go.Proofs.YtjhlgfafjjmooaaDoor.PCidrTells Go.Proofs.YtjhlgfafjjmooaaDoorW.PrintWords Go.Proofs.YtjhlgfafjjmooaaDoorW.PrintLast Go.Proofs.YtjhlgfafjjmooaaDoorW.PrintMore

/-- The document's. -/
theorem rstep_dec (a x : Nat) (ha : a < 65536) (hx : 48 ≤ x) (hx2 : x < 256) : wrap64 ((wrap64 (16 * (a : Int))) + (((x : Int) - 48) % 256)) = (((a * 16 + (x - 48)) % 18446744073709551616 : Nat) : Int) := by
  unfold wrap64
  omega
theorem rstep_low (a x : Nat) (ha : a < 65536) (hx : 97 ≤ x) (hx2 : x < 256) : wrap64 ((wrap64 ((wrap64 (16 * (a : Int))) + (((x : Int) - 97) % 256))) + 10) = (((a * 16 + (x - 87)) % 18446744073709551616 : Nat) : Int) := by
  unfold wrap64
  omega
theorem rstep_up (a x : Nat) (ha : a < 65536) (hx : 65 ≤ x) (hx2 : x < 256) : wrap64 ((wrap64 ((wrap64 (16 * (a : Int))) + (((x : Int) - 65) % 256))) + 10) = (((a * 16 + (x - 55)) % 18446744073709551616 : Nat) : Int) := by
  unfold wrap64
  omega
theorem rh_l (s : ByteArray) (hs : s.size ≤ 4) : ∀ (d i k a : Nat), i + d = s.size → 3 * d + 1 ≤ k → a < 16 ^ i →
    flocculusref1_readHex.l0 k s a i = match accX (s.data.toList.drop i) a with | none => some (-1) | some v => some (v : Int) := by
  intro d
  induction d with
  | zero =>
    intro i k a hi hk ha
    obtain ⟨k, rfl⟩ : ∃ j, k = j + 1 := ⟨k - 1, by omega⟩
    rw [List.drop_eq_nil_of_le (by rw [data_len]; omega)]
    simp only [flocculusref1_readHex.l0, accX]
    rw [if_neg (by omega)]
  | succ d ih =>
    intro i k a hi hk ha
    obtain ⟨k, rfl⟩ : ∃ j, k = j + 3 := ⟨k - 3, by omega⟩
    have hlt : i < s.size := by omega
    have hll : i < s.data.toList.length := by rw [data_len]; exact hlt
    have hw : wrap64 ((i : Int) + 1) = ((i + 1 : Nat) : Int) := by rw [wrap64_of (by omega) (by omega)]; omega
    have hp : 16 ^ i ≤ 4096 := Nat.le_trans (Nat.pow_le_pow_right (show 0 < 16 by decide) (show i ≤ 3 by omega)) (by decide)
    have ha4 : a < 65536 := by omega
    have hnew : ∀ y, y < 16 → (a * 16 + y) % 18446744073709551616 < 16 ^ (i + 1) := by
      intro y hy
      rw [Nat.mod_eq_of_lt (by omega), Nat.pow_succ]
      omega
    simp only [flocculusref1_readHex.l0]
    rw [if_pos (by omega), if_pos (by omega), bt_list s i hlt, List.drop_eq_getElem_cons hll]
    simp only [accX]
    have IH := fun a k hk ha => ih (i + 1) k a (by omega) hk ha
    generalize s.data.toList[i] = b
    have hb : b.toNat < 256 := b.toNat_lt
    by_cases c1 : 48 ≤ b.toNat ∧ b.toNat ≤ 57
    · have e : hdig b = some (b.toNat - 48) := by unfold hdig; rw [if_pos c1]
      rw [if_pos (by omega), decide_eq_true (by omega), e]
      simp only [flocculusref1_readHex.j2]
      rw [if_pos trivial, rstep_dec a _ ha4 c1.1 hb, hw]
      exact IH _ _ (by omega) (hnew _ (by omega))
    · have hj : (if (b.toNat : Int) ≥ 48 then flocculusref1_readHex.j2 (k + 2) s a i b.toNat (decide ((b.toNat : Int) ≤ 57)) else flocculusref1_readHex.j2 (k + 2) s a i b.toNat false) = flocculusref1_readHex.j2 (k + 2) s a i b.toNat false := by
        by_cases c0 : (b.toNat : Int) ≥ 48
        · rw [if_pos c0, decide_eq_false (by omega)]
        · rw [if_neg c0]
      rw [hj]
      simp only [flocculusref1_readHex.j2]
      rw [if_neg Bool.false_ne_true]
      by_cases c2 : 97 ≤ b.toNat ∧ b.toNat ≤ 102
      · have e : hdig b = some (b.toNat - 87) := by unfold hdig; rw [if_neg c1, if_pos c2]
        rw [if_pos (by omega), decide_eq_true (by omega), e]
        simp only [flocculusref1_readHex.j3]
        rw [if_pos trivial, rstep_low a _ ha4 c2.1 hb, hw]
        exact IH _ _ (by omega) (hnew _ (by omega))
      · have hj : (if (b.toNat : Int) ≥ 97 then flocculusref1_readHex.j3 (k + 1) s a i b.toNat (decide ((b.toNat : Int) ≤ 102)) else flocculusref1_readHex.j3 (k + 1) s a i b.toNat false) = flocculusref1_readHex.j3 (k + 1) s a i b.toNat false := by
          by_cases c0 : (b.toNat : Int) ≥ 97
          · rw [if_pos c0, decide_eq_false (by omega)]
          · rw [if_neg c0]
        rw [hj]
        simp only [flocculusref1_readHex.j3]
        rw [if_neg Bool.false_ne_true]
        by_cases c3 : 65 ≤ b.toNat ∧ b.toNat ≤ 70
        · have e : hdig b = some (b.toNat - 55) := by unfold hdig; rw [if_neg c1, if_neg c2, if_pos c3]
          rw [if_pos (by omega), if_pos (by omega), e, rstep_up a _ ha4 c3.1 hb, hw]
          exact IH _ _ (by omega) (hnew _ (by omega))
        · have e : hdig b = none := by unfold hdig; rw [if_neg c1, if_neg c2, if_neg c3]
          rw [e]
          by_cases c0 : (b.toNat : Int) ≥ 65
          · rw [if_pos c0, if_neg (by omega)]
          · rw [if_neg c0]
theorem readHex_is (s : ByteArray) (k : Nat) (hk : 20 ≤ k) :
    flocculusref1_readHex.f k s = some (match numX s.data.toList with | none => -1 | some v => (v : Int)) := by
  obtain ⟨k, rfl⟩ : ∃ j, k = j + 1 := ⟨k - 1, by omega⟩
  unfold flocculusref1_readHex.f numX
  rw [data_len]
  by_cases h1 : s.size < 1
  · rw [if_pos (by omega), if_neg (by omega)]
    simp only [flocculusref1_readHex.j0]
    rw [if_pos trivial]
  · rw [if_neg (by omega)]
    by_cases h4 : s.size ≤ 4
    · rw [decide_eq_false (by omega), if_pos (by omega)]
      simp only [flocculusref1_readHex.j0]
      rw [if_neg Bool.false_ne_true]
      have := rh_l s h4 s.size 0 k 0 (by omega) (by omega) (by decide)
      rw [List.drop_zero] at this
      rw [show ((0 : Nat) : Int) = 0 from rfl] at this
      rw [this]
      cases accX s.data.toList 0 <;> rfl
    · rw [decide_eq_true (by omega), if_neg (by omega)]
      simp only [flocculusref1_readHex.j0]
      rw [if_pos trivial]


theorem rdOf_map (pl : List (List UInt8)) (i : Nat) (h : i < pl.length) : rdOf ByteArray.empty (pl.map ba) (i : Int) = ba pl[i] := by
  unfold rdOf
  rw [Int.toNat_natCast, List.getD_eq_getElem?_getD, List.getElem?_map, List.getElem?_eq_getElem h]
  rfl
theorem group_l (pl : List (List UInt8)) (hp : pl.length < 1000000) : ∀ (d i k : Nat) (acc : List Nat), i + d = pl.length → d + 30 ≤ k → acc.length = i →
    flocculusref1_group.l0 k (pl.map ba) (ints acc) i = match mapX (pl.drop i) with | some vs => some (ints (acc ++ vs), true) | none => some ([], false) := by
  intro d
  induction d with
  | zero =>
    intro i k acc hi hk ha
    obtain ⟨k, rfl⟩ : ∃ j, k = j + 1 := ⟨k - 1, by omega⟩
    rw [List.drop_eq_nil_of_le (by omega)]
    simp only [flocculusref1_group.l0, mapX, List.append_nil]
    rw [if_neg (by rw [List.length_map]; omega)]
  | succ d ih =>
    intro i k acc hi hk ha
    obtain ⟨k, rfl⟩ : ∃ j, k = j + 1 := ⟨k - 1, by omega⟩
    have hil : i < pl.length := by omega
    have hw : wrap64 ((i : Int) + 1) = ((i + 1 : Nat) : Int) := by rw [wrap64_of (by omega) (by omega)]; omega
    rw [List.drop_eq_getElem_cons hil]
    simp only [flocculusref1_group.l0, mapX]
    rw [if_pos (by rw [List.length_map]; omega), if_pos (by omega), rdOf_map pl i hil, readHex_is _ k (by omega), ba_data, Option.bind_some]
    cases hn : numX pl[i] with
    | none => rw [if_pos (by decide)]
    | some v =>
      have hv0 : ¬ ((v : Nat) : Int) < 0 := by omega
      dsimp only
      rw [if_neg hv0, if_pos (by rw [ints_len]; omega), ints_snoc, hw, ih (i + 1) k (acc ++ [v]) (by omega) (by omega) (by rw [List.length_append, ha]; rfl)]
      cases mapX (pl.drop (i + 1)) with
      | none => rfl
      | some vs => simp
theorem group_is (s : ByteArray) (k : Nat) (hs : s.size < 1000) (hk : 1500 ≤ k) :
    flocculusref1_group.f k s = some (match listX s.data.toList with | some ns => (ints ns, true) | none => ([], false)) := by
  unfold flocculusref1_group.f listX
  rw [Lib.toList_data]
  by_cases h0 : s.data.toList = []
  · rw [if_pos h0, if_pos h0]
    rfl
  · rw [if_neg h0, if_neg h0]
    have hsp := ref_split s 58 k (by omega) (by omega)
    rw [show (((58 : UInt8).toNat : Nat) : Int) = 58 from rfl] at hsp
    have hlen : (cutAt 58 s.data.toList).length ≤ s.size + 1 := by
      rw [cutAt_length]
      have := List.count_le_length (a := (58 : UInt8)) (l := s.data.toList)
      rw [data_len] at this
      omega
    rw [hsp, Option.bind_some]
    have := group_l (cutAt 58 s.data.toList) (by omega) (cutAt 58 s.data.toList).length 0 k [] (by omega) (by omega) rfl
    rw [List.drop_zero] at this
    rw [show ((0 : Nat) : Int) = 0 from rfl] at this
    rw [show ([] : List Int) = ints [] from rfl, this]
    cases mapX (cutAt 58 s.data.toList) with
    | none => rfl
    | some vs => rfl
theorem int58 (x : UInt8) : ((x.toNat : Int) = 58) ↔ x = 58 := by
  constructor
  · intro e
    exact UInt8.toNat_inj.mp (by have h58 : (58 : UInt8).toNat = 58 := rfl; omega)
  · rintro rfl; rfl
/-- Where a text has two colons the first time. -/
theorem double_l (s : ByteArray) (hs : s.size < 1000000) : ∀ (d i k : Nat), i + d = s.size → d + 1 ≤ k →
    flocculusref1_double.l0 k s i = some (if Lib.index (s.data.toList.drop i) [58, 58] = -1 then -1 else (i : Int) + Lib.index (s.data.toList.drop i) [58, 58]) := by
  intro d
  induction d with
  | zero =>
    intro i k hi hk
    obtain ⟨k, rfl⟩ : ∃ j, k = j + 1 := ⟨k - 1, by omega⟩
    rw [List.drop_eq_nil_of_le (by rw [data_len]; omega)]
    have hw : wrap64 ((i : Int) + 1) = (i : Int) + 1 := wrap64_of (by omega) (by omega)
    simp only [flocculusref1_double.l0]
    rw [hw, if_neg (by omega)]
    rfl
  | succ d ih =>
    intro i k hi hk
    obtain ⟨k, rfl⟩ : ∃ j, k = j + 1 := ⟨k - 1, by omega⟩
    have hw : wrap64 ((i : Int) + 1) = ((i + 1 : Nat) : Int) := by rw [wrap64_of (by omega) (by omega)]; omega
    have hlt : i < s.size := by omega
    have hll : i < s.data.toList.length := by rw [data_len]; exact hlt
    have IH := ih (i + 1) k (by omega) (by omega)
    have hge := Lib.index_ge (s.data.toList.drop (i + 1)) [58, 58]
    have hrest : some (if Lib.index (s.data.toList.drop (i + 1)) [58, 58] = -1 then -1 else (((i + 1 : Nat) : Int) + Lib.index (s.data.toList.drop (i + 1)) [58, 58])) = some (if (if Lib.index (s.data.toList.drop (i + 1)) [58, 58] = -1 then (-1 : Int) else Lib.index (s.data.toList.drop (i + 1)) [58, 58] + 1) = -1 then (-1 : Int) else (i : Int) + (if Lib.index (s.data.toList.drop (i + 1)) [58, 58] = -1 then (-1 : Int) else Lib.index (s.data.toList.drop (i + 1)) [58, 58] + 1)) := by
      by_cases c : Lib.index (s.data.toList.drop (i + 1)) [58, 58] = -1
      · rw [if_pos c, if_pos c, if_pos rfl]
      · rw [if_neg c, if_neg c, if_neg (by omega)]
        congr 1
        omega
    simp only [flocculusref1_double.l0]
    rw [hw, List.drop_eq_getElem_cons hll]
    by_cases h1 : i + 1 < s.size
    · have hll1 : i + 1 < s.data.toList.length := by rw [data_len]; exact h1
      have hd2 := List.drop_eq_getElem_cons hll1
      rw [if_pos (by omega), if_pos (by omega), if_pos (by omega), bt_list s i hlt, if_pos (show 0 ≤ ((i + 1 : Nat) : Int) by omega), bt_list s (i + 1) h1, IH, hrest]
      rw [hd2]
      generalize s.data.toList[i] = x
      generalize s.data.toList[i + 1] = y
      generalize s.data.toList.drop (i + 1 + 1) = l
      by_cases a : x = 58
      · rw [if_pos ((int58 x).mpr a)]
        by_cases b : y = 58
        · have e : Lib.index (x :: y :: l) [58, 58] = 0 := by rw [index_two, if_pos ⟨a, b⟩]
          rw [if_pos ((int58 y).mpr b), e, if_neg (by decide)]
          simp
        · have e : Lib.index (x :: y :: l) [58, 58] = if Lib.index (y :: l) [58, 58] = -1 then -1 else Lib.index (y :: l) [58, 58] + 1 := by rw [index_two, if_neg (fun e => b e.2)]
          rw [if_neg (fun e => b ((int58 y).mp e)), e]
      · have e : Lib.index (x :: y :: l) [58, 58] = if Lib.index (y :: l) [58, 58] = -1 then -1 else Lib.index (y :: l) [58, 58] + 1 := by rw [index_two, if_neg (fun e => a e.1)]
        rw [if_neg (fun e => a ((int58 x).mp e)), e]
    · rw [if_neg (by omega), List.drop_eq_nil_of_le (by rw [data_len]; omega), index_last, if_pos rfl]
theorem pad_l (b : List Nat) : ∀ (d k : Nat) (a : List Nat), d = 8 - (a.length + b.length) → a.length + b.length ≤ 8 → d + 1 ≤ k →
    flocculusref1_readWords.l0 k (ints a) (ints b) = some (ints (a ++ List.replicate d 0 ++ b), true) := by
  intro d
  induction d with
  | zero =>
    intro k a hd h8 hk
    obtain ⟨k, rfl⟩ : ∃ j, k = j + 1 := ⟨k - 1, by omega⟩
    simp only [flocculusref1_readWords.l0]
    rw [ints_len, ints_len, wrap64_of (by omega) (by omega), if_neg (by omega), if_pos (by omega), ints_append]
    simp
  | succ d ih =>
    intro k a hd h8 hk
    obtain ⟨k, rfl⟩ : ∃ j, k = j + 1 := ⟨k - 1, by omega⟩
    simp only [flocculusref1_readWords.l0]
    rw [ints_len, ints_len, wrap64_of (by omega) (by omega), if_pos (by omega), if_pos (by omega)]
    have := ih k (a ++ [0]) (by rw [List.length_append, List.length_singleton]; omega) (by rw [List.length_append, List.length_singleton]; omega) (by omega)
    rw [show ints a ++ [0] = ints (a ++ [0]) from ints_snoc a 0, this]
    congr 2
    simp [List.replicate_succ]
theorem readWords_is (s : ByteArray) (k : Nat) (hs : s.size < 1000) (hk : 2000 ≤ k) :
    ∃ l, flocculusref1_readWords.f k s = some (l, (wordsX s).isSome) ∧ ∀ ws, wordsX s = some ws → l = ints ws := by
  have hd := double_l s (by omega) s.size 0 k (by omega) (by omega)
  rw [List.drop_zero, show ((0 : Nat) : Int) = 0 from rfl] at hd
  unfold flocculusref1_readWords.f flocculusref1_double.f
  rw [hd, Option.bind_some]
  have hge := Lib.index_ge s.data.toList [58, 58]
  by_cases hi : Lib.index s.data.toList [58, 58] = -1
  · rw [if_pos hi, if_pos (by decide), group_is s k hs (by omega), Option.bind_some]
    have hcut : Lib.cut s.data.toList [58, 58] = (s.data.toList, [], false) := by unfold Lib.cut; rw [hi, if_neg (by decide)]
    unfold wordsX gapL gapR gapB
    rw [hcut]
    have hnil : listX [] = some [] := rfl
    rw [hnil]
    cases hl : listX s.data.toList with
    | none =>
      refine ⟨[], rfl, fun ws h => by cases h⟩
    | some l =>
      simp only [if_true]
      rw [ints_len]
      by_cases h8 : l.length = 8
      · refine ⟨ints l, ?_, ?_⟩
        · simp [h8]
        · intro ws hws
          simp [h8] at hws
          rw [← hws]
      · refine ⟨ints l, ?_, ?_⟩
        · have : ¬ (l.length : Int) = 8 := by omega
          simp [h8, this]
        · intro ws hws
          simp [h8] at hws
  · obtain ⟨i, hii⟩ := Int.eq_ofNat_of_zero_le (show 0 ≤ Lib.index s.data.toList [58, 58] by omega)
    have hroom := Lib.index_room s.data.toList [58, 58] (by omega)
    rw [hii] at hroom
    have hl2 : ([58, 58] : List UInt8).length = 2 := rfl
    rw [hl2, data_len] at hroom
    rw [if_neg hi, hii]
    have e0 : (0 : Int) + ((i : Nat) : Int) = (i : Int) := by omega
    rw [e0, if_neg (by omega), if_pos (by omega), if_pos (by omega)]
    have hw : wrap64 ((i : Int) + 2) = ((i + 2 : Nat) : Int) := by rw [wrap64_of (by omega) (by omega)]; omega
    rw [hw, Int.toNat_natCast, Int.toNat_natCast, extract_ba, extract_ba]
    have hcut : Lib.cut s.data.toList [58, 58] = (s.data.toList.take i, s.data.toList.drop (i + 2), true) := by
      unfold Lib.cut
      rw [hii, if_pos (by omega), Int.toNat_natCast, hl2]
    have et : (s.data.toList.drop 0).take (i - 0) = s.data.toList.take i := by simp
    have edr : (s.data.toList.drop (i + 2)).take (s.size - (i + 2)) = s.data.toList.drop (i + 2) := List.take_of_length_le (by rw [List.length_drop, data_len]; omega)
    have z1 : (ba (s.data.toList.take i)).size < 1000 := by unfold ba; rw [ba_size, List.length_take, data_len]; omega
    have z2 : (ba (s.data.toList.drop (i + 2))).size < 1000 := by unfold ba; rw [ba_size, List.length_drop, data_len]; omega
    rw [et, edr, group_is _ k z1 (by omega), Option.bind_some, if_pos (by omega), if_pos (by omega), group_is _ k z2 (by omega), Option.bind_some, ba_data, ba_data]
    unfold wordsX gapL gapR gapB
    rw [hcut]
    obtain ⟨k, rfl⟩ : ∃ j, k = j + 1 := ⟨k - 1, by omega⟩
    cases hl : listX (s.data.toList.take i) with
    | none =>
      refine ⟨[], ?_, fun ws h => by cases h⟩
      simp only [Bool.false_eq_true, if_false, flocculusref1_readWords.j0]
      rfl
    | some l =>
      simp only [if_true]
      cases hr : listX (s.data.toList.drop (i + 2)) with
      | none =>
        refine ⟨[], ?_, fun ws h => by cases h⟩
        simp only [Bool.false_eq_true, if_false, flocculusref1_readWords.j0]
        rfl
      | some r =>
        have q1 := listX_len hl
        have q2 := listX_len hr
        rw [List.length_take, data_len] at q1
        rw [List.length_drop, data_len] at q2
        simp only [if_true, flocculusref1_readWords.j0]
        rw [ints_len, ints_len, wrap64_of (by omega) (by omega)]
        by_cases h7 : l.length + r.length ≤ 7
        · rw [decide_eq_false (by omega), if_neg Bool.false_ne_true, pad_l r _ k l rfl (by omega) (by omega)]
          refine ⟨ints (l ++ List.replicate (8 - (l.length + r.length)) 0 ++ r), ?_, ?_⟩
          · simp [h7]
          · intro ws hws
            simp only [h7, decide_true, if_true, Option.some.injEq] at hws
            rw [← hws]
        · rw [decide_eq_true (by omega), if_pos rfl]
          refine ⟨[], ?_, ?_⟩
          · simp [h7]
          · intro ws hws
            simp [h7] at hws
theorem wordsX_len {s : ByteArray} {ws : List Nat} (h : wordsX s = some ws) : ws.length = 8 ∧ ∀ v ∈ ws, v < 65536 := by
  unfold wordsX at h
  cases hl : listX (gapL s) with
  | none => rw [hl] at h; cases h
  | some l =>
    cases hr : listX (gapR s) with
    | none => rw [hl, hr] at h; cases h
    | some r =>
      rw [hl, hr] at h
      dsimp only at h
      by_cases hc : (if gapB s = true then decide (l.length + r.length ≤ 7) else decide (l.length + r.length = 8)) = true
      · rw [if_pos hc] at h
        have hn : l.length + r.length ≤ 8 := by
          cases hb : gapB s with
          | true => rw [hb, if_pos rfl, decide_eq_true_eq] at hc; omega
          | false => rw [hb, if_neg Bool.false_ne_true, decide_eq_true_eq] at hc; omega
        cases h
        refine ⟨by simp only [List.length_append, List.length_replicate]; omega, ?_⟩
        intro v hv
        rcases List.mem_append.mp hv with hv | hv
        · rcases List.mem_append.mp hv with hv | hv
          · exact listX_lt hl v hv
          · rw [List.eq_of_mem_replicate hv]; decide
        · exact listX_lt hr v hv
      · rw [if_neg hc] at h; cases h
theorem hiW_lt {ws : List Nat} (h : ws.length = 8) (hb : ∀ v ∈ ws, v < 65536) : hiW ws < 18446744073709551616 ∧ loW ws < 18446744073709551616 := by
  have h1 := foldW_lt 4 (ws.take 4) (by rw [List.length_take]; omega) (fun v hv => hb v (List.mem_of_mem_take hv))
  have h2 := foldW_lt 4 ((ws.drop 4).take 4) (by rw [List.length_take, List.length_drop]; omega) (fun v hv => hb v (List.mem_of_mem_drop (List.mem_of_mem_take hv)))
  exact ⟨h1, h2⟩
theorem fold_l (n : Int) (ws : List Nat) (hl : ws.length = 8) (hb : ∀ v ∈ ws, v < 65536) : ∀ (d i k : Nat), i + d = 4 → d + 200 ≤ k →
    flocculusref1_ReadColons.l0 k n (ints ws) i (foldW (ws.take i) : Int) (foldW ((ws.drop 4).take i) : Int) = cidr_Length.f (hiW ws) (loW ws) n := by
  intro d
  induction d with
  | zero =>
    intro i k hi hk
    obtain ⟨k, rfl⟩ : ∃ j, k = j + 1 := ⟨k - 1, by omega⟩
    obtain rfl : i = 4 := by omega
    obtain ⟨b1, b2⟩ := hiW_lt hl hb
    simp only [flocculusref1_ReadColons.l0]
    rw [if_neg (by omega), show foldW (ws.take 4) = hiW ws from rfl, show foldW ((ws.drop 4).take 4) = loW ws from rfl, whole_same k (hiW ws) (loW ws) n b1 b2 (by omega)]
    cases cidr_Length.f (hiW ws : Int) (loW ws : Int) n with
    | none => rfl
    | some p => rfl
  | succ d ih =>
    intro i k hi hk
    obtain ⟨k, rfl⟩ : ∃ j, k = j + 1 := ⟨k - 1, by omega⟩
    have hw : wrap64 ((i : Int) + 1) = ((i + 1 : Nat) : Int) := by rw [wrap64_of (by omega) (by omega)]; omega
    have hw4 : wrap64 (4 + (i : Int)) = ((4 + i : Nat) : Int) := by rw [wrap64_of (by omega) (by omega)]; omega
    have hv1 : ws[i] < 65536 := hb _ (List.getElem_mem (by omega))
    have hv2 : ws[4 + i] < 65536 := hb _ (List.getElem_mem (by omega))
    have ha := foldW_lt i (ws.take i) (by rw [List.length_take]; omega) (fun v hv => hb v (List.mem_of_mem_take hv))
    have hc := foldW_lt i ((ws.drop 4).take i) (by rw [List.length_take, List.length_drop]; omega) (fun v hv => hb v (List.mem_of_mem_drop (List.mem_of_mem_take hv)))
    simp only [flocculusref1_ReadColons.l0]
    rw [ints_len, if_pos (by omega), if_pos (by omega), if_pos (by omega), hw4, if_pos (by omega), if_pos (by omega), rd_ints ws i (by omega), rd_ints ws (4 + i) (by omega), hw,
      u64_small (n := (ws[i] : Int)) (by omega) (by omega), u64_small (n := (ws[4 + i] : Int)) (by omega) (by omega), stepW _ _ i ha (by omega) hv1, stepW _ _ i hc (by omega) hv2]
    have IH := ih (i + 1) k (by omega) (by omega)
    rw [List.take_succ_eq_append_getElem (by omega), foldW_snoc, List.take_succ_eq_append_getElem (by rw [List.length_drop]; omega), foldW_snoc, List.getElem_drop] at IH
    exact IH
theorem readC_eq (s : ByteArray) : readC s = match wordsX (leftB s) with | some ws => if (okB s && (true && numB (rightB s).data.toList 128)) = true then cidr_Length.f (hiW ws) (loW ws) (numV (rightB s).data.toList) else some (0, 0, 0, 2) | none => some (0, 0, 0, 2) := by
  unfold readC addrX
  cases wordsX (leftB s) with
  | none => simp
  | some ws => rfl
/-- The two readers are one. -/
theorem readC_same (s : ByteArray) (k : Nat) (hs : s.size < 1000) (hk : 3000 ≤ k) : flocculusref1_ReadColons.f k s = readC s := by
  unfold flocculusref1_ReadColons.f
  have hsp := ref_split s 47 k (by omega) (by omega)
  rw [show (((47 : UInt8).toNat : Nat) : Int) = 47 from rfl] at hsp
  rw [hsp, Option.bind_some]
  rw [readC_eq]
  by_cases hm : (47 : UInt8) ∈ s.data.toList
  · obtain ⟨a, b, hab, ha⟩ := List.eq_append_cons_of_mem hm
    have hcut := cut_at 47 a b ha
    rw [← hab] at hcut
    have hl : leftB s = ba a := by unfold leftB ba; rw [hcut]
    have hr : rightB s = ba b := by unfold rightB ba; rw [hcut]
    have ho : okB s = true := by unfold okB; rw [hcut]
    have hlen : a.length + b.length + 1 = s.size := by
      have := congrArg List.length hab
      rw [data_len, List.length_append, List.length_cons] at this
      omega
    rw [hl, hr, ho, Bool.true_and, ba_data, hab, cutAt_at 47 b a ha]
    have hza : (ba a).size < 1000 := by unfold ba; rw [ba_size]; omega
    by_cases hb : (47 : UInt8) ∈ b
    · have hc := cutAt_length 47 b
      have hpos : 0 < b.count 47 := List.count_pos_iff.mpr hb
      have hnb : numB b 128 = false := by
        cases h : numB b 128 with
        | false => rfl
        | true =>
          have := List.all_eq_true.mp (numB_digits b 128 (by omega) h) _ hb
          exact absurd this (by decide)
      rw [if_neg (by rw [List.length_map, List.length_cons]; omega), hnb]
      cases wordsX (ba a) with
      | none => rfl
      | some ws => rfl
    · rw [cutAt_none 47 b hb]
      simp only [List.map_cons, List.map_nil]
      have e1 : rdOf ByteArray.empty [ba a, ba b] 1 = ba b := rfl
      have e0 : rdOf ByteArray.empty [ba a, ba b] 0 = ba a := rfl
      obtain ⟨l, hl1, hl2⟩ := readWords_is (ba a) k hza (by omega)
      rw [if_pos (show (([ba a, ba b].length : Nat) : Int) = 2 from rfl), if_pos (show 1 < (([ba a, ba b].length : Nat) : Int) by simp), e1, e0, ref_number k _ _ (by omega), Option.bind_some, if_pos (show 0 < (([ba a, ba b].length : Nat) : Int) by simp), ba_data, hl1, Option.bind_some, num_same b 128 (by omega) (by omega)]
      obtain ⟨k, rfl⟩ : ∃ j, k = j + 1 := ⟨k - 1, by omega⟩
      by_cases hnb : numB b 128 = true
      · rw [if_pos hnb, hnb, Bool.and_true]
        obtain ⟨v0, v1⟩ := numV_range _ _ hnb
        rw [if_neg (by omega)]
        simp only [flocculusref1_ReadColons.j0]
        cases hws : wordsX (ba a) with
        | none =>
          simp only [Option.isSome_none]
          rfl
        | some ws =>
          obtain ⟨h8, hlt⟩ := wordsX_len hws
          rw [hl2 ws hws]
          simp only [Option.isSome_some]
          rw [if_neg (by decide), if_pos trivial]
          have := fold_l (numV b) ws h8 hlt 4 0 k (by omega) (by omega)
          rw [List.take_zero, List.take_zero, show ((0 : Nat) : Int) = 0 from rfl, show ((foldW [] : Nat) : Int) = 0 from rfl] at this
          exact this
      · have hnb' : numB b 128 = false := Bool.eq_false_iff.mpr hnb
        rw [if_neg hnb, if_pos (by decide), hnb']
        simp only [flocculusref1_ReadColons.j0]
        cases wordsX (ba a) with
        | none => rfl
        | some ws => rfl
  · have hcut := cut_no 47 s.data.toList hm
    have ho : okB s = false := by unfold okB; rw [hcut]
    rw [cutAt_none 47 _ hm, ho]
    cases wordsX (leftB s) with
    | none => rfl
    | some ws => rfl
end Go.Proofs.YtjhlgfafjjmooaaDoor.Dot
