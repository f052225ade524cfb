/- Texts cut at a byte: the code's and the document's. Plain. Small laws on texts and numbers. Plain. -/
import Derived.Test.YtjhlgfafjjmooaaDoorPlNum
import Derived.Lib.SplitLaws
namespace Go.Proofs.YtjhlgfafjjmooaaDoor.Dot
open Go.RowKit Go.Proofs.YtjhlgfafjjmooaaDoor.PCidrTells Go.Proofs.YtjhlgfafjjmooaaDoorW.PrintWords Go.Proofs.YtjhlgfafjjmooaaDoorW.PrintLast Go.Proofs.YtjhlgfafjjmooaaDoorW.PrintMore

/-- The pieces of a text between the bytes c. -/
def cutAt (c : UInt8) : List UInt8 → List (List UInt8)
  | [] => [[]]
  | b :: l => if b = c then [] :: cutAt c l else match cutAt c l with | x :: xs => (b :: x) :: xs | [] => [[b]]
def ba (l : List UInt8) : ByteArray := ⟨l.toArray⟩
theorem ba_data (l : List UInt8) : (ba l).data.toList = l := rfl
theorem ba_of (s : ByteArray) : ba s.data.toList = s := rfl
theorem cutAt_none (c : UInt8) : ∀ l : List UInt8, c ∉ l → cutAt c l = [l]
  | [], _ => rfl
  | b :: l, h => by
    have h1 : b ≠ c := fun e => h (by rw [e]; exact List.mem_cons_self ..)
    have h2 : c ∉ l := fun e => h (List.mem_cons_of_mem _ e)
    simp only [cutAt, if_neg h1, cutAt_none c l h2]
theorem cutAt_at (c : UInt8) (b : List UInt8) : ∀ a : List UInt8, c ∉ a → cutAt c (a ++ c :: b) = a :: cutAt c b
  | [], _ => by simp [cutAt]
  | x :: a, h => by
    have h1 : x ≠ c := fun e => h (by rw [e]; exact List.mem_cons_self ..)
    have h2 : c ∉ a := fun e => h (List.mem_cons_of_mem _ e)
    simp only [List.cons_append, cutAt, if_neg h1, cutAt_at c b a h2]
theorem cutAt_ne (c : UInt8) (l : List UInt8) : cutAt c l ≠ [] := by
  cases l with
  | nil => simp [cutAt]
  | cons b l =>
    simp only [cutAt]
    split
    · simp
    · split <;> simp
theorem cutAt_length (c : UInt8) : ∀ l : List UInt8, (cutAt c l).length = l.count c + 1
  | [] => rfl
  | b :: l => by
    simp only [cutAt]
    by_cases h : b = c
    · rw [if_pos h, List.length_cons, cutAt_length c l, h, List.count_cons_self]
    · rw [if_neg h, List.count_cons_of_ne h]
      have := cutAt_length c l
      split
      · rename_i x xs hx; rw [hx] at this; simpa using this
      · rename_i hx; exact absurd hx (cutAt_ne c l)
theorem indexByte_at (c : UInt8) (b : List UInt8) : ∀ a : List UInt8, c ∉ a → Lib.indexByte (a ++ c :: b) c = a.length
  | [], _ => by simp [Lib.indexByte]
  | x :: a, h => by
    have h1 : ¬ (x == c) = true := fun e => h (by rw [beq_iff_eq.mp e]; exact List.mem_cons_self ..)
    have h2 : c ∉ a := fun e => h (List.mem_cons_of_mem _ e)
    have ih := indexByte_at c b a h2
    rw [List.cons_append, Lib.indexByte, if_neg h1, ih, if_neg (by simp only [beq_iff_eq]; omega), List.length_cons]
    omega
theorem indexByte_no (c : UInt8) : ∀ a : List UInt8, c ∉ a → Lib.indexByte a c = -1
  | [], _ => rfl
  | x :: a, h => by
    have h1 : ¬ (x == c) = true := fun e => h (by rw [beq_iff_eq.mp e]; exact List.mem_cons_self ..)
    have h2 : c ∉ a := fun e => h (List.mem_cons_of_mem _ e)
    rw [Lib.indexByte, if_neg h1, indexByte_no c a h2]
    rfl
/-- Cut of the library. -/
theorem cut_at (c : UInt8) (a b : List UInt8) (h : c ∉ a) : Lib.cut (a ++ c :: b) [c] = (a, b, true) := by
  unfold Lib.cut
  rw [Lib.index_one, indexByte_at c b a h, if_pos (by omega)]
  have e : (a.length : Int).toNat = a.length := by omega
  rw [e, List.take_left, List.length_singleton]
  have : (a ++ c :: b).drop (a.length + 1) = b := by
    rw [show a ++ c :: b = (a ++ [c]) ++ b by simp, show a.length + 1 = (a ++ [c]).length by simp, List.drop_left]
  rw [this]
theorem cut_no (c : UInt8) (a : List UInt8) (h : c ∉ a) : Lib.cut a [c] = (a, [], false) := by
  unfold Lib.cut
  rw [Lib.index_one, indexByte_no c a h, if_neg (by decide)]
/-- Split of the library. -/
theorem splitK_same (c : UInt8) : ∀ (n : Nat) (l : List UInt8), l.count c = n → Lib.splitK [c] 0 n l = cutAt c l
  | 0, l, h => by
    rw [cutAt_none c l (List.count_eq_zero.mp h)]
    rfl
  | n + 1, l, h => by
    have hm : c ∈ l := List.count_pos_iff.mp (by omega)
    obtain ⟨a, b, rfl, ha⟩ := List.eq_append_cons_of_mem hm
    have hb : b.count c = n := by
      rw [List.count_append, List.count_cons_self, List.count_eq_zero.mpr ha] at h
      omega
    unfold Lib.splitK
    rw [Lib.index_one, indexByte_at c b a ha, if_neg (by simp only [beq_iff_eq]; omega), cutAt_at c b a ha]
    have e : (a.length : Int).toNat = a.length := by omega
    rw [e, Nat.add_zero, List.take_left, List.length_singleton]
    have : (a ++ c :: b).drop (a.length + 1) = b := by
      rw [show a ++ c :: b = (a ++ [c]) ++ b by simp, show a.length + 1 = (a ++ [c]).length by simp, List.drop_left]
    rw [this, splitK_same c n b hb]
theorem splitB_same (c : UInt8) (s : ByteArray) : Lib.splitB ⟨#[c]⟩ 0 (Lib.countB s ⟨#[c]⟩) s = (cutAt c s.data.toList).map ba := by
  have h := Lib.splitB_data ⟨#[c]⟩ 0 (Lib.countB s ⟨#[c]⟩) s
  have e1 : (⟨#[c]⟩ : ByteArray).data.toList = [c] := rfl
  rw [e1, splitK_same c _ _ (Lib.count_one c s.data.toList).symm] at h
  have h2 := congrArg (List.map ba) h
  rw [List.map_map] at h2
  have e2 : (ba ∘ fun x : ByteArray => x.data.toList) = id := by funext x; exact ba_of x
  rw [e2, List.map_id] at h2
  exact h2
/-- The document's split. -/
theorem extract_ba (s : ByteArray) (i j : Nat) : s.extract i j = ba ((s.data.toList.drop i).take (j - i)) := by
  rw [← ba_of (s.extract i j)]
  congr 1
  simp [ByteArray.data_extract, Array.toList_extract]
theorem ref_split_l (s : ByteArray) (c : UInt8) (hs : s.size < 1000000) : ∀ (d from_ i k : Nat) (xs : List ByteArray), i + d = s.size + 1 → from_ ≤ i → xs.length ≤ i → d + 1 ≤ k → c ∉ (s.data.toList.drop from_).take (i - from_) →
    (i = s.size + 1 → from_ = s.size + 1) →
    flocculusref1_split.l0 k s c.toNat xs from_ i = some (xs ++ (if i = s.size + 1 then [] else (cutAt c (s.data.toList.drop from_)).map ba)) := by
  intro d
  induction d with
  | zero =>
    intro from_ i k xs hi hf hx hk _ _
    obtain ⟨k, rfl⟩ : ∃ j, k = j + 1 := ⟨k - 1, by omega⟩
    simp only [flocculusref1_split.l0]
    rw [if_neg (by omega), if_pos (by omega), List.append_nil]
  | succ d ih =>
    intro from_ i k xs hi hf hx hk hn _
    obtain ⟨k, rfl⟩ : ∃ j, k = j + 1 := ⟨k - 1, by omega⟩
    have hw : wrap64 ((i : Int) + 1) = ((i + 1 : Nat) : Int) := by rw [wrap64_of (by omega) (by omega)]; omega
    simp only [flocculusref1_split.l0]
    rw [if_pos (by omega), hw, if_neg (show ¬ i = s.size + 1 by omega)]
    have ef : ((from_ : Int)).toNat = from_ := by omega
    have ei : ((i : Int)).toNat = i := by omega
    rw [ef, ei, extract_ba]
    by_cases h1 : i = s.size
    · rw [if_pos (by omega), if_pos (by omega), if_pos (by omega), if_pos (by omega)]
      rw [ih (i + 1) (i + 1) k _ (by omega) (by omega) (by rw [List.length_append, List.length_singleton]; omega) (by omega) (by simp) (by omega)]
      have e : (s.data.toList.drop from_).take (i - from_) = s.data.toList.drop from_ := List.take_of_length_le (by rw [List.length_drop, data_len]; omega)
      rw [e] at hn ⊢
      rw [if_pos (by omega), cutAt_none c _ hn]
      simp
    · have hlt : i < s.size := by omega
      have hll : i < s.data.toList.length := by rw [data_len]; exact hlt
      rw [if_neg (by omega), if_pos (by omega), if_pos (by omega), bt_list s i hlt]
      have hd : s.data.toList.drop from_ = (s.data.toList.drop from_).take (i - from_) ++ s.data.toList[i] :: s.data.toList.drop (i + 1) := by
        have h2 := (List.take_append_drop (i - from_) (s.data.toList.drop from_)).symm
        rw [List.drop_drop, show from_ + (i - from_) = i by omega, List.drop_eq_getElem_cons hll] at h2
        exact h2
      by_cases h2 : (s.data.toList[i].toNat : Int) = (c.toNat : Int)
      · have h2' : s.data.toList[i] = c := UInt8.toNat_inj.mp (by omega)
        rw [if_pos h2, if_pos (by omega), if_pos (by omega), if_pos (by omega)]
        rw [ih (i + 1) (i + 1) k _ (by omega) (by omega) (by rw [List.length_append, List.length_singleton]; omega) (by omega) (by simp) (by omega)]
        rw [if_neg (by omega)]
        rw [h2'] at hd
        have hd2 := congrArg (cutAt c) hd
        rw [cutAt_at c _ _ hn] at hd2
        rw [hd2]
        simp
      · have h2' : s.data.toList[i] ≠ c := fun e => h2 (by rw [e])
        rw [if_neg h2]
        have hn2 : c ∉ (s.data.toList.drop from_).take (i + 1 - from_) := by
          have e : (s.data.toList.drop from_).take (i + 1 - from_) = (s.data.toList.drop from_).take (i - from_) ++ [s.data.toList[i]] := by
            rw [show i + 1 - from_ = (i - from_) + 1 by omega, List.take_add_one]
            congr 1
            rw [List.getElem?_drop, show from_ + (i - from_) = i by omega, List.getElem?_eq_getElem hll]
            rfl
          rw [e, List.mem_append]
          rintro (h | h)
          · exact hn h
          · simp only [List.mem_singleton] at h
            exact h2' h.symm
        rw [ih from_ (i + 1) k xs (by omega) (by omega) (by omega) (by omega) hn2 (by omega), if_neg (by omega)]
theorem ref_split (s : ByteArray) (c : UInt8) (k : Nat) (hs : s.size < 1000000) (hk : s.size + 2 ≤ k) : flocculusref1_split.f k s c.toNat = some ((cutAt c s.data.toList).map ba) := by
  unfold flocculusref1_split.f
  have := ref_split_l s c hs (s.size + 1) 0 0 k [] (by omega) (by omega) (by simp) (by omega) (by simp) (by omega)
  rw [List.drop_zero, List.nil_append, if_neg (by omega)] at this
  exact this


theorem cat_list (a b : ByteArray) : (a ++ b).data.toList = a.data.toList ++ b.data.toList := by simp [ByteArray.data_append]
theorem ba_ext {a b : ByteArray} (h : a.data.toList = b.data.toList) : a = b := by rw [← ba_of a, h, ba_of]
theorem wf_u64 {x : Int} (h : (Lit.int .u64 x).wf = true) : 0 ≤ x ∧ x < 18446744073709551616 := by simp [Lit.wf, IntKind.min, IntKind.max, IntKind.signed, IntKind.bits] at h; omega
theorem wf_i64 {x : Int} (h : (Lit.int .i64 x).wf = true) : -9223372036854775808 ≤ x ∧ x ≤ 9223372036854775807 := by simp [Lit.wf, IntKind.min, IntKind.max, IntKind.signed, IntKind.bits] at h; omega
end Go.Proofs.YtjhlgfafjjmooaaDoor.Dot
