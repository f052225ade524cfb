/- A number in decimal: the code's and the document's. Plain. -/
import Derived.Test.YtjhlgfafjjmooaaDoorPlCut
import Derived.Test.YtjhlgfafjjmooaaDoorDot
namespace Go.Proofs.YtjhlgfafjjmooaaDoor.Dot
open Go.RowKit Go.Proofs.YtjhlgfafjjmooaaDoor.PCidrTells Go.Proofs.YtjhlgfafjjmooaaDoorW.PrintWords Go.Proofs.YtjhlgfafjjmooaaDoorW.PrintLast Go.Proofs.YtjhlgfafjjmooaaDoorW.PrintMore

def dig (b : UInt8) : Bool := decide (48 ≤ b.toNat) && decide (b.toNat ≤ 57)
def valN : List UInt8 → Nat → Nat
  | [], n => n
  | b :: l, n => valN l (10 * n + (b.toNat - 48))
/-- What the document's number answers. -/
def numR (l : List UInt8) (most : Int) : Int :=
  if l.length < 1 then -1 else if 3 < l.length then -1 else if (l.head? = some 48 ∧ 1 < l.length) then -1
  else if l.all dig = true then (if most < (valN l 0 : Int) then -1 else (valN l 0 : Int)) else -1
theorem bt_list (s : ByteArray) (i : Nat) (h : i < s.size) : bt s (i : Int) = ((s.data.toList[i]'(by rw [Array.length_toList]; exact h)).toNat : Int) := by
  unfold bt
  rw [dif_pos (by simpa using h)]
  simp [ByteArray.getElem_eq_getElem_data]
theorem data_len (s : ByteArray) : s.data.toList.length = s.size := Array.length_toList
theorem valN_le : ∀ (l : List UInt8) (n : Nat), l.all dig = true → valN l n + 1 ≤ (n + 1) * 10 ^ l.length
  | [], n, _ => by simp [valN]
  | b :: l, n, h => by
    rw [List.all_cons, Bool.and_eq_true] at h
    have hb := h.1
    unfold dig at hb
    simp only [Bool.and_eq_true, decide_eq_true_eq] at hb
    have := valN_le l (10 * n + (b.toNat - 48)) h.2
    simp only [valN, List.length_cons]
    refine Nat.le_trans this ?_
    rw [Nat.pow_succ, Nat.mul_comm _ 10, ← Nat.mul_assoc]
    exact Nat.mul_le_mul_right _ (by omega)
theorem ref_number_l (s : ByteArray) (most : Int) (hs : s.size ≤ 3) : ∀ (d i k : Nat) (acc : Nat), i + d = s.size → d + 1 ≤ k → acc + 1 ≤ 10 ^ i →
    flocculusref1_number.l0 k s most acc i = some (if (s.data.toList.drop i).all dig = true then (if most < (valN (s.data.toList.drop i) acc : Int) then -1 else (valN (s.data.toList.drop i) acc : Int)) else -1) := by
  intro d
  induction d with
  | zero =>
    intro i k acc hi hk ha
    obtain ⟨k, rfl⟩ : ∃ j, k = j + 1 := ⟨k - 1, by omega⟩
    simp only [flocculusref1_number.l0]
    rw [if_neg (by omega), List.drop_eq_nil_of_le (by rw [data_len]; omega)]
    rw [List.all_nil, if_pos rfl]
    show _ = some (if most < (acc : Int) then -1 else (acc : Int))
    by_cases h : most < (acc : Int)
    · rw [if_pos h, if_pos (show (acc : Int) > most from h)]
    · rw [if_neg h, if_neg (show ¬ (acc : Int) > most from h)]
  | succ d ih =>
    intro i k acc hi hk ha
    obtain ⟨k, rfl⟩ : ∃ j, k = j + 1 := ⟨k - 1, by omega⟩
    have hlt : i < s.size := by omega
    have hll : i < s.data.toList.length := by rw [data_len]; exact hlt
    simp only [flocculusref1_number.l0]
    rw [if_pos (by omega), if_pos (by omega), bt_list s i hlt, List.drop_eq_getElem_cons hll, List.all_cons]
    generalize s.data.toList[i] = b
    have hb : b.toNat < 256 := b.toNat_lt
    have hp : 10 ^ i ≤ 1000 := Nat.le_trans (Nat.pow_le_pow_right (by decide) (show i ≤ 3 by omega)) (by decide)
    by_cases h1 : b.toNat < 48
    · rw [if_pos (by omega)]
      have : dig b = false := by unfold dig; rw [decide_eq_false (by omega)]; rfl
      rw [this]
      rfl
    · rw [if_neg (by omega)]
      by_cases h2 : b.toNat > 57
      · rw [if_pos (by omega)]
        have : dig b = false := by unfold dig; rw [decide_eq_false (show ¬ b.toNat ≤ 57 by omega), Bool.and_false]
        rw [this]
        rfl
      · rw [if_neg (by omega)]
        have hd : dig b = true := by unfold dig; rw [decide_eq_true (show b.toNat ≤ 57 by omega), decide_eq_true (show 48 ≤ b.toNat by omega)]; rfl
        have e1 : wrap64 ((wrap64 (10 * (acc : Int))) + (((b.toNat : Int) - 48) % 256)) = ((10 * acc + (b.toNat - 48) : Nat) : Int) := by
          rw [wrap64_of (n := 10 * (acc : Int)) (by omega) (by omega), wrap64_of (by omega) (by omega)]
          omega
        have e2 : wrap64 ((i : Int) + 1) = ((i + 1 : Nat) : Int) := by rw [wrap64_of (by omega) (by omega)]; omega
        rw [e1, e2, ih (i + 1) k _ (by omega) (by omega) (by rw [Nat.pow_succ]; omega), hd, Bool.true_and]
        rfl
theorem bt_zero (s : ByteArray) (h : 0 < s.size) : (bt s 0 = 48) ↔ s.data.toList.head? = some 48 := by
  have hl : 0 < s.data.toList.length := by rw [data_len]; exact h
  have e : bt s 0 = (s.data.toList[0].toNat : Int) := bt_list s 0 h
  rw [e, List.head?_eq_getElem?, List.getElem?_eq_getElem hl, Option.some.injEq]
  generalize s.data.toList[0] = b
  constructor
  · intro e
    have : b.toNat = 48 := by omega
    exact UInt8.toNat_inj.mp this
  · intro e; rw [e]; rfl
theorem ref_number (k : Nat) (s : ByteArray) (most : Int) (hk : 5 ≤ k) : flocculusref1_number.f k s most = some (numR s.data.toList most) := by
  obtain ⟨k, rfl⟩ : ∃ j, k = j + 1 := ⟨k - 1, by omega⟩
  unfold flocculusref1_number.f numR
  rw [data_len]
  by_cases h1 : s.size < 1
  · rw [if_pos (by omega), if_pos h1]
    simp only [flocculusref1_number.j0, if_true]
  rw [if_neg (by omega), if_neg h1]
  by_cases h2 : 3 < s.size
  · rw [if_pos (by omega), if_pos h2]
    simp only [flocculusref1_number.j0, if_true]
  rw [if_neg (by omega), if_neg h2, if_pos (by omega)]
  have hL := ref_number_l s most (by omega) s.size 0 k 0 (by omega) (by omega) (by simp)
  rw [List.drop_zero] at hL
  by_cases h3 : bt s 0 = 48
  · rw [if_pos h3]
    have h3' := (bt_zero s (by omega)).mp h3
    by_cases h4 : 1 < s.size
    · rw [if_pos ⟨h3', h4⟩, decide_eq_true (by omega)]
      simp only [flocculusref1_number.j0, if_true]
    · rw [if_neg (fun h => h4 h.2), decide_eq_false (by omega)]
      simp only [flocculusref1_number.j0, Bool.false_eq_true, if_false]
      exact hL
  · rw [if_neg h3, if_neg (fun h => h3 ((bt_zero s (by omega)).mpr h.1))]
    simp only [flocculusref1_number.j0, Bool.false_eq_true, if_false]
    exact hL
def digs : List UInt8 := [48, 49, 50, 51, 52, 53, 54, 55, 56, 57]
theorem dig_mem (b : UInt8) (h : dig b = true) : b ∈ digs := by
  unfold dig at h
  simp only [Bool.and_eq_true, decide_eq_true_eq] at h
  have key : (List.range 58).all (fun n => decide (n < 48) || digs.contains (UInt8.ofNat n)) = true := by kernel_rfl
  have := List.all_eq_true.mp key b.toNat (List.mem_range.mpr (by omega))
  rw [Bool.or_eq_true] at this
  rcases this with h2 | h2
  · have := of_decide_eq_true h2; omega
  · rw [UInt8.ofNat_toNat] at h2
    exact List.contains_iff_mem.mp h2
def chk (l : List UInt8) : Bool := (Lib.itoa (valN l 0) == l) && (match Lib.atoiAll l with | .ok v => v == (valN l 0 : Int) | _ => false)
theorem key1 : (digs.all fun a => chk [a]) = true := by kernel_rfl
theorem key2 : (digs.all fun a => digs.all fun b => a == 48 || chk [a, b]) = true := by kernel_rfl
set_option maxRecDepth 20000 in
theorem key3 : (digs.all fun a => digs.all fun b => digs.all fun c => a == 48 || chk [a, b, c]) = true := by kernel_rfl
theorem chk_of {l : List UInt8} (h : chk l = true) : Lib.atoiAll l = .ok (valN l 0 : Int) ∧ Lib.itoa (valN l 0) = l := by
  unfold chk at h
  rw [Bool.and_eq_true] at h
  refine ⟨?_, by simpa using h.1⟩
  have h2 := h.2
  split at h2
  · rename_i v hv
    rw [hv]
    have : v = (valN l 0 : Int) := by simpa using h2
    rw [this]
  · cases h2
theorem digits_read (l : List UInt8) (h1 : ¬ l.length < 1) (h2 : ¬ 3 < l.length) (h3 : ¬ (l.head? = some 48 ∧ 1 < l.length)) (h4 : l.all dig = true) : Lib.atoiAll l = .ok (valN l 0 : Int) ∧ Lib.itoa (valN l 0) = l := by
  match l, h1, h2, h3, h4 with
  | [], h1, _, _, _ => exact absurd h1 (by simp)
  | [a], _, _, _, h4 =>
    simp only [List.all_cons, List.all_nil, Bool.and_true] at h4
    exact chk_of (List.all_eq_true.mp key1 a (dig_mem a h4))
  | [a, b], _, _, h3, h4 =>
    simp only [List.all_cons, List.all_nil, Bool.and_true, Bool.and_eq_true] at h4
    have := List.all_eq_true.mp (List.all_eq_true.mp key2 a (dig_mem a h4.1)) b (dig_mem b h4.2)
    rw [Bool.or_eq_true] at this
    rcases this with h | h
    · exact absurd ⟨by simpa using h, by simp⟩ h3
    · exact chk_of h
  | [a, b, c], _, _, h3, h4 =>
    simp only [List.all_cons, List.all_nil, Bool.and_true, Bool.and_eq_true] at h4
    have := List.all_eq_true.mp (List.all_eq_true.mp (List.all_eq_true.mp key3 a (dig_mem a h4.1)) b (dig_mem b h4.2.1)) c (dig_mem c h4.2.2)
    rw [Bool.or_eq_true] at this
    rcases this with h | h
    · exact absurd ⟨by simpa using h, by simp⟩ h3
    · exact chk_of h
  | a :: b :: c :: d :: l, _, h2, _, _ => exact absurd (by simp only [List.length_cons]; omega) h2
def chkI (n : Nat) : Bool :=
  let l := Lib.itoa (n : Int)
  decide (1 ≤ l.length) && (decide (l.length ≤ 3) && (decide (¬ (l.head? = some 48 ∧ 1 < l.length)) && (l.all dig && (valN l 0 == n))))
set_option maxRecDepth 20000 in
theorem keyI : ((List.range 1000).all chkI) = true := by kernel_rfl
theorem itoa_facts (n : Nat) (h : n < 1000) : 1 ≤ (Lib.itoa n).length ∧ (Lib.itoa n).length ≤ 3 ∧ ¬ ((Lib.itoa n).head? = some 48 ∧ 1 < (Lib.itoa n).length) ∧ (Lib.itoa n).all dig = true ∧ valN (Lib.itoa n) 0 = n := by
  have := List.all_eq_true.mp keyI n (List.mem_range.mpr h)
  unfold chkI at this
  simp only [Bool.and_eq_true, decide_eq_true_eq, beq_iff_eq] at this
  exact this
/-- The two are one. -/
theorem num_same (l : List UInt8) (most : Int) (h0 : 0 ≤ most) (h1 : most < 1000) : numR l most = if numB l most = true then numV l else -1 := by
  by_cases hb : numB l most = true
  · rw [if_pos hb]
    unfold numB at hb
    unfold numV
    split at hb
    · rename_i v hv
      rw [hv]
      simp only [Bool.and_eq_true, decide_eq_true_eq] at hb
      obtain ⟨v0, v1, v2⟩ := hb
      obtain ⟨n, rfl⟩ := Int.eq_ofNat_of_zero_le v0
      obtain ⟨a1, a2, a3, a4, a5⟩ := itoa_facts n (by omega)
      rw [v2] at a1 a2 a3 a4 a5
      unfold numR
      rw [if_neg (by omega), if_neg (by omega), if_neg a3, if_pos a4, a5, if_neg (by omega)]
    · cases hb
  · rw [if_neg hb]
    unfold numR
    by_cases h1 : l.length < 1
    · rw [if_pos h1]
    rw [if_neg h1]
    by_cases h2 : 3 < l.length
    · rw [if_pos h2]
    rw [if_neg h2]
    by_cases h3 : (l.head? = some 48 ∧ 1 < l.length)
    · rw [if_pos h3]
    rw [if_neg h3]
    by_cases h4 : l.all dig = true
    · rw [if_pos h4]
      by_cases h5 : most < (valN l 0 : Int)
      · rw [if_pos h5]
      · exfalso
        apply hb
        obtain ⟨c1, c2⟩ := digits_read l h1 h2 h3 h4
        unfold numB
        rw [c1]
        simp only [Bool.and_eq_true, decide_eq_true_eq]
        exact ⟨by omega, by omega, c2⟩
    · rw [if_neg h4]
theorem numV_range (l : List UInt8) (most : Int) (h : numB l most = true) : 0 ≤ numV l ∧ numV l ≤ most := by
  unfold numB at h
  unfold numV
  split at h
  · rename_i v hv
    rw [hv]
    simp only [Bool.and_eq_true, decide_eq_true_eq] at h
    exact ⟨h.1, h.2.1⟩
  · cases h
theorem numB_itoa (n : Nat) (most : Int) (h : (n : Int) ≤ most) (h1 : n < 1000) : numB (Lib.itoa n) most = true ∧ numV (Lib.itoa n) = n := by
  obtain ⟨a1, a2, a3, a4, a5⟩ := itoa_facts n h1
  obtain ⟨c1, c2⟩ := digits_read _ (by omega) (by omega) a3 a4
  unfold numB numV
  rw [c1, a5]
  simp only [Bool.and_eq_true, decide_eq_true_eq]
  exact ⟨⟨by omega, h, trivial⟩, trivial⟩
/-- A number's text has digits alone. -/
theorem numB_digits (l : List UInt8) (most : Int) (h1 : most < 1000) (h : numB l most = true) : l.all dig = true := by
  unfold numB at h
  split at h
  · rename_i v hv
    simp only [Bool.and_eq_true, decide_eq_true_eq] at h
    obtain ⟨v0, v1, v2⟩ := h
    obtain ⟨n, rfl⟩ := Int.eq_ofNat_of_zero_le v0
    have := (itoa_facts n (by omega)).2.2.2.1
    rw [v2] at this
    exact this
  · cases h
end Go.Proofs.YtjhlgfafjjmooaaDoor.Dot
