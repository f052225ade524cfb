/- A number in base 16, read: the code's. Plain. -/
import Derived.Test.YtjhlgfafjjmooaaDoorPlSplit
import Derived.Test.YtjhlgfafjjmooaaDoorColF
namespace Go.Proofs.YtjhlgfafjjmooaaDoor.Dot
open Go.RowKit Go.Proofs.YtjhlgfafjjmooaaDoor.PCidrTells Go.Proofs.YtjhlgfafjjmooaaDoorW.PrintWords Go.Proofs.YtjhlgfafjjmooaaDoorW.PrintLast Go.Proofs.YtjhlgfafjjmooaaDoorW.PrintMore

/-- A digit of base 16. -/
def hdig (b : UInt8) : Option Nat :=
  if 48 ≤ b.toNat ∧ b.toNat ≤ 57 then some (b.toNat - 48) else if 97 ≤ b.toNat ∧ b.toNat ≤ 102 then some (b.toNat - 87)
  else if 65 ≤ b.toNat ∧ b.toNat ≤ 70 then some (b.toNat - 55) else none
def accX : List UInt8 → Nat → Option Nat
  | [], a => some a
  | b :: l, a => match hdig b with | none => none | some d => accX l ((a * 16 + d) % 18446744073709551616)
/-- One to four digits. -/
def numX (l : List UInt8) : Option Nat := if 1 ≤ l.length ∧ l.length ≤ 4 then accX l 0 else none
theorem hdig_lt {b : UInt8} {d : Nat} (h : hdig b = some d) : d < 16 := by
  unfold hdig at h
  split at h
  · cases h; omega
  · split at h
    · cases h; omega
    · split at h
      · cases h; omega
      · cases h
theorem accX_lt : ∀ (l : List UInt8) (a v : Nat), accX l a = some v → a < 16 ^ (4 - l.length) → l.length ≤ 4 → v < 65536
  | [], a, v, h, ha, _ => by
    cases h
    simpa using ha
  | b :: l, a, v, h, ha, hl => by
    simp only [accX] at h
    simp only [List.length_cons] at ha hl
    split at h
    · cases h
    · rename_i d hd
      have hd16 := hdig_lt hd
      have hp : 16 ^ (4 - l.length) = 16 ^ (4 - (l.length + 1)) * 16 := by rw [show 4 - l.length = (4 - (l.length + 1)) + 1 by omega, Nat.pow_succ]
      have hp4 : 16 ^ (4 - l.length) ≤ 65536 := Nat.le_trans (Nat.pow_le_pow_right (show 0 < 16 by decide) (show 4 - l.length ≤ 4 by omega)) (by decide)
      have hlt : a * 16 + d < 16 ^ (4 - l.length) := by rw [hp]; omega
      rw [Nat.mod_eq_of_lt (by omega)] at h
      exact accX_lt l _ v h hlt (by omega)
theorem numX_lt {l : List UInt8} {v : Nat} (h : numX l = some v) : v < 65536 := by
  unfold numX at h
  split at h
  · rename_i hl
    refine accX_lt l 0 v h (Nat.pow_pos (by decide)) hl.2
  · cases h
theorem step_dec (a x : Nat) (hx : 48 ≤ x) (hx2 : x < 256) : IntKind.u64.wrap ((IntKind.u64.wrap ((a : Int) * 16)) + (((x : Int) - 48) % 256)) = (((a * 16 + (x - 48)) % 18446744073709551616 : Nat) : Int) := by
  rw [IntKind.wrap_u64, IntKind.wrap_u64]
  omega
theorem step_low (a x : Nat) (hx : 97 ≤ x) (hx2 : x < 256) : IntKind.u64.wrap ((IntKind.u64.wrap ((IntKind.u64.wrap ((a : Int) * 16)) + (((x : Int) - 97) % 256))) + 10) = (((a * 16 + (x - 87)) % 18446744073709551616 : Nat) : Int) := by
  rw [IntKind.wrap_u64, IntKind.wrap_u64, IntKind.wrap_u64]
  omega
theorem step_up (a x : Nat) (hx : 65 ≤ x) (hx2 : x < 256) : IntKind.u64.wrap ((IntKind.u64.wrap ((IntKind.u64.wrap ((a : Int) * 16)) + (((x : Int) - 65) % 256))) + 10) = (((a * 16 + (x - 55)) % 18446744073709551616 : Nat) : Int) := by
  rw [IntKind.wrap_u64, IntKind.wrap_u64, IntKind.wrap_u64]
  omega
/-- The code's. -/
theorem num_code_l (s : ByteArray) (hs : s.size < 1000000) : ∀ (d i k a : Nat), i + d = s.size → 3 * d + 1 ≤ k →
    colons_number.l0 k s a s.size i = match accX (s.data.toList.drop i) a with | none => some (0, false) | some v => some ((v : Int), decide (1 ≤ s.size ∧ s.size ≤ 4)) := by
  intro d
  induction d with
  | zero =>
    intro i k a hi hk
    obtain ⟨k, rfl⟩ : ∃ j, k = j + 1 := ⟨k - 1, by omega⟩
    rw [List.drop_eq_nil_of_le (by rw [data_len]; omega)]
    simp only [colons_number.l0, accX]
    rw [if_neg (by omega)]
    by_cases h0 : s.size = 0
    · rw [if_neg (by omega), decide_eq_false (by omega)]
    · rw [if_pos (by omega)]
      congr 2
      exact decide_eq_decide.mpr (by omega)
  | succ d ih =>
    intro i k a hi hk
    obtain ⟨k, rfl⟩ : ∃ j, k = j + 3 := ⟨k - 3, by omega⟩
    have hlt : i < s.size := by omega
    have hll : i < s.data.toList.length := by rw [data_len]; exact hlt
    have hw : wrap64 ((i : Int) + 1) = ((i + 1 : Nat) : Int) := by rw [wrap64_of (by omega) (by omega)]; omega
    simp only [colons_number.l0]
    rw [if_pos (by omega), if_pos (by omega), if_pos (by omega), bt_list s i hlt, List.drop_eq_getElem_cons hll]
    simp only [accX]
    have IH := fun a k hk => ih (i + 1) k a (by omega) hk
    generalize s.data.toList[i] = b
    have hb : b.toNat < 256 := b.toNat_lt
    by_cases c1 : 48 ≤ b.toNat ∧ b.toNat ≤ 57
    · have e : hdig b = some (b.toNat - 48) := by unfold hdig; rw [if_pos c1]
      rw [if_pos (by omega), decide_eq_true (by omega), e]
      simp only [colons_number.j1]
      rw [if_pos trivial, step_dec a _ c1.1 hb, hw]
      exact IH _ _ (by omega)
    · have hj : (if (b.toNat : Int) ≥ 48 then colons_number.j1 (k + 2) s a b.toNat s.size i (decide ((b.toNat : Int) ≤ 57)) else colons_number.j1 (k + 2) s a b.toNat s.size i false) = colons_number.j1 (k + 2) s a b.toNat s.size i false := by
        by_cases c0 : (b.toNat : Int) ≥ 48
        · rw [if_pos c0, decide_eq_false (by omega)]
        · rw [if_neg c0]
      rw [hj]
      simp only [colons_number.j1]
      rw [if_neg Bool.false_ne_true]
      by_cases c2 : 97 ≤ b.toNat ∧ b.toNat ≤ 102
      · have e : hdig b = some (b.toNat - 87) := by unfold hdig; rw [if_neg c1, if_pos c2]
        rw [if_pos (by omega), decide_eq_true (by omega), e]
        simp only [colons_number.j2]
        rw [if_pos trivial, step_low a _ c2.1 hb, hw]
        exact IH _ _ (by omega)
      · have hj : (if (b.toNat : Int) ≥ 97 then colons_number.j2 (k + 1) s a b.toNat s.size i (decide ((b.toNat : Int) ≤ 102)) else colons_number.j2 (k + 1) s a b.toNat s.size i false) = colons_number.j2 (k + 1) s a b.toNat s.size i false := by
          by_cases c0 : (b.toNat : Int) ≥ 97
          · rw [if_pos c0, decide_eq_false (by omega)]
          · rw [if_neg c0]
        rw [hj]
        simp only [colons_number.j2]
        rw [if_neg Bool.false_ne_true]
        by_cases c3 : 65 ≤ b.toNat ∧ b.toNat ≤ 70
        · have e : hdig b = some (b.toNat - 55) := by unfold hdig; rw [if_neg c1, if_neg c2, if_pos c3]
          rw [if_pos (by omega), if_pos (by omega), e, step_up a _ c3.1 hb, hw]
          exact IH _ _ (by omega)
        · have e : hdig b = none := by unfold hdig; rw [if_neg c1, if_neg c2, if_neg c3]
          rw [e]
          by_cases c0 : (b.toNat : Int) ≥ 65
          · rw [if_pos c0, if_neg (by omega)]
          · rw [if_neg c0]
theorem num_code (s : ByteArray) (k : Nat) (hs : s.size < 1000000) (hk : 3 * s.size + 1 ≤ k) :
    ∃ r : Int, colons_number.f k s = some (r, (numX s.data.toList).isSome) ∧ ∀ v, numX s.data.toList = some v → r = (v : Int) := by
  have h := num_code_l s hs s.size 0 k 0 (by omega) hk
  rw [List.drop_zero] at h
  have hf : colons_number.f k s = match accX s.data.toList 0 with | none => some (0, false) | some v => some ((v : Int), decide (1 ≤ s.size ∧ s.size ≤ 4)) := h
  rw [hf]
  unfold numX
  rw [data_len]
  cases hx : accX s.data.toList 0 with
  | none =>
    have hn : (if 1 ≤ s.size ∧ s.size ≤ 4 then (none : Option Nat) else none) = none := by split <;> rfl
    rw [hn]
    exact ⟨0, rfl, fun v hv => by cases hv⟩
  | some v =>
    by_cases hc : 1 ≤ s.size ∧ s.size ≤ 4
    · rw [if_pos hc]
      refine ⟨v, ?_, fun u hu => by cases hu; rfl⟩
      show some ((v : Int), decide _) = _
      rw [decide_eq_true hc]; rfl
    · rw [if_neg hc]
      refine ⟨v, ?_, fun u hu => by cases hu⟩
      show some ((v : Int), decide _) = _
      rw [decide_eq_false hc]; rfl
end Go.Proofs.YtjhlgfafjjmooaaDoor.Dot
