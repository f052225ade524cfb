/- The eight numbers of an address: the code's. Plain. -/
import Derived.Test.YtjhlgfafjjmooaaDoorClist
namespace Go.Proofs.YtjhlgfafjjmooaaDoor.Dot
open Go.RowKit Go.Proofs.YtjhlgfafjjmooaaDoor.PCidrTells Go.Proofs.YtjhlgfafjjmooaaDoorW.PrintWords Go.Proofs.YtjhlgfafjjmooaaDoorW.PrintLast Go.Proofs.YtjhlgfafjjmooaaDoorW.PrintMore

def wordN (x i : Nat) : Nat := x / 2 ^ (48 - 16 * i) % 65536
def four (x : Nat) : List Nat := [wordN x 0, wordN x 1, wordN x 2, wordN x 3]
def wordsN (hi lo : Nat) : List Nat := four hi ++ four lo
theorem words_len (hi lo : Nat) : (wordsN hi lo).length = 8 := rfl
theorem words_lt (hi lo : Nat) : ∀ v ∈ wordsN hi lo, v < 65536 := by
  intro v hv
  simp only [wordsN, four, List.cons_append, List.nil_append, List.mem_cons, List.not_mem_nil, or_false] at hv
  rcases hv with rfl | rfl | rfl | rfl | rfl | rfl | rfl | rfl <;> exact Nat.mod_lt _ (by decide)
theorem word_code (x i : Nat) (hx : x < 18446744073709551616) (hi : i < 4) : bits .and .u64 (shr .u64 (x : Int) (wrap64 (64 - (wrap64 (16 * (wrap64 ((i : Int) + 1))))))) 65535 = (wordN x i : Int) := by
  have e0 : wrap64 ((i : Int) + 1) = (i : Int) + 1 := wrap64_of (by omega) (by omega)
  have e : wrap64 (64 - wrap64 (16 * ((i : Int) + 1))) = ((48 - 16 * i : Nat) : Int) := by rw [wrap64_of (n := 16 * ((i : Int) + 1)) (by omega) (by omega), wrap64_of (by omega) (by omega)]; omega
  rw [e0, e]
  have e2 : shr .u64 (x : Int) ((48 - 16 * i : Nat) : Int) = ((x / 2 ^ (48 - 16 * i) : Nat) : Int) := by
    unfold shr
    have : min (((48 - 16 * i : Nat) : Int)).toNat IntKind.u64.bits = 48 - 16 * i := by simp [IntKind.bits]; omega
    rw [this]
    simp [Int.natCast_ediv, Int.natCast_pow]
  have h2 : x / 2 ^ (48 - 16 * i) < 18446744073709551616 := Nat.lt_of_le_of_lt (Nat.div_le_self _ _) hx
  rw [e2, show (65535 : Int) = ((65535 : Nat) : Int) from rfl, u64_and_nat _ _ h2 (by decide), show (65535 : Nat) = 2 ^ 16 - 1 from rfl, Nat.and_two_pow_sub_one_eq_mod]
  rfl
theorem split_step (k : Nat) (xs : List Int) (x i : Nat) (l : List Int) (n j : Int) (hx : x < 18446744073709551616) (hi : i < 4) (hl : xs.length < 1000) :
    colons_split.l1 (k + 1) xs x l n j i = colons_split.l1 k (xs ++ [(wordN x i : Int)]) x l n j ((i + 1 : Nat) : Int) := by
  have e0 : wrap64 ((i : Int) + 1) = ((i + 1 : Nat) : Int) := by rw [wrap64_of (by omega) (by omega)]; omega
  have h0 : 0 ≤ wrap64 (64 - (wrap64 (16 * (wrap64 ((i : Int) + 1))))) := by unfold wrap64; omega
  simp only [colons_split.l1]
  rw [if_pos (by omega), if_pos h0, if_pos (by omega), word_code x i hx hi, e0]
theorem split_four (k : Nat) (xs : List Int) (x : Nat) (l : List Int) (n : Int) (j : Nat) (hx : x < 18446744073709551616) (hl : xs.length < 900) (hj : j < 10) :
    colons_split.l1 (k + 5) xs x l n j 0 = colons_split.l0 k (xs ++ ints (four x)) l n ((j + 1 : Nat) : Int) := by
  have s0 := split_step (k + 4) xs x 0 l n j hx (by omega) (by omega)
  have s1 := split_step (k + 3) (xs ++ [(wordN x 0 : Int)]) x 1 l n j hx (by omega) (by simp; omega)
  have s2 := split_step (k + 2) (xs ++ [(wordN x 0 : Int)] ++ [(wordN x 1 : Int)]) x 2 l n j hx (by omega) (by simp; omega)
  have s3 := split_step (k + 1) (xs ++ [(wordN x 0 : Int)] ++ [(wordN x 1 : Int)] ++ [(wordN x 2 : Int)]) x 3 l n j hx (by omega) (by simp; omega)
  rw [show ((0 : Nat) : Int) = 0 from rfl] at s0
  rw [s0, s1, s2, s3]
  have hw : wrap64 ((j : Int) + 1) = ((j + 1 : Nat) : Int) := by rw [wrap64_of (by omega) (by omega)]; omega
  simp only [colons_split.l1]
  rw [if_neg (by omega), hw]
  simp [ints, four]
theorem split_is (hi lo k : Nat) (hh : hi < 18446744073709551616) (hl : lo < 18446744073709551616) (hk : 20 ≤ k) : colons_split.f k hi lo = some (ints (wordsN hi lo)) := by
  obtain ⟨k, rfl⟩ : ∃ j, k = j + 13 := ⟨k - 13, by omega⟩
  unfold colons_split.f
  simp only [Option.bind_some]
  show colons_split.l0 (k + 13) [] [(hi : Int), (lo : Int)] ((2 : Nat) : Int) 0 = _
  simp only [colons_split.l0]
  rw [if_pos (by omega), if_pos (by omega), if_pos (by simp)]
  rw [show (rd [(hi : Int), (lo : Int)] 0) = (hi : Int) from rfl]
  have s0 := split_four (k + 7) [] hi [(hi : Int), (lo : Int)] ((2 : Nat) : Int) 0 hh (by simp) (by decide)
  rw [show ((0 : Nat) : Int) = 0 from rfl] at s0
  rw [s0]
  simp only [colons_split.l0]
  rw [if_pos (by omega), if_pos (by omega), if_pos (by simp)]
  rw [show (rd [(hi : Int), (lo : Int)] ((0 + 1 : Nat) : Int)) = (lo : Int) from rfl]
  have s1 := split_four (k + 1) ([] ++ ints (four hi)) lo [(hi : Int), (lo : Int)] ((2 : Nat) : Int) 1 hl (by simp [ints, four]) (by decide)
  rw [s1]
  simp only [colons_split.l0]
  rw [if_neg (by omega)]
  simp [ints, wordsN]
/-! ### The longest row of zeros -/
def runZ : List Nat → Nat
  | [] => 0
  | x :: xs => if x = 0 then runZ xs + 1 else 0
def bestZ : List Nat → Nat → Nat → Nat → Nat × Nat
  | [], _, f, t => (f, t)
  | x :: xs, i, f, t => if t - f < runZ (x :: xs) then bestZ xs (i + 1) i (i + runZ (x :: xs)) else bestZ xs (i + 1) f t
theorem runZ_le : ∀ l : List Nat, runZ l ≤ l.length
  | [] => Nat.le_refl _
  | x :: xs => by
    simp only [runZ]
    have := runZ_le xs
    split <;> simp <;> omega
theorem zeros_l1 (ws : List Nat) (hw : ws.length = 8) (i : Nat) (hi : i < 8) (f t : Nat) (hft : f ≤ t) (ht : t ≤ 8) : ∀ (d j k : Nat), j + d = 8 → i ≤ j →
    colons_zeros.l1 (k + runZ (ws.drop j) + 1) (ints ws) f t i j 8 i = if t - f < j + runZ (ws.drop j) - i then colons_zeros.l0 k (ints ws) i ((j + runZ (ws.drop j) : Nat) : Int) 8 ((i + 1 : Nat) : Int) else colons_zeros.l0 k (ints ws) f t 8 ((i + 1 : Nat) : Int) := by
  have hwi : wrap64 ((i : Int) + 1) = ((i + 1 : Nat) : Int) := by rw [wrap64_of (by omega) (by omega)]; omega
  have hwt : wrap64 ((t : Int) - (f : Int)) = (t : Int) - (f : Int) := wrap64_of (by omega) (by omega)
  have hlen : (ints ws).length = 8 := by rw [ints_len, hw]
  have close : ∀ (j k : Nat), i ≤ j → j ≤ 8 → (if wrap64 ((j : Int) - (i : Int)) > wrap64 ((t : Int) - (f : Int)) then colons_zeros.l0 k (ints ws) i j 8 (wrap64 ((i : Int) + 1)) else colons_zeros.l0 k (ints ws) f t 8 (wrap64 ((i : Int) + 1))) = if t - f < j - i then colons_zeros.l0 k (ints ws) i (j : Int) 8 ((i + 1 : Nat) : Int) else colons_zeros.l0 k (ints ws) f t 8 ((i + 1 : Nat) : Int) := by
    intro j k hj hj8
    rw [hwi, hwt, wrap64_of (n := (j : Int) - (i : Int)) (by omega) (by omega)]
    by_cases h : t - f < j - i
    · rw [if_pos h, if_pos (by omega)]
    · rw [if_neg h, if_neg (by omega)]
  intro d
  induction d with
  | zero =>
    intro j k hj hij
    obtain rfl : j = 8 := by omega
    rw [List.drop_eq_nil_of_le (by omega)]
    simp only [runZ, Nat.add_zero, colons_zeros.l1]
    rw [if_neg (by omega)]
    exact close 8 k hij (by omega)
  | succ d ih =>
    intro j k hj hij
    have hjl : j < ws.length := by omega
    have hwj : wrap64 ((j : Int) + 1) = ((j + 1 : Nat) : Int) := by rw [wrap64_of (by omega) (by omega)]; omega
    have IH := ih (j + 1) k (by omega) (by omega)
    have hr := rd_ints ws j hjl
    have hd := List.drop_eq_getElem_cons hjl
    generalize hq : runZ (ws.drop j) = q
    rw [hd] at hq
    simp only [runZ] at hq
    by_cases h0 : ws[j] = 0
    · rw [if_pos h0] at hq
      subst hq
      simp only [colons_zeros.l1]
      rw [if_pos (by omega), if_pos (by omega), hr, if_pos (by omega), hwj]
      have e1 : j + 1 + runZ (ws.drop (j + 1)) = j + (runZ (ws.drop (j + 1)) + 1) := by omega
      simp only [e1] at IH
      exact IH
    · rw [if_neg h0] at hq
      subst hq
      simp only [Nat.add_zero, colons_zeros.l1]
      rw [if_pos (by omega), if_pos (by omega), hr, if_neg (by omega)]
      exact close j k hij (by omega)
theorem zeros_l0 (ws : List Nat) (hw : ws.length = 8) : ∀ (d i k f t : Nat), i + d = 8 → 10 * d + 1 ≤ k → f ≤ t → t ≤ 8 →
    colons_zeros.l0 k (ints ws) f t 8 i = some (((bestZ (ws.drop i) i f t).1 : Int), ((bestZ (ws.drop i) i f t).2 : Int)) := by
  intro d
  induction d with
  | zero =>
    intro i k f t hi hk hft ht
    obtain ⟨k, rfl⟩ : ∃ j, k = j + 1 := ⟨k - 1, by omega⟩
    obtain rfl : i = 8 := by omega
    rw [List.drop_eq_nil_of_le (by omega)]
    simp only [colons_zeros.l0, bestZ]
    rw [if_neg (by omega)]
  | succ d ih =>
    intro i k f t hi hk hft ht
    have hil : i < ws.length := by omega
    have hr := runZ_le (ws.drop i)
    rw [List.length_drop] at hr
    obtain ⟨k, rfl⟩ : ∃ j, k = (j + runZ (ws.drop i) + 1) + 1 := ⟨k - runZ (ws.drop i) - 2, by omega⟩
    simp only [colons_zeros.l0]
    rw [if_pos (by omega), zeros_l1 ws hw i (by omega) f t hft ht (8 - i) i k (by omega) (by omega)]
    rw [show i + runZ (ws.drop i) - i = runZ (ws.drop i) by omega]
    have hb : bestZ (ws.drop i) i f t = if t - f < runZ (ws.drop i) then bestZ (ws.drop (i + 1)) (i + 1) i (i + runZ (ws.drop i)) else bestZ (ws.drop (i + 1)) (i + 1) f t := by
      rw [List.drop_eq_getElem_cons hil]
      rfl
    rw [hb]
    by_cases h : t - f < runZ (ws.drop i)
    · rw [if_pos h, if_pos h]
      exact ih (i + 1) k i (i + runZ (ws.drop i)) (by omega) (by omega) (by omega) (by omega)
    · rw [if_neg h, if_neg h]
      exact ih (i + 1) k f t (by omega) (by omega) hft ht
theorem zeros_is (ws : List Nat) (hw : ws.length = 8) (k : Nat) (hk : 100 ≤ k) : colons_zeros.f k (ints ws) = some (((bestZ ws 0 0 0).1 : Int), ((bestZ ws 0 0 0).2 : Int)) := by
  unfold colons_zeros.f
  have := zeros_l0 ws hw 8 0 k 0 0 (by omega) (by omega) (by omega) (by omega)
  rw [List.drop_zero] at this
  rw [ints_len, hw]
  exact this
/-- It lies in the numbers, and all its numbers are 0. -/
theorem runZ_zero : ∀ (l : List Nat) (j : Nat) (h : j < runZ l) (h2 : j < l.length), l[j] = 0
  | [], j, h, _ => by simp [runZ] at h
  | x :: xs, 0, h, _ => by
    simp only [runZ] at h
    split at h
    · assumption
    · omega
  | x :: xs, j + 1, h, h2 => by
    simp only [runZ] at h
    split at h
    · exact runZ_zero xs j (by omega) (by simpa using h2)
    · omega
def ZeroIn (ws : List Nat) (f t : Nat) : Prop := f ≤ t ∧ t ≤ ws.length ∧ ∀ j (h : j < ws.length), f ≤ j → j < t → ws[j] = 0
theorem best_ok (ws : List Nat) : ∀ (d i f t : Nat), i + d = ws.length → ZeroIn ws f t → ZeroIn ws (bestZ (ws.drop i) i f t).1 (bestZ (ws.drop i) i f t).2 := by
  intro d
  induction d with
  | zero =>
    intro i f t hi h
    rw [List.drop_eq_nil_of_le (by omega)]
    exact h
  | succ d ih =>
    intro i f t hi h
    have hil : i < ws.length := by omega
    have hb : bestZ (ws.drop i) i f t = if t - f < runZ (ws.drop i) then bestZ (ws.drop (i + 1)) (i + 1) i (i + runZ (ws.drop i)) else bestZ (ws.drop (i + 1)) (i + 1) f t := by
      rw [List.drop_eq_getElem_cons hil]
      rfl
    rw [hb]
    split
    · refine ih (i + 1) _ _ (by omega) ⟨by omega, ?_, ?_⟩
      · have := runZ_le (ws.drop i)
        rw [List.length_drop] at this
        omega
      · intro j hj h1 h2
        have := runZ_zero (ws.drop i) (j - i) (by omega) (by rw [List.length_drop]; omega)
        rw [List.getElem_drop] at this
        simpa [show i + (j - i) = j by omega] using this
    · exact ih (i + 1) f t (by omega) h
theorem best_all (ws : List Nat) : ZeroIn ws (bestZ ws 0 0 0).1 (bestZ ws 0 0 0).2 := by
  have := best_ok ws ws.length 0 0 0 (by omega) ⟨Nat.le_refl _, by omega, fun j _ _ h => by omega⟩
  rwa [List.drop_zero] at this
end Go.Proofs.YtjhlgfafjjmooaaDoor.Dot
