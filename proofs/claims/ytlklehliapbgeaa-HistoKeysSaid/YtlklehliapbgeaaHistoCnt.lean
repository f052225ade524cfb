/- Counts of lengths, over lists alone: what a count holds, and that the cost of levels is the sum of what each route costs. -/
import Derived.Test.YtlklehliapbgeaaHisto
namespace Go.Proofs.Ytlklehliapbgeaa.Histo
open Go.RowKit Go.Proofs.YtlklehliapbgeaaW.PrintWords Go.Proofs.YtlklehliapbgeaaW.PrintLast Go.Proofs.YtlklehliapbgeaaW.PrintMore

theorem drop_consG {α : Type} {l : List α} {i : Nat} {x : α} {xs : List α} (h : l.drop i = x :: xs) : i < l.length ∧ (∀ d, l.getD i d = x) ∧ l.drop (i + 1) = xs := by
  have hl : i < l.length := by
    by_cases hc : i < l.length
    · exact hc
    · rw [List.drop_eq_nil_of_le (by omega)] at h; cases h
  rw [List.drop_eq_getElem_cons hl] at h
  injection h with h1 h2
  refine ⟨hl, fun d => ?_, h2⟩
  rw [List.getD_eq_getElem?_getD, List.getElem?_eq_getElem hl]
  exact h1
theorem drop_nilG {α : Type} {l : List α} {i : Nat} (h : l.drop i = []) : l.length ≤ i := List.drop_eq_nil_iff.mp h

def bump (x : List Int) (n : Int) : List Int := x.set n.toNat (wrap64 (rd x n + 1))
theorem bump_length (x : List Int) (n : Int) : (bump x n).length = x.length := by unfold bump; exact List.length_set
def cnt : List Int → Int → Int
  | [], _ => 0
  | m :: ms, n => (if m = n then 1 else 0) + cnt ms n
theorem cnt_range (ms : List Int) (n : Int) : 0 ≤ cnt ms n ∧ cnt ms n ≤ ms.length := by
  induction ms with
  | nil => exact ⟨Int.le_refl _, Int.le_refl _⟩
  | cons m ms ih => simp only [cnt, List.length_cons]; split <;> omega
theorem cnt_zero (ms : List Int) (n : Int) (h : ∀ m ∈ ms, m ≠ n) : cnt ms n = 0 := by
  induction ms with
  | nil => rfl
  | cons m ms ih => simp only [cnt]; rw [if_neg (h m (by simp)), ih (fun x hx => h x (by simp [hx]))]; rfl
theorem rd_set (x : List Int) (i j v : Int) (hi : 0 ≤ i) (hj : 0 ≤ j) (hl : i < x.length) : rd (x.set i.toNat v) j = if i = j then v else rd x j := by
  unfold rd
  rw [List.getD_eq_getElem?_getD, List.getD_eq_getElem?_getD, List.getElem?_set]
  by_cases h : i = j
  · subst h; rw [if_pos rfl, if_pos (by omega), if_pos rfl]; rfl
  · rw [if_neg (by omega), if_neg h]
theorem fold_bump : ∀ (ms : List Int) (x : List Int) (M : Int), x.length = 129 → (∀ m ∈ ms, 0 ≤ m ∧ m < 129) → (∀ n, 0 ≤ n → n < 129 → 0 ≤ rd x n ∧ rd x n ≤ M) → M + ms.length < 4611686018427387904 →
    (ms.foldl bump x).length = 129 ∧ ∀ n, 0 ≤ n → n < 129 → rd (ms.foldl bump x) n = rd x n + cnt ms n
  | [], x, M, hx, _, _, _ => ⟨hx, fun n _ _ => by simp [cnt]⟩
  | m :: ms, x, M, hx, hm, hr, hM => by
    have hm0 := hm m (by simp)
    have hrm := hr m hm0.1 hm0.2
    simp only [List.length_cons] at hM
    have e : ∀ n, 0 ≤ n → rd (bump x m) n = if m = n then rd x m + 1 else rd x n := fun n hn => by
      unfold bump
      rw [rd_set x m n _ hm0.1 hn (by omega), wrap_of (by omega) (by omega)]
    have ih := fold_bump ms (bump x m) (M + 1) (by rw [bump_length]; exact hx) (fun y hy => hm y (by simp [hy])) (fun n h0 h1 => by
      rw [e n h0]; have := hr n h0 h1; split <;> omega) (by omega)
    refine ⟨ih.1, fun n h0 h1 => ?_⟩
    rw [List.foldl_cons, ih.2 n h0 h1, e n h0]
    simp only [cnt]
    split
    · rename_i h; subst h; omega
    · omega
def countL (ms : List Int) : List Int := ms.foldl bump (List.replicate 129 0)
theorem countL_length (ms : List Int) (hm : ∀ m ∈ ms, 0 ≤ m ∧ m < 129) (hl : ms.length ≤ 1000) : (countL ms).length = 129 :=
  (fold_bump ms (List.replicate 129 0) 0 (by simp) hm (fun n h0 h1 => by
    have : rd (List.replicate 129 0) n = 0 := by unfold rd; rw [List.getD_eq_getElem?_getD, List.getElem?_replicate, if_pos (by omega)]; rfl
    omega) (by omega)).1
theorem countL_at (ms : List Int) (hm : ∀ m ∈ ms, 0 ≤ m ∧ m < 129) (hl : ms.length ≤ 1000) (n : Int) : atV (countL ms) n = cnt ms n := by
  have h := fold_bump ms (List.replicate 129 0) 0 (by simp) hm (fun n h0 h1 => by
    have : rd (List.replicate 129 0) n = 0 := by unfold rd; rw [List.getD_eq_getElem?_getD, List.getElem?_replicate, if_pos (by omega)]; rfl
    omega) (by omega)
  have hlen : (countL ms).length = 129 := h.1
  have hc := cnt_range ms n
  unfold atV
  rw [hlen, show mn ((129 : Nat) : Int) 129 = 129 by decide +kernel]
  by_cases h0 : n < 0
  · rw [if_pos h0, cnt_zero ms n (fun m hm' => by have := hm m hm'; omega)]
  rw [if_neg h0]
  by_cases h1 : n ≥ 129
  · rw [if_pos h1, cnt_zero ms n (fun m hm' => by have := hm m hm'; omega)]
  rw [if_neg h1]
  have e : rd (countL ms) n = cnt ms n := by
    unfold countL
    rw [h.2 n (by omega) (by omega)]
    have : rd (List.replicate 129 0) n = 0 := by unfold rd; rw [List.getD_eq_getElem?_getD, List.getElem?_replicate, if_pos (by omega)]; rfl
    omega
  rw [e]
  unfold mx mn
  rw [if_neg (show ¬ (1048576 : Int) < cnt ms n by omega)]
  split <;> omega

/-! The cost as a sum over a function of the lengths -/
def SF (f : Int → Int) (level : Int) : Nat → Int
  | 0 => 0
  | d + 1 => SF f level d + f (level - d) * 2 ^ d
theorem SF_eq (c : List Int) (level : Int) (d : Nat) : S c level d = SF (atV c) level d := by
  induction d with
  | zero => rfl
  | succ d ih => simp only [S, SF, ih]
theorem SF_congr {f g : Int → Int} (h : ∀ n, f n = g n) (level : Int) (d : Nat) : SF f level d = SF g level d := by
  induction d with
  | zero => rfl
  | succ d ih => simp only [SF, ih, h]
theorem SF_add (f g : Int → Int) (level : Int) (d : Nat) : SF (fun n => f n + g n) level d = SF f level d + SF g level d := by
  induction d with
  | zero => rfl
  | succ d ih => simp only [SF, ih, Int.add_mul]; omega
theorem SF_zero (level : Int) (d : Nat) : SF (fun _ => 0) level d = 0 := by
  induction d with
  | zero => rfl
  | succ d ih => simp only [SF, ih, Int.zero_mul]; rfl
theorem SF_one (m level : Int) (d : Nat) : SF (fun n => if m = n then 1 else 0) level d = if level - d < m ∧ m ≤ level then 2 ^ (level - m).toNat else 0 := by
  induction d with
  | zero => simp only [SF]; rw [if_neg (by omega)]
  | succ d ih =>
    simp only [SF, ih]
    by_cases h : m = level - d
    · rw [if_neg (by omega), if_pos h, if_pos (by omega), show (level - m).toNat = d by omega]; omega
    · rw [if_neg h, Int.zero_mul, Int.add_zero]
      by_cases h1 : level - d < m ∧ m ≤ level
      · rw [if_pos h1, if_pos (by omega)]
      · rw [if_neg h1, if_neg (by omega)]
def costF (f : Int → Int) : Int → List Int → Int
  | _, [] => 0
  | low, x :: xs => SF f x (x - low).toNat + costF f x xs
theorem Cost.sum {c : List Int} : ∀ {low : Int} {ls : List Int} {s : Int}, Cost c low ls s → s = costF (atV c) low ls
  | _, [], _, h => h.2
  | low, x :: xs, _, h => by
    obtain ⟨_, s', hs, rfl⟩ := h
    rw [hs.sum, SF_eq]
    rfl
theorem costF_congr {f g : Int → Int} (h : ∀ n, f n = g n) : ∀ (ls : List Int) (low : Int), costF f low ls = costF g low ls
  | [], _ => rfl
  | x :: xs, low => by simp only [costF]; rw [SF_congr h, costF_congr h xs x]
theorem costF_add (f g : Int → Int) : ∀ (ls : List Int) (low : Int), costF (fun n => f n + g n) low ls = costF f low ls + costF g low ls
  | [], _ => rfl
  | x :: xs, low => by simp only [costF]; rw [SF_add, costF_add f g xs x]; omega
theorem costF_zero : ∀ (ls : List Int) (low : Int), costF (fun _ => 0) low ls = 0
  | [], _ => rfl
  | x :: xs, low => by simp only [costF]; rw [SF_zero, costF_zero xs x]; rfl
/-- What a route of length m costs at the first level that is not below it. -/
def key : List Int → Int → Int
  | [], _ => 0
  | x :: xs, m => if m ≤ x then 2 ^ (x - m).toNat else key xs m
theorem costF_low : ∀ (ls : List Int) (low m : Int), Rising low ls → m ≤ low → costF (fun n => if m = n then 1 else 0) low ls = 0
  | [], _, _, _, _ => rfl
  | x :: xs, low, m, hr, h => by
    obtain ⟨h1, _, h3⟩ := hr
    simp only [costF]
    rw [SF_one, if_neg (by omega), costF_low xs x m h3 (by omega)]
    rfl
theorem costF_one : ∀ (ls : List Int) (low m : Int), Rising low ls → low < m → costF (fun n => if m = n then 1 else 0) low ls = key ls m
  | [], _, _, _, _ => rfl
  | x :: xs, low, m, hr, h => by
    obtain ⟨h1, _, h3⟩ := hr
    simp only [costF, key]
    rw [SF_one]
    by_cases hm : m ≤ x
    · rw [if_pos (by omega), if_pos hm, costF_low xs x m h3 hm]; omega
    · rw [if_neg (by omega), if_neg hm, costF_one xs x m h3 (by omega)]; omega
/-- What all routes cost, one by one. -/
def keys (ls : List Int) (low : Int) : List Int → Int
  | [] => 0
  | m :: ms => (if m ≤ low then 0 else key ls m) + keys ls low ms
theorem costF_cnt (ls : List Int) (low : Int) (hr : Rising low ls) : ∀ ms : List Int, costF (cnt ms) low ls = keys ls low ms
  | [] => costF_zero ls low
  | m :: ms => by
    have e : costF (cnt (m :: ms)) low ls = costF (fun n => if m = n then 1 else 0) low ls + costF (cnt ms) low ls := costF_add _ _ ls low
    rw [e, costF_cnt ls low hr ms]
    simp only [keys]
    by_cases h : m ≤ low
    · rw [if_pos h, costF_low ls low m hr h]
    · rw [if_neg h, costF_one ls low m hr (by omega)]
theorem keys_snoc (ls : List Int) (low m : Int) : ∀ ms : List Int, keys ls low (ms ++ [m]) = keys ls low ms + if m ≤ low then 0 else key ls m
  | [] => by simp only [List.nil_append, keys]; omega
  | x :: xs => by simp only [List.cons_append, keys]; rw [keys_snoc ls low m xs]; omega
theorem Cost.keys {ls : List Int} {low s : Int} {ms : List Int} (h : Cost (countL ms) low ls s) (hr : Rising low ls) (hm : ∀ m ∈ ms, 0 ≤ m ∧ m < 129) (hl : ms.length ≤ 1000) : s = Histo.keys ls low ms := by
  rw [h.sum, costF_congr (countL_at ms hm hl), costF_cnt ls low hr]

end Go.Proofs.Ytlklehliapbgeaa.Histo
