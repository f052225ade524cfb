/- Texts of numbers. Plain. -/
import Derived.Test.YtjhlgfafjjmooaaDoorClist
namespace Go.Proofs.YtjhlgfafjjmooaaDoor.Dot
open Go.RowKit Go.Proofs.YtjhlgfafjjmooaaDoor.PCidrTells Go.Proofs.YtjhlgfafjjmooaaDoorW.PrintWords Go.Proofs.YtjhlgfafjjmooaaDoorW.PrintLast Go.Proofs.YtjhlgfafjjmooaaDoorW.PrintMore

/-! ### Texts of numbers -/
theorem hd_ne (n : Nat) : hd n ≠ 58 := by
  by_cases h : n < 16
  · have : n = 0 ∨ n = 1 ∨ n = 2 ∨ n = 3 ∨ n = 4 ∨ n = 5 ∨ n = 6 ∨ n = 7 ∨ n = 8 ∨ n = 9 ∨ n = 10 ∨ n = 11 ∨ n = 12 ∨ n = 13 ∨ n = 14 ∨ n = 15 := by omega
    rcases this with rfl | rfl | rfl | rfl | rfl | rfl | rfl | rfl | rfl | rfl | rfl | rfl | rfl | rfl | rfl | rfl <;> decide
  · unfold hd
    have : (#[48, 49, 50, 51, 52, 53, 54, 55, 56, 57, 97, 98, 99, 100, 101, 102] : Array UInt8).getD n 0 = 0 := by
      rw [Array.getD_eq_getD_getElem?, Array.getElem?_eq_none (by simp; omega)]
      rfl
    rw [this]
    decide
theorem hexF_last : ∀ (j v : Nat), ∃ c, (hexF j v).getLast? = some c ∧ c ≠ 58
  | 0, v => ⟨hd v, rfl, hd_ne v⟩
  | j + 1, v => by
    by_cases h : v < 16
    · rw [hexF_small _ _ h]; exact ⟨hd v, rfl, hd_ne v⟩
    · rw [hexF_great _ _ h]; exact ⟨hd (v % 16), by simp, hd_ne _⟩
theorem hexL_ne (v : Nat) : hexL v ≠ [] := fun e => by
  obtain ⟨c, hc, _⟩ := hexF_last 3 v
  unfold hexL at e
  rw [e] at hc
  cases hc
theorem joinL_one (v : Nat) : joinL [v] = hexL v := by simp [joinL, Lib.join, List.intercalate]
theorem joinL_cons (v : Nat) (ns : List Nat) (h : ns ≠ []) : joinL (v :: ns) = hexL v ++ 58 :: joinL ns := by
  unfold joinL
  rw [List.map_cons, join_cons _ _ (by simpa using h)]
theorem joinL_snoc : ∀ (ns : List Nat) (v : Nat), ns ≠ [] → joinL (ns ++ [v]) = joinL ns ++ 58 :: hexL v
  | [], _, h => absurd rfl h
  | [x], v, _ => by
    show joinL (x :: [v]) = _
    rw [joinL_cons x [v] (by simp), joinL_one, joinL_one]
  | x :: y :: ns, v, _ => by
    show joinL (x :: ((y :: ns) ++ [v])) = _
    rw [joinL_cons x _ (by simp), joinL_snoc (y :: ns) v (by simp), joinL_cons x (y :: ns) (by simp)]
    simp
theorem last_app (a b : List UInt8) (c : UInt8) (h : b.getLast? = some c) : (a ++ b).getLast? = some c := by rw [List.getLast?_append, h]; rfl
theorem joinL_last (ns : List Nat) (h : ns ≠ []) : ∃ c, (joinL ns).getLast? = some c ∧ c ≠ 58 := by
  rw [← List.dropLast_concat_getLast h]
  obtain ⟨c, hc, hn⟩ := hexF_last 3 (ns.getLast h)
  refine ⟨c, ?_, hn⟩
  by_cases h0 : ns.dropLast = []
  · rw [h0]
    show (joinL [ns.getLast h]).getLast? = _
    rw [joinL_one]
    exact hc
  · rw [joinL_snoc _ _ h0]
    exact last_app _ _ c (last_app [58] _ c hc)

theorem beq58 (x : UInt8) : ((58 : UInt8) == x) = decide (x = 58) := by
  by_cases h : x = 58
  · subst h; rfl
  · rw [decide_eq_false h]; exact beq_eq_false_iff_ne.mpr (fun e => h e.symm)
theorem pre58 (x y : UInt8) (l : List UInt8) : List.isPrefixOf [58, 58] (x :: y :: l) = (decide (x = 58) && decide (y = 58)) := by
  simp only [List.isPrefixOf, beq58, Bool.and_true]
theorem index_two (x y : UInt8) (l : List UInt8) : Lib.index (x :: y :: l) [58, 58] = if x = 58 ∧ y = 58 then 0 else if Lib.index (y :: l) [58, 58] = -1 then -1 else Lib.index (y :: l) [58, 58] + 1 := by
  rw [Lib.index, pre58]
  by_cases a : x = 58
  · by_cases b : y = 58
    · simp [a, b]
    · simp [a, b]
  · simp [a]
theorem index_last (x : UInt8) : Lib.index [x] [58, 58] = -1 := by
  rw [Lib.index, Lib.index]
  simp [List.isPrefixOf]
end Go.Proofs.YtjhlgfafjjmooaaDoor.Dot
