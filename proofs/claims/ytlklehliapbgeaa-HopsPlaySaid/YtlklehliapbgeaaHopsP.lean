/- The law HopsPlay over lists alone: what is kept of a row of calls. -/
import Derived.Test.YtlklehliapbgeaaHopsL
import Derived.Test.YtlklehliapbgeaaPLevx0
namespace Go.Proofs.Ytlklehliapbgeaa.Hops
open Go.RowKit Go.Proofs.YtlklehliapbgeaaW.PrintWords Go.Proofs.YtlklehliapbgeaaW.PrintLast Go.Proofs.YtlklehliapbgeaaW.PrintMore

def cntP (us : List Int) : Nat := (us.filter (fun u => decide (0 < u))).length
theorem cntP_append (us vs : List Int) : cntP (us ++ vs) = cntP us + cntP vs := by unfold cntP; rw [List.filter_append, List.length_append]
theorem cntP_le (us : List Int) : cntP us ≤ us.length := List.length_filter_le _ _
theorem cntP_one (u : Int) : cntP [u] = if 0 < u then 1 else 0 := by
  unfold cntP
  by_cases h : 0 < u
  · rw [if_pos h]; simp [h]
  · rw [if_neg h]; simp [h]
theorem rd_split (us : List Int) (k : Nat) (hk : k < us.length) : us = us.take k ++ rd us k :: us.drop (k + 1) := by
  have h : rd us (k : Int) = us[k] := by
    unfold rd
    rw [List.getD_eq_getElem?_getD, Int.toNat_natCast, List.getElem?_eq_getElem hk]; rfl
  rw [h, ← List.drop_eq_getElem_cons hk, List.take_append_drop]
theorem cntP_to (us : List Int) (k : Nat) (hk : k < us.length) : cntP (us.take (k + 1)) = cntP (us.take k) + if 0 < rd us k then 1 else 0 := by
  have h : rd us (k : Int) = us[k] := by
    unfold rd
    rw [List.getD_eq_getElem?_getD, Int.toNat_natCast, List.getElem?_eq_getElem hk]; rfl
  rw [List.take_succ_eq_append_getElem hk, cntP_append, cntP_one, h]
theorem cntP_set (us : List Int) (k : Nat) (v : Int) (hk : k < us.length) : cntP (us.set k v) + (if 0 < rd us k then 1 else 0) = cntP us + if 0 < v then 1 else 0 := by
  have e1 : us.set k v = us.take k ++ [v] ++ us.drop (k + 1) := by rw [List.set_eq_take_append_cons_drop, if_pos hk]; simp
  have e2 : cntP us = cntP (us.take k ++ [rd us k] ++ us.drop (k + 1)) := by
    conv => lhs; rw [rd_split us k hk]
    simp
  rw [e1, e2, cntP_append, cntP_append, cntP_append, cntP_append, cntP_one, cntP_one]
  omega
theorem rd_set (us : List Int) (k j : Nat) (v : Int) (hk : k < us.length) : rd (us.set k v) (j : Int) = if k = j then v else rd us j := by
  unfold rd
  rw [List.getD_eq_getElem?_getD, List.getD_eq_getElem?_getD, List.getElem?_set, Int.toNat_natCast]
  by_cases h : k = j
  · subst h; rw [if_pos rfl, if_pos hk, if_pos rfl]; rfl
  · rw [if_neg h, if_neg h]
theorem rd_append (us : List Int) (k : Nat) (v : Int) : rd (us ++ [v]) (k : Int) = if k = us.length then v else rd us k := by
  unfold rd
  rw [List.getD_eq_getElem?_getD, List.getD_eq_getElem?_getD, Int.toNat_natCast]
  by_cases h : k = us.length
  · subst h; rw [if_pos rfl, List.getElem?_append_right (Nat.le_refl _)]; simp
  · rw [if_neg h]
    by_cases h2 : k < us.length
    · rw [List.getElem?_append_left h2]
    · rw [List.getElem?_eq_none (show (us ++ [v]).length ≤ k by rw [List.length_append]; simp only [List.length_cons, List.length_nil]; omega), List.getElem?_eq_none (show us.length ≤ k by omega)]

/-- The last place of x among the first k. -/
def atTo (ns : List Int) (x : Int) : Nat → Int
  | 0 => -1
  | k + 1 => if rd ns k = x then k else atTo ns x k
theorem atTo_spec (ns : List Int) (x : Int) : ∀ k : Nat, (atTo ns x k = -1 ∧ ∀ j : Nat, j < k → rd ns j ≠ x) ∨ ∃ j : Nat, j < k ∧ atTo ns x k = j ∧ rd ns j = x
  | 0 => .inl ⟨rfl, fun j hj => by omega⟩
  | k + 1 => by
    by_cases h : rd ns k = x
    · exact .inr ⟨k, by omega, by simp only [atTo]; rw [if_pos h], h⟩
    · rcases atTo_spec ns x k with ⟨h1, h2⟩ | ⟨j, h1, h2, h3⟩
      · refine .inl ⟨by simp only [atTo]; rw [if_neg h]; exact h1, fun j hj => ?_⟩
        by_cases e : j = k
        · rw [e]; exact h
        · exact h2 j (by omega)
      · exact .inr ⟨j, by omega, by simp only [atTo]; rw [if_neg h]; exact h2, h3⟩

structure Inv (ns us : List Int) (c : Int → Int) (m i : Nat) : Prop where
  len : us.length = ns.length
  le : ns.length ≤ i
  inj : ∀ j k : Nat, j < ns.length → k < ns.length → rd ns j = rd ns k → j = k
  val : ∀ k : Nat, k < ns.length → c (rd ns k) = rd us k
  out : ∀ x, (∀ k : Nat, k < ns.length → rd ns k ≠ x) → c x = 0
  rng : ∀ x, 0 ≤ c x ∧ c x ≤ i
  cnt : m = cntP us
  wfs : ∀ k : Nat, k < ns.length → wf (rd ns k)
theorem inv_start : Inv [] [] (fun _ => 0) 0 0 := ⟨rfl, Nat.le_refl _, fun j k h => absurd h (Nat.not_lt_zero j), fun k h => absurd h (Nat.not_lt_zero k), fun _ _ => rfl, fun _ => ⟨Int.le_refl _, Int.le_refl _⟩, rfl, fun k h => absurd h (Nat.not_lt_zero k)⟩
theorem Inv.round {ns us : List Int} {c : Int → Int} {m i : Nat} (h : Inv ns us c m i) : Inv ns us c m (i + 1) :=
  ⟨h.len, by have := h.le; omega, h.inj, h.val, h.out, fun x => by have := h.rng x; omega, h.cnt, h.wfs⟩
theorem Inv.new {ns us : List Int} {c : Int → Int} {m i : Nat} (h : Inv ns us c m i) {x : Int} (hx : wf x) (hno : ∀ k : Nat, k < ns.length → rd ns k ≠ x) (hlt : ns.length < i) : Inv (ns ++ [x]) (us ++ [0]) c m i := by
  have hl := h.len
  have nl : (ns ++ [x]).length = ns.length + 1 := by simp
  refine ⟨by simp [hl], by omega, fun j k hj hk e => ?_, fun k hk => ?_, fun y hy => ?_, h.rng, ?_, fun k hk => ?_⟩
  · rw [nl] at hj hk
    rw [rd_append, rd_append] at e
    by_cases h1 : j = ns.length
    · by_cases h2 : k = ns.length
      · omega
      · rw [if_pos h1, if_neg h2] at e; exact absurd e.symm (hno k (by omega))
    · by_cases h2 : k = ns.length
      · rw [if_neg h1, if_pos h2] at e; exact absurd e (hno j (by omega))
      · rw [if_neg h1, if_neg h2] at e; exact h.inj j k (by omega) (by omega) e
  · rw [nl] at hk
    rw [rd_append, rd_append, hl]
    by_cases h1 : k = ns.length
    · rw [if_pos h1, if_pos h1]; exact h.out x hno
    · rw [if_neg h1, if_neg h1]; exact h.val k (by omega)
  · refine h.out y fun k hk => ?_
    have := hy k (by omega)
    rw [rd_append, if_neg (by omega)] at this
    exact this
  · rw [cntP_append, cntP_one, if_neg (by decide)]; exact h.cnt
  · rw [nl] at hk
    rw [rd_append]
    by_cases h1 : k = ns.length
    · rw [if_pos h1]; exact hx
    · rw [if_neg h1]; exact h.wfs k (by omega)
theorem Inv.put {ns us : List Int} {c : Int → Int} {m i : Nat} (h : Inv ns us c m i) {x v : Int} {k : Nat} (hk : k < ns.length) (hx : rd ns k = x) (hv : 0 ≤ v ∧ v ≤ i) (m' : Nat) (hm : m' + (if 0 < rd us k then 1 else 0) = m + if 0 < v then 1 else 0) : Inv ns (us.set k v) (upd c x v) m' i := by
  have hl := h.len
  refine ⟨by rw [List.length_set]; exact hl, h.le, h.inj, fun j hj => ?_, fun y hy => ?_, fun y => ?_, ?_, h.wfs⟩
  · rw [rd_set _ _ _ _ (by omega)]
    by_cases e : k = j
    · subst e; rw [if_pos rfl, hx, upd_same]
    · rw [if_neg e, upd_other _ _ (fun he => e (h.inj k j hk hj (hx.trans he.symm))), h.val j hj]
  · rw [upd_other _ _ (fun he => hy k hk (hx.trans he.symm))]; exact h.out y hy
  · by_cases e : y = x
    · subst e; rw [upd_same]; exact hv
    · rw [upd_other _ _ e]; exact h.rng y
  · have := cntP_set us k v (by omega)
    have := h.cnt
    omega
/-- One use more. -/
theorem Inv.up {ns us : List Int} {c : Int → Int} {m i : Nat} (h : Inv ns us c m i) {x : Int} {k : Nat} (hk : k < ns.length) (hx : rd ns k = x) : Inv ns (us.set k (rd us k + 1)) (upd c x (c x + 1)) (if c x = 0 then m + 1 else m) (i + 1) := by
  have e : c x = rd us k := by rw [← hx]; exact h.val k hk
  have hr := h.rng x
  rw [e]
  rw [e] at hr
  refine h.round.put hk hx ⟨by omega, by omega⟩ _ ?_
  by_cases h0 : rd us (k : Int) = 0
  · rw [if_pos h0, if_neg (by omega), if_pos (by omega)]
  · rw [if_neg h0, if_pos (by omega), if_pos (by omega)]
/-- One use less. -/
theorem Inv.down {ns us : List Int} {c : Int → Int} {m i : Nat} (h : Inv ns us c m i) {x : Int} {k : Nat} (hk : k < ns.length) (hx : rd ns k = x) (hp : 0 < rd us k) : Inv ns (us.set k (rd us k - 1)) (upd c x (c x - 1)) (if c x = 1 then m - 1 else m) i := by
  have e : c x = rd us k := by rw [← hx]; exact h.val k hk
  have hr := h.rng x
  rw [e]
  rw [e] at hr
  have hset := cntP_set us k (rd us k - 1) (by have := h.len; omega)
  have hc := h.cnt
  rw [if_pos hp] at hset
  refine h.put hk hx ⟨by omega, by omega⟩ _ ?_
  rw [if_pos hp]
  by_cases h1 : rd us (k : Int) = 1
  · rw [if_pos h1, if_neg (by omega)]
    rw [if_neg (by omega)] at hset
    omega
  · rw [if_neg h1, if_pos (by omega)]
end Go.Proofs.Ytlklehliapbgeaa.Hops
