/- Package hops, in plain words: how many uses each hop has (c), and how many hops have some (m). -/
import Derived.Test.YtlklehliapbgeaaHops
namespace Go.Proofs.Ytlklehliapbgeaa.Hops
open Go.RowKit Go.Maps

def wf (x : Int) : Prop := (Lit.int .i64 x).wf = true
theorem wf_of {x : Int} (h0 : -9223372036854775808 ≤ x) (h1 : x ≤ 9223372036854775807) : wf x := by
  unfold wf
  simp only [Lit.wf, Bool.and_eq_true, decide_eq_true_eq]
  exact ⟨h0, h1⟩
theorem of_wf {x : Int} (h : wf x) : -9223372036854775808 ≤ x ∧ x ≤ 9223372036854775807 := by
  unfold wf at h
  simp only [Lit.wf, Bool.and_eq_true, decide_eq_true_eq] at h
  exact h
def upd (c : Int → Int) (x v : Int) : Int → Int := fun y => if y = x then v else c y
theorem upd_same (c : Int → Int) (x v : Int) : upd c x v x = v := if_pos rfl
theorem upd_other (c : Int → Int) {x y : Int} (v : Int) (h : y ≠ x) : upd c x v y = c y := if_neg h

/-- At hb lies a counter of at most most hops; each x has c x uses, m hops have some. -/
def Sees (w : World) (hb mb : Nat) (most : Int) (N : Nat) (c : Int → Int) (m : Nat) : Prop :=
  ∃ D : DataW Unit, w.heap[hb]? = some (.cells #[.int .i64 most, .map (some mb)] 66 (0, 0)) ∧ Own w mb N D ∧ (∀ x, wf x → At D x (c x) ∧ Maps.has D (.int .i64 x) = decide (c x ≠ 0)) ∧ Maps.size D = m

theorem Sees.grown {w w1 : World} {hb mb : Nat} {most : Int} {N : Nat} {c : Int → Int} {m : Nat} (h : Sees w hb mb most N c m) {row : Option Nat} (hg : w.grownBy w1 row) (h1 : some hb ≠ row) (h2 : some mb ≠ row) : Sees w1 hb mb most N c m := by
  obtain ⟨D, h0, ho, hv, hs⟩ := h
  have hlt : hb < w.heap.size := by
    rcases Nat.lt_or_ge hb w.heap.size with h | h
    · exact h
    · rw [Array.getElem?_eq_none h] at h0; cases h0
  exact ⟨D, (hg.block hb hlt h1).trans h0, ho.kept hg h2, hv, hs⟩
theorem Sees.lt {w : World} {hb mb : Nat} {most : Int} {N : Nat} {c : Int → Int} {m : Nat} (h : Sees w hb mb most N c m) : hb < w.heap.size ∧ mb < w.heap.size ∧ hb ≠ mb := by
  obtain ⟨D, h0, ho, _, _⟩ := h
  have hlt : hb < w.heap.size := by
    rcases Nat.lt_or_ge hb w.heap.size with h | h
    · exact h
    · rw [Array.getElem?_eq_none h] at h0; cases h0
  refine ⟨hlt, ho.lt, fun e => ?_⟩
  obtain ⟨es, clock, hm, _⟩ := ho
  rw [e, hm] at h0
  cases h0
theorem Sees.draw {w : World} {hb mb : Nat} {most : Int} {N : Nat} {c : Int → Int} {m : Nat} (h : Sees w hb mb most N c m) (k : Nat) : Sees (w.drewN k) hb mb most N c m := h

theorem sees_new (w : World) (most : Int) : Sees (newWorld w most) (w.heap.size + 1) w.heap.size most 0 (fun _ => 0) 0 := by
  refine ⟨.map [], ?_, ?_, fun x hx => ⟨rfl, rfl⟩, rfl⟩
  · have := heap_alloc_new (w.alloc (.map #[] 0)) (.cells #[.int .i64 most, .map (some w.heap.size)] 66)
    simpa [newWorld] using this
  · exact (World.ownsMap_made w Try.prog 3 (plainElem Try.prog 3)).alloc _

theorem up_false (w : World) (hb mb N : Nat) (most x : Int) (c : Int → Int) (m : Nat) (h : Sees w hb mb most N c m) (hx : wf x) (hno : x < 0 ∨ (c x = 0 ∧ most ≤ m)) :
    Calls Try.prog 21 #[.pointer (some ⟨hb, 0, none⟩), .int .i64 x] w fun e w' => e = .returned (.bool false) ∧ ∃ k, w' = w.drewN k := by
  obtain ⟨D, h0, ho, hv, rfl⟩ := h
  exact up_no w hb mb N most x (c x) D h0 ho hx (hv x hx).1 hno

theorem up_true (w : World) (hb mb N : Nat) (most x : Int) (c : Int → Int) (m : Nat) (h : Sees w hb mb most N c m) (hN : N < 1000000) (hx : wf x) (hx0 : 0 ≤ x) (hc0 : 0 ≤ c x) (hcb : c x < 1000000) (hyes : c x ≠ 0 ∨ (m : Int) < most) :
    Calls Try.prog 21 #[.pointer (some ⟨hb, 0, none⟩), .int .i64 x] w fun e w' => e = .returned (.bool true) ∧ Sees w' hb mb most (N + 1) (upd c x (c x + 1)) (if c x = 0 then m + 1 else m) ∧ w.grownBy w' (some mb) := by
  have hlt := h.lt
  obtain ⟨D, h0, ho, hv, rfl⟩ := h
  refine (up_yes w hb mb N most x (c x) D h0 ho hx (hv x hx).1 (by unfold maxLen; omega) hx0 hc0 hcb hyes).mono ?_
  rintro e w' ⟨rfl, ho', hg⟩
  refine ⟨rfl, ⟨_, (hg.block hb hlt.1 (fun e => hlt.2.2 (by injection e))).trans h0, ho', fun y hy => ?_, ?_⟩, hg⟩
  · by_cases e : y = x
    · subst e
      refine ⟨by rw [upd_same]; exact at_put ho y _, ?_⟩
      rw [Maps.has_put_same ho.isMap (isKey y), upd_same, decide_eq_true (by omega)]
    · have hne : (Lit.int .i64 y) ≠ (Lit.int .i64 x) := fun h => e (by injection h)
      rw [upd_other _ _ e]
      refine ⟨?_, by rw [Maps.has_put_other hne]; exact (hv y hy).2⟩
      unfold At
      rw [Maps.atKey_put_other hne]
      exact (hv y hy).1
  · rw [Maps.size_put (ho.tidy law3), (hv x hx).2]
    by_cases e : c x = 0
    · rw [if_pos e, decide_eq_false (by omega), if_neg (by decide)]
    · rw [if_neg e, decide_eq_true e, if_pos rfl]

theorem down_false (w : World) (hb mb N : Nat) (most x : Int) (c : Int → Int) (m : Nat) (h : Sees w hb mb most N c m) (hx : wf x) (hz : c x = 0) :
    Calls Try.prog 22 #[.pointer (some ⟨hb, 0, none⟩), .int .i64 x] w fun e w' => e = .returned (.bool false) ∧ ∃ k, w' = w.drewN k := by
  obtain ⟨D, h0, ho, hv, rfl⟩ := h
  exact down_no w hb mb N most x D h0 ho hx (hz ▸ (hv x hx).1)

theorem down_true (w : World) (hb mb N : Nat) (most x : Int) (c : Int → Int) (m : Nat) (h : Sees w hb mb most N c m) (hN : N < 1000000) (hx : wf x) (hc0 : 0 < c x) (hcb : c x < 1000000) :
    Calls Try.prog 22 #[.pointer (some ⟨hb, 0, none⟩), .int .i64 x] w fun e w' => e = .returned (.bool true) ∧ Sees w' hb mb most (N + 1) (upd c x (c x - 1)) (if c x = 1 then m - 1 else m) ∧ w.grownBy w' (some mb) := by
  have hlt := h.lt
  obtain ⟨D, h0, ho, hv, rfl⟩ := h
  by_cases h1 : c x = 1
  · refine (down_last w hb mb N most x D h0 ho hx (h1 ▸ (hv x hx).1) (by unfold maxLen; omega)).mono ?_
    rintro e w' ⟨rfl, ho', hg⟩
    have hhas := (hv x hx).2
    rw [h1, decide_eq_true (by decide)] at hhas
    refine ⟨rfl, ⟨_, (hg.block hb hlt.1 (fun e => hlt.2.2 (by injection e))).trans h0, ho', fun y hy => ?_, ?_⟩, hg⟩
    · by_cases e : y = x
      · subst e
        rw [upd_same, h1]
        exact ⟨Maps.atKey_del_same _, Maps.has_del_same⟩
      · have hne : (Lit.int .i64 y) ≠ (Lit.int .i64 x) := fun h => e (by injection h)
        rw [upd_other _ _ e]
        refine ⟨?_, by rw [Maps.has_del_other hne, Maps.has_put_other hne]; exact (hv y hy).2⟩
        unfold At
        rw [Maps.atKey_del_other hne, Maps.atKey_put_other hne]
        exact (hv y hy).1
    · have htidy := (ho.tidy law3).put (isKey x) (.lit (.int .i64 0))
      have h2 := Maps.size_del (k := .int .i64 x) htidy
      rw [Maps.has_put_same ho.isMap (isKey x), if_pos rfl, Maps.size_put (ho.tidy law3), hhas, if_pos rfl] at h2
      rw [if_pos h1]
      omega
  · refine (down_many w hb mb N most x (c x) D h0 ho hx (hv x hx).1 (by unfold maxLen; omega) (by omega) hcb).mono ?_
    rintro e w' ⟨rfl, ho', hg⟩
    refine ⟨rfl, ⟨_, (hg.block hb hlt.1 (fun e => hlt.2.2 (by injection e))).trans h0, ho', fun y hy => ?_, ?_⟩, hg⟩
    · by_cases e : y = x
      · subst e
        refine ⟨by rw [upd_same]; exact at_put ho y _, ?_⟩
        rw [Maps.has_put_same ho.isMap (isKey y), upd_same, decide_eq_true (by omega)]
      · have hne : (Lit.int .i64 y) ≠ (Lit.int .i64 x) := fun h => e (by injection h)
        rw [upd_other _ _ e]
        refine ⟨?_, by rw [Maps.has_put_other hne]; exact (hv y hy).2⟩
        unfold At
        rw [Maps.atKey_put_other hne]
        exact (hv y hy).1
    · rw [Maps.size_put (ho.tidy law3), (hv x hx).2, if_neg h1, decide_eq_true (by omega), if_pos rfl]

theorem uses_is (w : World) (hb mb N : Nat) (most x : Int) (c : Int → Int) (m : Nat) (h : Sees w hb mb most N c m) (hx : wf x) :
    Calls Try.prog 23 #[.pointer (some ⟨hb, 0, none⟩), .int .i64 x] w fun e w' => e = .returned (.int .i64 (c x)) ∧ w' = w := by
  obtain ⟨D, h0, ho, hv, rfl⟩ := h
  exact uses_any w hb mb N most x (c x) D h0 ho hx (hv x hx).1
theorem count_is (w : World) (hb mb N : Nat) (most : Int) (c : Int → Int) (m : Nat) (h : Sees w hb mb most N c m) :
    Calls Try.prog 24 #[.pointer (some ⟨hb, 0, none⟩)] w fun e w' => e = .returned (.int .i64 m) ∧ w' = w := by
  obtain ⟨D, h0, ho, hv, rfl⟩ := h
  exact count_any w hb mb N most D h0 ho
end Go.Proofs.Ytlklehliapbgeaa.Hops
