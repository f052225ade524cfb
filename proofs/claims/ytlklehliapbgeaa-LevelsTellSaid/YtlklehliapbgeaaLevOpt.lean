/- Package levels: the ways that are chosen are the cheapest, and of those the shortest; over lists alone. -/
import Derived.Test.YtlklehliapbgeaaLevGive
namespace Go.Proofs.Ytlklehliapbgeaa.Lev
open Go.RowKit Go.Proofs.Ytlklehliapbgeaa.PLev Go.Proofs.YtlklehliapbgeaaW.PrintWords Go.Proofs.YtlklehliapbgeaaW.PrintLast Go.Proofs.YtlklehliapbgeaaW.PrintMore Go.Proofs.Ytlklehliapbgeaa.Histo

/-- Levels that lead from a place to the end. -/
def Goes (width stride : Int) : Int → List Int → Prop
  | a, [] => a = width
  | a, x :: xs => a < x ∧ x - a ≤ stride ∧ Goes width stride x xs
theorem Goes.le {width stride : Int} : ∀ {a : Int} {l : List Int}, Goes width stride a l → a ≤ width ∧ ∀ x ∈ l, a < x ∧ x ≤ width
  | a, [], h => ⟨Int.le_of_eq h, fun x hx => by cases hx⟩
  | a, x :: xs, h => by
    obtain ⟨h1, h2, h3⟩ := h
    have ih := Goes.le h3
    refine ⟨by omega, fun y hy => ?_⟩
    rcases List.mem_cons.mp hy with e | hy
    · subst e; exact ⟨h1, ih.1⟩
    · have := ih.2 y hy; omega
theorem Goes.wider {width s t : Int} (hs : s ≤ t) : ∀ {a : Int} {l : List Int}, Goes width s a l → Goes width t a l
  | _, [], h => h
  | _, _ :: _, h => ⟨h.1, Int.le_trans h.2.1 hs, h.2.2.wider hs⟩
/-- What they cost. -/
def costG (c : List Int) : Int → List Int → Int
  | _, [] => 0
  | a, x :: xs => S c x (x - a).toNat + costG c x xs
theorem costG_nonneg (c : List Int) : ∀ (a : Int) (l : List Int), 0 ≤ costG c a l
  | _, [] => Int.le_refl _
  | a, x :: xs => by
    have := costG_nonneg c x xs
    have := S_nonneg c x (x - a).toNat
    show 0 ≤ S c x (x - a).toNat + costG c x xs
    omega
theorem sub_nat (m a : Nat) : (((m : Int) - (a : Int)).toNat) = m - a := by omega

/-- The way that is walked is one, and costs what is told of it. -/
theorem walk_goes (c : List Int) (width stride : Nat) (hs : 1 ≤ stride) : ∀ (n a : Nat), a ≤ width → (rd_T85 (waysL c width stride n) a).f0 = true →
    Goes width stride a (walkL c width stride n a) ∧ (walkL c width stride n a).length ≤ n ∧ costG c a (walkL c width stride n a) = (rd_T85 (waysL c width stride n) a).f1 ∧ ((walkL c width stride n a).length : Int) = (rd_T85 (waysL c width stride n) a).f2
  | n, a, ha, h => by
    by_cases e : a = width
    · subst e
      rw [walk_end, ways_end]
      exact ⟨rfl, Nat.zero_le _, rfl, rfl⟩
    · obtain ⟨n', m, rfl, hm3, h1, h2, h3, h4, h5⟩ := way_step c width stride n a (by omega) hs h
      have ih := walk_goes c width stride hs n' m h2 h4
      have hw : walkL c width stride (n' + 1) a = (m : Int) :: walkL c width stride n' m := by
        simp only [walkL]
        rw [if_neg e, hm3, Int.toNat_natCast]
      rw [hw, h5]
      obtain ⟨i1, i2, i3, i4⟩ := ih
      refine ⟨⟨by omega, by omega, i1⟩, by simp only [List.length_cons]; omega, ?_, ?_⟩
      · show S c m ((m : Int) - (a : Int)).toNat + costG c m _ = (rd_T85 (waysL c width stride n') m).f1 + S c m (m - a)
        rw [sub_nat, i3]; omega
      · show (((m : Int) :: walkL c width stride n' m).length : Int) = (rd_T85 (waysL c width stride n') m).f2 + 1
        rw [List.length_cons, ← i4]; omega

/-- Nothing is cheaper, and of what is as cheap nothing is shorter. -/
theorem walk_best (c : List Int) (width stride : Nat) (hs : 1 ≤ stride) : ∀ (l : List Int) (n a : Nat), a ≤ width → Goes width stride a l → l.length ≤ n →
    (rd_T85 (waysL c width stride n) a).f0 = true ∧ ((rd_T85 (waysL c width stride n) a).f1 < costG c a l ∨ ((rd_T85 (waysL c width stride n) a).f1 = costG c a l ∧ (rd_T85 (waysL c width stride n) a).f2 ≤ l.length))
  | [], n, a, ha, h, hl => by
    have e : a = width := by have : (a : Int) = width := h; omega
    subst e
    rw [ways_end]
    exact ⟨rfl, .inr ⟨rfl, Int.le_refl _⟩⟩
  | x :: xs, n, a, ha, h, hl => by
    obtain ⟨h1, h2, h3⟩ := h
    have hx := h3.le.1
    obtain ⟨m, rfl⟩ := Int.eq_ofNat_of_zero_le (show 0 ≤ x by omega)
    match n, hl with
    | n + 1, hl =>
      have ih := walk_best c width stride hs xs n m (by omega) h3 (by simp only [List.length_cons] at hl; omega)
      obtain ⟨i1, i2⟩ := ih
      have haw : a < width := by omega
      have hb := best_from c width stride a (waysL c width stride n) haw hs
      have hin : a + 1 ≤ m ∧ m < hiB width stride a + 1 := by unfold hiB; omega
      have hf : (fromP c width stride a (waysL c width stride n)).f0 = true := by
        cases hf : (fromP c width stride a (waysL c width stride n)).f0 with
        | true => rfl
        | false => have := hb.1 hf m hin.1 hin.2; rw [i1] at this; cases this
      obtain ⟨m', a1, a2, a3, a4, a5⟩ := hb.2 hf
      have hlt := (a5 m hin.1 hin.2 i1).1
      rw [ways_succ _ _ _ _ _ haw]
      refine ⟨hf, ?_⟩
      rw [a4]
      have hcs : costG c a ((m : Int) :: xs) = S c m (m - a) + costG c m xs := by
        show S c m ((m : Int) - (a : Int)).toNat + costG c m xs = _
        rw [sub_nat]
      rw [hcs]
      unfold lt2 cand at hlt
      unfold cand
      simp only [List.length_cons] at *
      omega

theorem Goes.rising {width stride : Int} (hw : width ≤ 128) : ∀ {a : Int} {l : List Int}, Goes width stride a l → Rising a l
  | _, [], _ => trivial
  | _, _ :: _, h => ⟨h.1, Int.le_trans h.2.2.le.1 hw, h.2.2.rising hw⟩
theorem Goes.cost {c : List Int} {width stride : Int} (hst : stride ≤ 20) (hz : ∀ n, width < n → n ≤ 128 → atV c n = 0) : ∀ {a : Int} {l : List Int}, Goes width stride a l → Cost c a l (costG c a l)
  | a, [], h => by
    have h : a = width := h
    subst h
    exact ⟨fun n h1 h2 => hz n h1 h2, rfl⟩
  | a, x :: xs, h => ⟨near_20 _ _ _ (by have := h.2.1; omega), _, h.2.2.cost hst hz, rfl⟩

theorem S_same {c d : List Int} {x : Int} : ∀ (k : Nat), (∀ n, n ≤ x → atV c n = atV d n) → S c x k = S d x k
  | 0, _ => rfl
  | k + 1, h => by
    show S c x k + _ = S d x k + _
    rw [S_same k h, h (x - k) (by omega)]
theorem costG_same {c d : List Int} {width stride : Int} (h : ∀ n, n ≤ width → atV c n = atV d n) : ∀ {a : Int} {l : List Int}, Goes width stride a l → costG c a l = costG d a l
  | _, [], _ => rfl
  | a, x :: xs, hg => by
    show S c x _ + costG c x xs = S d x _ + costG d x xs
    rw [S_same _ (fun n hn => h n (by have := hg.2.2.le.1; omega)), costG_same h hg.2.2]

/-- The counts of the lengths up to the width. -/
def cutC (c : List Int) (width : Int) : List Int := if (c.length : Int) > width + 1 then c.take (width + 1).toNat else c
theorem cutC_zero (c : List Int) (width n : Int) (hw : 0 ≤ width) (h : width < n) : atV (cutC c width) n = 0 := by
  unfold atV
  by_cases h0 : n < 0
  · rw [if_pos h0]
  · rw [if_neg h0, if_pos]
    have hl : ((cutC c width).length : Int) ≤ width + 1 := by
      unfold cutC
      split
      · rw [List.length_take]; omega
      · omega
    unfold mn
    split <;> omega
theorem cutC_same (c : List Int) (width n : Int) (hw : 0 ≤ width) (h : n ≤ width) : atV (cutC c width) n = atV c n := by
  unfold cutC
  split
  · rename_i hc
    unfold atV
    by_cases h0 : n < 0
    · rw [if_pos h0, if_pos h0]
    · rw [if_neg h0, if_neg h0]
      have hl : ((c.take (width + 1).toNat).length : Int) = width + 1 := by rw [List.length_take]; omega
      have hr : rd (c.take (width + 1).toNat) n = rd c n := by
        unfold rd
        rw [List.getD_eq_getElem?_getD, List.getD_eq_getElem?_getD, List.getElem?_take_of_lt (by omega)]
      rw [hl, hr]
      generalize mx 0 (mn (rd c n) 1048576) = t
      unfold mn
      by_cases h1 : (129 : Int) ≤ n
      · rw [if_pos (by split <;> omega), if_pos (by split <;> omega)]
      · rw [if_neg (by split <;> omega), if_neg (by split <;> omega)]
  · rfl

def Able (width low most stride : Int) : Prop := 1 ≤ width ∧ width ≤ 128 ∧ 0 ≤ low ∧ low ≤ width ∧ 0 ≤ most ∧ most ≤ 128 ∧ 1 ≤ stride ∧ stride ≤ 20
def Right (width low most stride : Int) (l : List Int) : Prop := Able width low most stride ∧ (l.length : Int) ≤ most ∧ Goes width stride low l

/-- What Choose answers: whether there are levels at all; they are right; nothing that is right is cheaper, or as cheap and shorter. -/
theorem choose_tells (width low most stride : Int) (c : List Int) :
    ((chooseP width low most stride c).2 = 0 ∧ Right width low most stride (chooseP width low most stride c).1 ∧
      ∀ l, Right width low most stride l → costG c low (chooseP width low most stride c).1 < costG c low l ∨ (costG c low (chooseP width low most stride c).1 = costG c low l ∧ (chooseP width low most stride c).1.length ≤ l.length)) ∨
    (chooseP width low most stride c = ([], 1) ∧ ∀ l, ¬ Right width low most stride l) := by
  by_cases hm : Able width low most stride
  · have hm' := hm
    obtain ⟨h1, h2, h3, h4, h5, h6, h7, h8⟩ := hm
    obtain ⟨n0, rfl⟩ := Int.eq_ofNat_of_zero_le (show 0 ≤ width by omega)
    obtain ⟨n1, rfl⟩ := Int.eq_ofNat_of_zero_le (show 0 ≤ low by omega)
    obtain ⟨n2, rfl⟩ := Int.eq_ofNat_of_zero_le (show 0 ≤ most by omega)
    obtain ⟨n3, rfl⟩ := Int.eq_ofNat_of_zero_le (show 0 ≤ stride by omega)
    have hmay : mayB (n0 : Int) n1 n2 n3 = true := by unfold mayB; exact decide_eq_true hm'
    have hcP : chooseP n0 n1 n2 n3 c = if (rd_T85 (waysL c n0 n3 n2) n1).f0 = true then (walkL c n0 n3 n2 n1, 0) else ([], 1) := by
      unfold chooseP
      rw [if_pos hmay]
      simp only [Int.toNat_natCast]
    by_cases hf : (rd_T85 (waysL c n0 n3 n2) n1).f0 = true
    · rw [if_pos hf] at hcP
      rw [hcP]
      obtain ⟨g1, g2, g3, g4⟩ := walk_goes c n0 n3 (by omega) n2 n1 (by omega) hf
      refine .inl ⟨rfl, ⟨hm', by show ((walkL c n0 n3 n2 n1).length : Int) ≤ _; omega, g1⟩, fun l hl => ?_⟩
      have hb := (walk_best c n0 n3 (by omega) l n2 n1 (by omega) hl.2.2 (by have := hl.2.1; omega)).2
      show costG c n1 (walkL c n0 n3 n2 n1) < _ ∨ (costG c n1 (walkL c n0 n3 n2 n1) = _ ∧ (walkL c n0 n3 n2 n1).length ≤ _)
      omega
    · rw [if_neg hf] at hcP
      exact .inr ⟨hcP, fun l hl => hf (walk_best c n0 n3 (by omega) l n2 n1 (by omega) hl.2.2 (by have := hl.2.1; omega)).1⟩
  · refine .inr ⟨?_, fun l hl => hm hl.1⟩
    unfold chooseP
    rw [if_neg]
    unfold mayB
    rw [decide_eq_true_eq]
    exact hm
end Go.Proofs.Ytlklehliapbgeaa.Lev
