/- Package levels: of the levels that are as cheap and as many the first ones by their numbers are chosen; over lists alone. -/
import Derived.Test.YtlklehliapbgeaaLevOpt
namespace Go.Proofs.Ytlklehliapbgeaa.Lev
open Go.RowKit Go.Proofs.Ytlklehliapbgeaa.PLev Go.Proofs.YtlklehliapbgeaaW.PrintWords Go.Proofs.YtlklehliapbgeaaW.PrintLast Go.Proofs.YtlklehliapbgeaaW.PrintMore Go.Proofs.Ytlklehliapbgeaa.Histo

/-- At the first place at which they differ the first list has the lesser number. -/
def lexB : List Int → List Int → Bool
  | x :: xs, y :: ys => if x = y then lexB xs ys else decide (x < y)
  | _, _ => false
theorem lexB_self : ∀ l : List Int, lexB l l = false
  | [] => rfl
  | x :: xs => by simp only [lexB]; rw [if_pos trivial]; exact lexB_self xs
theorem lexB_trans : ∀ {a b c : List Int}, lexB a b = true → lexB b c = true → lexB a c = true
  | [], _, _, h, _ => by simp [lexB] at h
  | _ :: _, [], _, h, _ => by simp [lexB] at h
  | _ :: _, _ :: _, [], _, h => by simp [lexB] at h
  | x :: xs, y :: ys, z :: zs, h1, h2 => by
    simp only [lexB] at h1 h2 ⊢
    by_cases e1 : x = y
    · rw [if_pos e1] at h1
      by_cases e2 : y = z
      · rw [if_pos e2] at h2
        rw [if_pos (e1.trans e2)]
        exact lexB_trans h1 h2
      · rw [if_neg e2, decide_eq_true_eq] at h2
        rw [if_neg (by omega), decide_eq_true_eq]
        omega
    · rw [if_neg e1, decide_eq_true_eq] at h1
      by_cases e2 : y = z
      · rw [if_neg (by omega), decide_eq_true_eq]
        omega
      · rw [if_neg e2, decide_eq_true_eq] at h2
        rw [if_neg (by omega), decide_eq_true_eq]
        omega
theorem lexB_same : ∀ {a b : List Int}, a.length = b.length → lexB a b = false → lexB b a = false → a = b
  | [], [], _, _, _ => rfl
  | [], _ :: _, h, _, _ => by simp at h
  | _ :: _, [], h, _, _ => by simp at h
  | x :: xs, y :: ys, h, h1, h2 => by
    simp only [lexB] at h1 h2
    by_cases e : x = y
    · subst e
      rw [if_pos rfl] at h1 h2
      rw [lexB_same (by simpa using h) h1 h2]
    · rw [if_neg e, decide_eq_false_iff_not] at h1
      rw [if_neg (Ne.symm e), decide_eq_false_iff_not] at h2
      omega

/-- What is better: cheaper, then fewer levels, then the lesser numbers. -/
def ltW (c : List Int) (a : Int) (l m : List Int) : Prop := costG c a l < costG c a m ∨ (costG c a l = costG c a m ∧ (l.length < m.length ∨ (l.length = m.length ∧ lexB l m = true)))
theorem ltW.trans {c : List Int} {a : Int} {l m n : List Int} (h1 : ltW c a l m) (h2 : ltW c a m n) : ltW c a l n := by
  unfold ltW at *
  rcases h1 with h1 | ⟨h1, h1' | ⟨h1', h1''⟩⟩
  · rcases h2 with h2 | ⟨h2, _⟩
    · exact .inl (by omega)
    · exact .inl (by omega)
  · rcases h2 with h2 | ⟨h2, h2' | ⟨h2', h2''⟩⟩
    · exact .inl (by omega)
    · exact .inr ⟨by omega, .inl (by omega)⟩
    · exact .inr ⟨by omega, .inl (by omega)⟩
  · rcases h2 with h2 | ⟨h2, h2' | ⟨h2', h2''⟩⟩
    · exact .inl (by omega)
    · exact .inr ⟨by omega, .inl (by omega)⟩
    · exact .inr ⟨by omega, .inr ⟨by omega, lexB_trans h1'' h2''⟩⟩
theorem ltW_same {c : List Int} {a : Int} {l m : List Int} (h1 : ¬ ltW c a l m) (h2 : ¬ ltW c a m l) : l = m := by
  unfold ltW at *
  have e1 : costG c a l = costG c a m := by omega
  have e2 : l.length = m.length := by omega
  refine lexB_same e2 (Bool.eq_false_iff.mpr fun h => h1 (.inr ⟨e1, .inr ⟨e2, h⟩⟩)) (Bool.eq_false_iff.mpr fun h => h2 (.inr ⟨e1.symm, .inr ⟨e2.symm, h⟩⟩))
/-- In front of both the same level. -/
theorem ltW_cons {c : List Int} {a x : Int} {l m : List Int} (h : ltW c a (x :: l) (x :: m)) : ltW c x l m := by
  unfold ltW at *
  simp only [costG, List.length_cons, lexB, if_true] at h
  rcases h with h | ⟨h, h' | ⟨h', h''⟩⟩
  · exact .inl (by omega)
  · exact .inr ⟨by omega, .inl (by omega)⟩
  · exact .inr ⟨by omega, .inr ⟨by omega, h''⟩⟩

theorem Goes.length_le {width stride : Int} : ∀ {a : Int} {l : List Int}, Goes width stride a l → (l.length : Int) ≤ width - a
  | a, [], h => by have h : a = width := h; simp; omega
  | a, x :: xs, h => by
    have := h.2.2.length_le
    have := h.1
    simp only [List.length_cons]
    omega

/-- Nothing is better than the way that is walked. -/
theorem walk_least (c : List Int) (width stride : Nat) (hs : 1 ≤ stride) : ∀ (l : List Int) (n a : Nat), a ≤ width → Goes width stride a l → l.length ≤ n → ¬ ltW c a l (walkL c width stride n a)
  | [], n, a, ha, h, hl => by
    have e : a = width := by have : (a : Int) = width := h; omega
    subst e
    rw [walk_end]
    intro hh
    rcases hh with hh | ⟨_, hh | ⟨_, hh⟩⟩
    · omega
    · simp at hh
    · simp [lexB] at hh
  | x :: xs, n, a, ha, h, hl => by
    have hbest := walk_best c width stride hs (x :: xs) n a ha h hl
    have hgo := walk_goes c width stride hs n a ha hbest.1
    obtain ⟨h1, h2, h3⟩ := h
    have hx := h3.le.1
    obtain ⟨m, rfl⟩ := Int.eq_ofNat_of_zero_le (show 0 ≤ x by omega)
    match n, hl with
    | n + 1, hl =>
      have haw : a < width := by omega
      have i1 := walk_best c width stride hs xs n m (by omega) h3 (by simp only [List.length_cons] at hl; omega)
      obtain ⟨n', m', hn, e3, a1, a2, a3, a4, a5⟩ := way_step c width stride (n + 1) a haw hs hbest.1
      obtain rfl : n' = n := by omega
      have hw : walkL c width stride (n' + 1) a = (m' : Int) :: walkL c width stride n' m' := by
        simp only [walkL]
        rw [if_neg (by omega), e3, Int.toNat_natCast]
      rw [hw] at hgo ⊢
      by_cases e : m = m'
      · subst e
        exact fun hlt => walk_least c width stride hs xs n' m (by omega) h3 (by simp only [List.length_cons] at hl; omega) (ltW_cons hlt)
      · intro hlt
        have hcost : costG c a ((m : Int) :: xs) = S c m (m - a) + costG c m xs := by
          show S c m ((m : Int) - (a : Int)).toNat + costG c m xs = _
          rw [sub_nat]
        rcases hlt with hlt | ⟨hlt, hlt' | ⟨hlt', hlt''⟩⟩
        · rw [hgo.2.2.1] at hlt; omega
        · have := hgo.2.2.2; have := hgo.2.2.1; omega
        · simp only [lexB] at hlt''
          rw [if_neg (by omega), decide_eq_true_eq] at hlt''
          have hb := best_from c width stride a (waysL c width stride n') haw hs
          rw [ways_succ _ _ _ _ _ haw] at hbest a5 hgo
          obtain ⟨q, q1, q2, q3, q4, q5⟩ := hb.2 hbest.1
          have hq : q = m' := by
            rw [q4] at a5
            unfold cand at a5
            injection a5 with _ _ _ a5
            omega
          subst hq
          have hin : a + 1 ≤ m ∧ m < hiB width stride a + 1 := by unfold hiB; omega
          have h6 := (q5 m hin.1 hin.2 i1.1).2 (by omega)
          have g1 := hgo.2.2.1
          have g2 := hgo.2.2.2
          rw [q4] at g1 g2
          obtain ⟨_, i2⟩ := i1
          unfold lt2 cand at h6
          unfold cand at g1 g2
          simp only [List.length_cons] at *
          omega

/-- The one way: right, and nothing is better. -/
def Chosen (c : List Int) (width low most stride : Int) (l : List Int) : Prop := Right width low most stride l ∧ ∀ m, Right width low most stride m → ¬ ltW c low m l
theorem Chosen.one {c : List Int} {width low most stride : Int} {l m : List Int} (h1 : Chosen c width low most stride l) (h2 : Chosen c width low most stride m) : l = m := ltW_same (h2.2 l h1.1) (h1.2 m h2.1)
theorem choose_chosen (width low most stride : Int) (c : List Int) (h : (chooseP width low most stride c).2 = 0) : Chosen c width low most stride (chooseP width low most stride c).1 := by
  rcases choose_tells width low most stride c with ⟨_, hr, _⟩ | ⟨h0, _⟩
  · refine ⟨hr, fun l hl => ?_⟩
    obtain ⟨hm, _, _⟩ := hr
    have hm' := hm
    obtain ⟨h1, h2, h3, h4, h5, h6, h7, h8⟩ := hm
    obtain ⟨n0, rfl⟩ := Int.eq_ofNat_of_zero_le (show 0 ≤ width by omega)
    obtain ⟨n1, rfl⟩ := Int.eq_ofNat_of_zero_le (show 0 ≤ low by omega)
    obtain ⟨n2, rfl⟩ := Int.eq_ofNat_of_zero_le (show 0 ≤ most by omega)
    obtain ⟨n3, rfl⟩ := Int.eq_ofNat_of_zero_le (show 0 ≤ stride by omega)
    have hmay : mayB (n0 : Int) n1 n2 n3 = true := by unfold mayB; exact decide_eq_true hm'
    have hcP : chooseP n0 n1 n2 n3 c = if (rd_T85 (waysL c n0 n3 n2) n1).f0 = true then (walkL c n0 n3 n2 n1, 0) else ([], 1) := by
      unfold chooseP
      rw [if_pos hmay]
      simp only [Int.toNat_natCast]
    by_cases hf : (rd_T85 (waysL c n0 n3 n2) n1).f0 = true
    · rw [if_pos hf] at hcP
      rw [hcP]
      exact walk_least c n0 n3 (by omega) l n2 n1 (by omega) hl.2.2 (by have := hl.2.1; omega)
    · rw [if_neg hf] at hcP
      rw [hcP] at h
      cases h
  · rw [h0] at h; cases h
end Go.Proofs.Ytlklehliapbgeaa.Lev
