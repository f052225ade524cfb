/- For every width, low, most, stride, place and number: the law LevelsOne answers true. -/
import Derived.Test.YtlklehliapbgeaaPLevelsOnex3
import Derived.Test.YtlklehliapbgeaaRCLevelsOne
import Derived.Test.YtlklehliapbgeaaLRLevelsOne
namespace Go.Proofs.Ytlklehliapbgeaa.Pure
open Go.RowKit Go.Proofs.Ytlklehliapbgeaa.PLevelsOne Go.Proofs.YtlklehliapbgeaaW.PrintWords Go.Proofs.YtlklehliapbgeaaW.PrintLast Go.Proofs.YtlklehliapbgeaaW.PrintMore Go.Proofs.Ytlklehliapbgeaa.Histo
open Go.Proofs.Ytlklehliapbgeaa.Lev (Goes Able Right costG cutC chooseP chooseO choose_tells Goes.le Goes.cost Goes.rising Goes.wider costG_nonneg costG_same cutC_zero cutC_same)

/-- One length of routes: p, of which there are n. -/
def one (p n : Int) : List Int := (List.replicate 129 (0 : Int)).set p.toNat n
theorem one_length (p n : Int) : (one p n).length = 129 := by unfold one; rw [List.length_set, List.length_replicate]
theorem one_at (p n m : Int) (h0 : 0 ≤ p) (h1 : p ≤ 128) (hn : 0 ≤ n) (hn2 : n ≤ 1000) : atV (one p n) m = if m = p then n else 0 := by
  unfold atV
  rw [one_length]
  by_cases hm0 : m < 0
  · rw [if_pos hm0, if_neg (by omega)]
  rw [if_neg hm0]
  have e : mn ((129 : Nat) : Int) 129 = 129 := by unfold mn; split <;> omega
  rw [e]
  by_cases hm1 : m ≥ 129
  · rw [if_pos hm1, if_neg (by omega)]
  rw [if_neg hm1]
  have hr : rd (one p n) m = if m = p then n else 0 := by
    unfold rd one
    rw [List.getD_eq_getElem?_getD, List.getElem?_set]
    by_cases h : m = p
    · subst h
      rw [if_pos rfl, if_pos (by rw [List.length_replicate]; omega), if_pos rfl]; rfl
    · rw [if_neg (by omega), if_neg h, List.getElem?_replicate]
      split <;> rfl
  rw [hr]
  unfold mx mn
  by_cases h : m = p
  · rw [if_pos h]; repeat' split
    all_goals omega
  · rw [if_neg h]; decide
theorem S_one (p n x : Int) (h0 : 0 ≤ p) (h1 : p ≤ 128) (hn : 0 ≤ n) (hn2 : n ≤ 1000) : ∀ d : Nat, S (one p n) x d = if p ≤ x ∧ x - d < p then n * 2 ^ (x - p).toNat else 0
  | 0 => by rw [if_neg (by omega)]; rfl
  | d + 1 => by
    show S (one p n) x d + atV (one p n) (x - d) * 2 ^ d = _
    rw [S_one p n x h0 h1 hn hn2 d, one_at p n _ h0 h1 hn hn2]
    by_cases h : x - (d : Int) = p
    · rw [if_neg (by omega), if_pos h, if_pos (by omega), show (x - p).toNat = d by omega, Int.zero_add]
    · rw [if_neg h, Int.zero_mul, Int.add_zero]
      by_cases hc : p ≤ x ∧ x - (d : Int) < p
      · rw [if_pos hc, if_pos (by omega)]
      · rw [if_neg hc, if_neg (by omega)]
theorem past (p n W st : Int) (h0 : 0 ≤ p) (h1 : p ≤ 128) (hn : 0 ≤ n) (hn2 : n ≤ 1000) : ∀ (l : List Int) (a : Int), p ≤ a → Goes W st a l → costG (one p n) a l = 0
  | [], a, _, _ => rfl
  | x :: xs, a, ha, h => by
    have hx := h.1
    show S (one p n) x (x - a).toNat + costG (one p n) x xs = 0
    rw [S_one p n x h0 h1 hn hn2, if_neg (by omega), past p n W st h0 h1 hn hn2 xs x (by omega) h.2.2]; rfl
/-- A way stops at p, and costs n, or costs more. -/
theorem stops (p n W st : Int) (h0 : 0 ≤ p) (h1 : p ≤ 128) (hn : 1 ≤ n) (hn2 : n ≤ 1000) (hW : p ≤ W) : ∀ (l : List Int) (a : Int), a < p → Goes W st a l → (p ∈ l ∧ costG (one p n) a l = n) ∨ (p ∉ l ∧ n < costG (one p n) a l)
  | [], a, ha, h => by have h : a = W := h; omega
  | x :: xs, a, ha, h => by
    have hx := h.1
    have hm := h.2.2.le.2
    have e : costG (one p n) a (x :: xs) = S (one p n) x (x - a).toNat + costG (one p n) x xs := rfl
    rw [S_one p n x h0 h1 (by omega) hn2] at e
    rcases Int.lt_trichotomy x p with hc | hc | hc
    · rw [if_neg (by omega), Int.zero_add] at e
      rw [e]
      rcases stops p n W st h0 h1 hn hn2 hW xs x hc h.2.2 with ⟨i1, i2⟩ | ⟨i1, i2⟩
      · exact .inl ⟨List.mem_cons_of_mem _ i1, i2⟩
      · refine .inr ⟨fun hp => ?_, i2⟩
        rcases List.mem_cons.mp hp with h | h
        · omega
        · exact i1 h
    · subst hc
      rw [if_pos (by omega), past x n W st h0 h1 (by omega) hn2 xs x (by omega) h.2.2, Int.sub_self] at e
      refine .inl ⟨by simp, ?_⟩
      rw [e]
      show n * 1 + 0 = n
      omega
    · rw [if_pos (by omega), past p n W st h0 h1 (by omega) hn2 xs x (by omega) h.2.2] at e
      refine .inr ⟨fun hp => ?_, ?_⟩
      · rcases List.mem_cons.mp hp with h | h
        · omega
        · have := (hm p h).1; omega
      · obtain ⟨d, hd⟩ : ∃ d : Nat, (x - p).toNat = d + 1 := ⟨(x - p).toNat - 1, by omega⟩
        rw [hd, two_succ] at e
        have hp := two_pos d
        have : n * (2 * 2 ^ d) = 2 * (n * 2 ^ d) := by rw [← Int.mul_assoc, ← Int.mul_assoc, Int.mul_comm n 2]
        have h2 : n * 1 ≤ n * 2 ^ d := Int.mul_le_mul_of_nonneg_left (by omega) (by omega)
        rw [this] at e
        omega
/-- As many levels as it takes. -/
theorem steps (st b : Int) (hs : 1 ≤ st) : ∀ (k : Nat) (a : Int), a ≤ b → b - a ≤ (k : Int) * st → ∃ l, Goes b st a l ∧ l.length ≤ k
  | 0, a, h1, h2 => by
    have : ((0 : Nat) : Int) * st = 0 := Int.zero_mul _
    exact ⟨[], show a = b by omega, Nat.le_refl _⟩
  | k + 1, a, h1, h2 => by
    by_cases hab : a = b
    · exact ⟨[], hab, Nat.zero_le _⟩
    · by_cases hc : b - a ≤ st
      · exact ⟨[b], ⟨by omega, hc, rfl⟩, by simp⟩
      · have e : ((k + 1 : Nat) : Int) * st = (k : Int) * st + st := by rw [Int.natCast_add, Int.add_mul]; simp
        obtain ⟨l, g1, g2⟩ := steps st b hs k (a + st) (by omega) (by omega)
        exact ⟨(a + st) :: l, ⟨by omega, by omega, g1⟩, by simp only [List.length_cons]; omega⟩
theorem Goes.append {W p st : Int} : ∀ {l m : List Int} {a : Int}, Goes p st a l → Goes W st p m → Goes W st a (l ++ m)
  | [], m, a, h, g => by have h : a = p := h; subst h; exact g
  | _ :: _, m, a, h, g => ⟨h.1, h.2.1, Goes.append h.2.2 g⟩
theorem Goes.ends {p st : Int} : ∀ {l : List Int} {a : Int}, Goes p st a l → a < p → p ∈ l
  | [], a, h, g => by have h : a = p := h; omega
  | x :: xs, a, h, g => by
    by_cases e : x = p
    · subst e; simp
    · exact List.mem_cons_of_mem _ (Goes.ends h.2.2 (by have := h.2.2.le.1; omega))
theorem ceil (d st : Int) (hd : 0 ≤ d) (hs : 1 ≤ st) (hd2 : d ≤ 1000) (hs2 : st ≤ 20) : 0 ≤ Int.tdiv (d + st - 1) st ∧ Int.tdiv (d + st - 1) st ≤ 1020 ∧ d ≤ Int.tdiv (d + st - 1) st * st := by
  rw [Int.tdiv_eq_ediv_of_nonneg (by omega)]
  have h1 := Int.mul_ediv_add_emod (d + st - 1) st
  have h2 := Int.emod_lt_of_pos (d + st - 1) (show 0 < st by omega)
  have h3 := Int.ediv_nonneg (show 0 ≤ d + st - 1 by omega) (show 0 ≤ st by omega)
  have h4 := Int.ediv_le_self (a := d + st - 1) st (by omega)
  rw [Int.mul_comm] at h1
  exact ⟨h3, by omega, by omega⟩

theorem loop (low p n : Int) (c l : List Int) (hlen : l.length ≤ 1000) (hc : Ev (fun k => flocculusref11_Cost.f k c l low) (n, true)) : ∀ (rest : List Int) (i : Nat) (b : Bool), l.drop i = rest → i ≤ l.length → (b = true ∨ p ∈ rest) →
    Ev (fun k => flocculuslaw17_LevelsOne.l0 k low p n c l 0 b (i : Int)) true
  | [], i, b, hd, hi, hb => by
    have hl := drop_nil hd
    have hb' : b = true := by
      rcases hb with h | h
      · exact h
      · cases h
    subst hb'
    refine Ev.step (f := fun k => (flocculusref11_Cost.f k c l low).bind fun bt => if bt.2 = true then some (bt.1 == n) else some false) (fun k => ?_) (Ev.bind hc ?_)
    · simp only [flocculuslaw17_LevelsOne.l0]; rw [if_neg (by omega)]
      simp [flocculuslaw17_num.f]
    · refine Ev.congr (f := fun _ => some true) (fun k => ?_) (Ev.now _)
      simp
  | x :: xs, i, b, hd, hi, hb => by
    obtain ⟨hl, hx, hd'⟩ := drop_cons hd
    have ew : wrap64 ((i : Int) + 1) = ((i + 1 : Nat) : Int) := by rw [wrap_of (by omega) (by omega)]; rfl
    by_cases hbt : b = true
    · subst hbt
      refine Ev.step (f := fun k => flocculuslaw17_LevelsOne.l0 k low p n c l 0 true ((i + 1 : Nat) : Int)) (fun k => ?_) (loop low p n c l hlen hc xs (i + 1) true hd' (by omega) (.inl rfl))
      simp only [flocculuslaw17_LevelsOne.l0]; rw [if_pos (by omega), ew]; simp
    · refine Ev.step (f := fun k => flocculuslaw17_LevelsOne.l0 k low p n c l 0 (x == p) ((i + 1 : Nat) : Int)) (fun k => ?_) (loop low p n c l hlen hc xs (i + 1) (x == p) hd' (by omega) ?_)
      · simp only [flocculuslaw17_LevelsOne.l0]; rw [if_pos (by omega), if_neg hbt, if_pos (by omega), ew, hx]
      · rcases hb with h | h
        · exact absurd h hbt
        · rcases List.mem_cons.mp h with h | h
          · left; simp [h]
          · exact .inr h

theorem answer (a0 a1 a2 a3 a4 a5 k1 k2 : Int) (h1 : 1 ≤ a0) (h2 : a0 ≤ 40) (h3 : 0 ≤ a1) (h4 : a1 < a0) (h5 : 2 ≤ a2) (h6 : a2 ≤ 40) (h7 : 1 ≤ a3) (h8 : a3 ≤ 20) (h9 : a1 < a4) (h10 : a4 ≤ a0) (h11 : 1 ≤ a5) (h12 : a5 ≤ 1000)
    (p1 : 0 ≤ k1) (p3 : a4 - a1 ≤ k1 * a3) (q1 : 0 ≤ k2) (q3 : a0 - a4 ≤ k2 * a3) (hneed : k1 + k2 ≤ a2) :
    Ev (fun k => flocculuslaw17_LevelsOne.l0 k a1 a4 a5 (one a4 a5) (chooseP a0 a1 a2 a3 (one a4 a5)).1 (chooseP a0 a1 a2 a3 (one a4 a5)).2 false ((0 : Nat) : Int)) true := by
  obtain ⟨m1, rfl⟩ := Int.eq_ofNat_of_zero_le p1
  obtain ⟨m2, rfl⟩ := Int.eq_ofNat_of_zero_le q1
  obtain ⟨l1, g1, g2⟩ := steps a3 a4 h7 m1 a1 (by omega) p3
  obtain ⟨l2, g3, g4⟩ := steps a3 a0 h7 m2 a4 (by omega) q3
  have hg := Goes.append g1 g3
  have hr : Right a0 a1 a2 a3 (l1 ++ l2) := ⟨by unfold Able; omega, by rw [List.length_append]; omega, hg⟩
  have hin : a4 ∈ l1 ++ l2 := List.mem_append_left _ (Goes.ends g1 h9)
  rcases choose_tells a0 a1 a2 a3 (one a4 a5) with ⟨c1, c2, c3⟩ | ⟨_, hno⟩
  case inr => exact absurd hr (hno _)
  have hb := c3 _ hr
  have hcost : costG (one a4 a5) a1 (l1 ++ l2) = a5 := by
    rcases stops a4 a5 a0 a3 (by omega) (by omega) h11 h12 h10 _ a1 h9 hg with ⟨_, h⟩ | ⟨h, _⟩
    · exact h
    · exact absurd hin h
  rw [hcost] at hb
  rw [c1]
  have hl := c2.2.1
  have hgo := c2.2.2
  rcases stops a4 a5 a0 a3 (by omega) (by omega) h11 h12 h10 _ a1 h9 hgo with ⟨s1, s2⟩ | ⟨_, s2⟩
  case inr => omega
  refine loop a1 a4 a5 (one a4 a5) _ (by omega) ?_ _ 0 false rfl (Nat.zero_le _) (.inr s1)
  have hc := hgo.cost (c := one a4 a5) h8 (fun n hn _ => by rw [one_at a4 a5 n (by omega) (by omega) (by omega) h12, if_neg (by omega)])
  rw [s2] at hc
  exact RCLevelsOne.cost_f_yes _ _ a1 _ (by omega) h3 (hgo.rising (by omega)) hc

set_option maxHeartbeats 1000000 in
theorem main (a0 a1 a2 a3 a4 a5 : Int) (h1 : 1 ≤ a0) (h2 : a0 ≤ 40) (h3 : 0 ≤ a1) (h4 : a1 < a0) (h5 : 2 ≤ a2) (h6 : a2 ≤ 40) (h7 : 1 ≤ a3) (h8 : a3 ≤ 20) (h9 : a1 < a4) (h10 : a4 ≤ a0) (h11 : 1 ≤ a5) (h12 : a5 ≤ 1000) :
    Ev (fun k => flocculuslaw17_LevelsOne.j0 k a0 a1 a2 a3 a4 a5 true false) true := by
  obtain ⟨p1, p2, p3⟩ := ceil (a4 - a1) a3 (by omega) h7 (by omega) h8
  obtain ⟨q1, q2, q3⟩ := ceil (a0 - a4) a3 (by omega) h7 (by omega) h8
  have e1 : wrap64 (a4 - a1) = a4 - a1 := wrap_of (by omega) (by omega)
  have e2 : wrap64 (a4 - a1 + a3) = a4 - a1 + a3 := wrap_of (by omega) (by omega)
  have e3 : wrap64 (a4 - a1 + a3 - 1) = a4 - a1 + a3 - 1 := wrap_of (by omega) (by omega)
  have e4 : wrap64 (a0 - a4) = a0 - a4 := wrap_of (by omega) (by omega)
  have e5 : wrap64 (a0 - a4 + a3) = a0 - a4 + a3 := wrap_of (by omega) (by omega)
  have e6 : wrap64 (a0 - a4 + a3 - 1) = a0 - a4 + a3 - 1 := wrap_of (by omega) (by omega)
  generalize hk1 : Int.tdiv (a4 - a1 + a3 - 1) a3 = k1 at *
  generalize hk2 : Int.tdiv (a0 - a4 + a3 - 1) a3 = k2 at *
  have e7 : wrap64 k1 = k1 := wrap_of (by omega) (by omega)
  have e8 : wrap64 k2 = k2 := wrap_of (by omega) (by omega)
  have e9 : wrap64 (k1 + k2) = k1 + k2 := wrap_of (by omega) (by omega)
  have ec : levels_Choose.f a0 a1 a2 a3 (one a4 a5) = some (chooseP a0 a1 a2 a3 (one a4 a5)) := LRLevelsOne.choose_f _ _ _ _ _ (by rw [one_length]; omega)
  have un : ∀ k, flocculuslaw17_LevelsOne.j0 (k + 1) a0 a1 a2 a3 a4 a5 true false = if k1 + k2 > a2 then some true else flocculuslaw17_LevelsOne.l0 k a1 a4 a5 (one a4 a5) (chooseP a0 a1 a2 a3 (one a4 a5)).1 (chooseP a0 a1 a2 a3 (one a4 a5)).2 false ((0 : Nat) : Int) := fun k => by
    simp only [flocculuslaw17_LevelsOne.j0]
    rw [if_neg (by decide), if_pos (by decide)]
    simp only [Option.bind_some]
    rw [if_pos (by omega), if_pos (by rw [List.length_replicate]; omega)]
    show (levels_Choose.f a0 a1 a2 a3 (one a4 a5)).bind _ = _
    rw [ec]
    simp only [Option.bind_some]
    rw [if_neg (show ¬ a3 = 0 by omega), e1, e2, e3, e4, e5, e6, hk1, hk2, e7, e8, e9]
    rfl
  by_cases hneed : k1 + k2 > a2
  · refine Ev.step (f := fun _ => some true) (fun k => ?_) (Ev.now _)
    rw [un, if_pos hneed]
  refine Ev.step (f := fun k => flocculuslaw17_LevelsOne.l0 k a1 a4 a5 (one a4 a5) (chooseP a0 a1 a2 a3 (one a4 a5)).1 (chooseP a0 a1 a2 a3 (one a4 a5)).2 false ((0 : Nat) : Int)) (fun k => ?_) ?_
  · show flocculuslaw17_LevelsOne.j0 (k + 1) a0 a1 a2 a3 a4 a5 true false = _
    rw [un, if_neg hneed]
  exact answer a0 a1 a2 a3 a4 a5 k1 k2 h1 h2 h3 h4 h5 h6 h7 h8 h9 h10 h11 h12 p1 p3 q1 q3 (by omega)

theorem LevelsOne : flocculuslaw17_LevelsOne.Pure := by
  intro a0 a1 a2 a3 a4 a5 w0 w1 w2 w3 w4 w5
  obtain ⟨Ka, hKa⟩ := LRLevelsOne.alive_f
  have jt : ∀ k, flocculuslaw17_LevelsOne.j0 (k + 1) a0 a1 a2 a3 a4 a5 true true = some true := fun k => by simp only [flocculuslaw17_LevelsOne.j0]; rfl
  by_cases h : 1 ≤ a0 ∧ a0 ≤ 40 ∧ 0 ≤ a1 ∧ a1 < a0 ∧ 2 ≤ a2 ∧ a2 ≤ 40 ∧ 1 ≤ a3 ∧ a3 ≤ 20 ∧ a1 < a4 ∧ a4 ≤ a0 ∧ 1 ≤ a5 ∧ a5 ≤ 1000
  · obtain ⟨h1, h2, h3, h4, h5, h6, h7, h8, h9, h10, h11, h12⟩ := h
    obtain ⟨Km, hKm⟩ := main a0 a1 a2 a3 a4 a5 h1 h2 h3 h4 h5 h6 h7 h8 h9 h10 h11 h12
    refine ⟨Ka + Km, ?_⟩
    have hKa' : flocculuslaw17_alive.f (Ka + Km) = some true := hKa _ (by omega)
    have hKm' : flocculuslaw17_LevelsOne.j0 (Ka + Km) a0 a1 a2 a3 a4 a5 true false = some true := hKm _ (by omega)
    unfold flocculuslaw17_LevelsOne.f
    rw [hKa']
    simp only [Option.bind_some, if_true]
    rw [if_neg (by omega), if_neg (by omega), if_neg (by omega), if_neg (by omega), if_neg (by omega), if_neg (by omega), if_neg (by omega), if_neg (by omega), if_neg (by omega), if_neg (by omega), if_neg (by omega), decide_eq_false (by omega)]
    exact hKm'
  · refine ⟨Ka + 1, ?_⟩
    have hKa' : flocculuslaw17_alive.f (Ka + 1) = some true := hKa _ (by omega)
    unfold flocculuslaw17_LevelsOne.f
    rw [hKa']
    simp only [Option.bind_some, if_true, jt]
    by_cases n1 : a0 < 1
    · rw [if_pos n1]
    rw [if_neg n1]
    by_cases n2 : a0 > 40
    · rw [if_pos n2]
    rw [if_neg n2]
    by_cases n3 : a1 < 0
    · rw [if_pos n3]
    rw [if_neg n3]
    by_cases n4 : a1 ≥ a0
    · rw [if_pos n4]
    rw [if_neg n4]
    by_cases n5 : a2 < 2
    · rw [if_pos n5]
    rw [if_neg n5]
    by_cases n6 : a2 > 40
    · rw [if_pos n6]
    rw [if_neg n6]
    by_cases n7 : a3 < 1
    · rw [if_pos n7]
    rw [if_neg n7]
    by_cases n8 : a3 > 20
    · rw [if_pos n8]
    rw [if_neg n8]
    by_cases n9 : a4 ≤ a1
    · rw [if_pos n9]
    rw [if_neg n9]
    by_cases n10 : a4 > a0
    · rw [if_pos n10]
    rw [if_neg n10]
    by_cases n11 : a5 < 1
    · rw [if_pos n11]
    rw [if_neg n11, decide_eq_true (show a5 > 1000 by omega), jt]
end Go.Proofs.Ytlklehliapbgeaa.Pure
