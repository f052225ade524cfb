/- For every most and uses: the law HopsLeft answers true. No condition. -/
import Derived.Test.YtlklehliapbgeaaHops2
namespace Go.Proofs.Ytlklehliapbgeaa.Hops
open Go.RowKit Go.Maps

theorem below_grown {mb : Nat} {w w1 w2 : World} (h : Below w.heap.size w w1) (hg : w1.grownBy w2 (some mb)) (hm : w.heap.size ≤ mb) : Below w.heap.size w w2 :=
  h.grown hg h.size (fun k e => by injection e with e; omega)
theorem below_drewN {B : Nat} {w w1 : World} (h : Below B w w1) (k : Nat) : Below B w (w1.drewN k) := ⟨h.os, h.tape, h.output, h.size, h.block⟩

theorem new_is (w : World) (most : Int) :
    Calls Try.prog 20 #[.int .i64 most] w fun e w' => ∃ hb mb, e = .returned (.pointer (some ⟨hb, 0, none⟩)) ∧ w.heap.size ≤ hb ∧ w.heap.size ≤ mb ∧ Sees w' hb mb (capm most) 0 (fun _ => 0) 0 ∧ Below w.heap.size w w' := by
  refine (new_any w most).mono ?_
  rintro e w' ⟨rfl, rfl⟩
  exact ⟨_, _, rfl, by omega, Nat.le_refl _, sees_new w _, ((Below.refl _ _).alloc (Nat.le_refl _) _).alloc (by simp) _⟩

set_option maxHeartbeats 1000000 in
theorem alive_any (w : World) : Calls Try.prog 19 #[] w fun e w' => e = .returned (.bool true) ∧ Below w.heap.size w w' := by
  go_enter Try.func19, Try.ntmps19
  go_wp2_with fail
  refine (new_is _ _).mono ?_
  rintro e w1 ⟨hb, mb, rfl, hb1, hb2, hs, hB⟩
  go_wp2_with fail
  refine (count_is _ _ _ _ _ _ _ hs).mono ?_
  rintro e w2 ⟨rfl, rfl⟩
  go_wp2_with fail
  refine (up_true _ _ _ _ _ 5 _ _ hs (by omega) (wf_of (by omega) (by omega)) (by omega) (by omega) (by omega) (Or.inr (by decide))).mono ?_
  rintro e w2 ⟨rfl, hs2, hg⟩
  have hB2 := below_grown hB hg hb2
  clear hs hB
  go_wp2_with fail
  refine (count_is _ _ _ _ _ _ _ hs2).mono ?_
  rintro e w3 ⟨rfl, rfl⟩
  go_wp2_with fail
  refine (uses_is _ _ _ _ _ 5 _ _ hs2 (wf_of (by omega) (by omega))).mono ?_
  rintro e w3 ⟨rfl, rfl⟩
  go_wp2
  go_ret
  exact ⟨rfl, hB2⟩

/-- The uses behind i whole hops and k of the next one. -/
def cL (uses i k : Int) : Int → Int := fun x => if x < 0 then 0 else if x < i then uses else if x = i then k else 0
theorem cL_at (uses i k : Int) (hi : 0 ≤ i) : cL uses i k i = k := by unfold cL; rw [if_neg (by omega), if_neg (by omega), if_pos rfl]
theorem cL_up (uses i k : Int) (hi : 0 ≤ i) : upd (cL uses i k) i (k + 1) = cL uses i (k + 1) := by
  funext x
  by_cases h : x = i
  · subst h; rw [upd_same, cL_at _ _ _ hi]
  · rw [upd_other _ _ h]; unfold cL; rw [if_neg h, if_neg h]
theorem cL_next (uses i : Int) : cL uses i uses = cL uses (i + 1) 0 := by
  funext x
  unfold cL
  split
  · rfl
  · by_cases h : x < i
    · rw [if_pos h, if_pos (by omega)]
    · rw [if_neg h]
      by_cases h2 : x = i
      · rw [if_pos h2, if_pos (by omega)]
      · rw [if_neg h2, if_neg (by omega)]; split <;> rfl
theorem cL_zero (uses : Int) : cL uses 0 0 = fun _ => 0 := by
  funext x
  unfold cL
  by_cases h : x < 0
  · rw [if_pos h]
  · rw [if_neg h, if_neg h]
    by_cases h2 : x = 0
    · rw [if_pos h2]
    · rw [if_neg h2]

/-- The first hop has lost k of its uses. -/
def cD (uses i k : Int) : Int → Int := upd (cL uses i 0) 0 (uses - k)
theorem cD_zero (uses i k : Int) : cD uses i k 0 = uses - k := upd_same _ _ _
theorem cD_start (uses i : Int) (hi : 0 < i) : cL uses i 0 = cD uses i 0 := by
  funext x
  unfold cD
  by_cases h : x = 0
  · subst h; rw [upd_same]; unfold cL; rw [if_neg (by omega), if_pos (by omega)]; omega
  · rw [upd_other _ _ h]
theorem cD_down (uses i k : Int) : upd (cD uses i k) 0 (uses - k - 1) = cD uses i (k + 1) := by
  funext x
  unfold cD
  by_cases h : x = 0
  · subst h; rw [upd_same, upd_same]; omega
  · rw [upd_other _ _ h, upd_other _ _ h, upd_other _ _ h]
theorem cD_high (uses i k : Int) (hi : 0 < i) : cD uses i k i = 0 := by
  unfold cD
  rw [upd_other _ _ (by omega), cL_at _ _ _ (by omega)]

set_option maxHeartbeats 4000000 in
theorem HopsLeft_out (most uses : Int) (w : World) (h : most < 1 ∨ 60 < most ∨ uses < 1 ∨ 20 < uses) :
    Calls Try.prog 6 #[.int .i64 most, .int .i64 uses] w fun e w' => e = .returned (.bool true) ∧ Below w.heap.size w w' := by
  by_cases h1 : most < 1
  · clear h
    go_enter Try.func6, Try.ntmps6
    go_wp2_with fail
    refine (alive_any _).mono ?_
    rintro e w1 ⟨rfl, hB⟩
    go_wp2
    go_ret
    exact ⟨rfl, hB⟩
  by_cases h2 : 60 < most
  · clear h
    go_enter Try.func6, Try.ntmps6
    go_wp2_with fail
    refine (alive_any _).mono ?_
    rintro e w1 ⟨rfl, hB⟩
    go_wp2
    go_ret
    exact ⟨rfl, hB⟩
  by_cases h3 : uses < 1
  · clear h
    go_enter Try.func6, Try.ntmps6
    go_wp2_with fail
    refine (alive_any _).mono ?_
    rintro e w1 ⟨rfl, hB⟩
    go_wp2
    go_ret
    exact ⟨rfl, hB⟩
  · have h4 : 20 < uses := by omega
    clear h
    go_enter Try.func6, Try.ntmps6
    go_wp2_with fail
    refine (alive_any _).mono ?_
    rintro e w1 ⟨rfl, hB⟩
    go_wp2
    go_ret
    exact ⟨rfl, hB⟩

set_option maxHeartbeats 4000000 in
theorem HopsLeft_in (most uses : Nat) (w : World) (h1 : 1 ≤ most) (h2 : most ≤ 60) (h3 : 1 ≤ uses) (h4 : uses ≤ 20) :
    Calls Try.prog 6 #[.int .i64 most, .int .i64 uses] w fun e w' => e = .returned (.bool true) ∧ Below w.heap.size w w' := by
  have hcap : capm (most : Int) = most := by unfold capm; rw [if_neg (by omega), if_pos (by omega)]
  have HC := Lib.hid hcap
  clear hcap
  go_enter Try.func6, Try.ntmps6
  go_wp2_with fail
  refine (alive_any _).mono ?_
  rintro e w1 ⟨rfl, hB⟩
  go_wp2_with fail
  refine (new_is _ _).mono ?_
  rintro e w2 ⟨hb, mb, rfl, hb1, hb2, hs, hB'⟩
  have hB2 : Below w.heap.size w w2 := hB.trans (hB'.mono hB.size)
  have hb3 : w.heap.size ≤ mb := Nat.le_trans hB.size hb2
  rw [HC.out] at hs
  clear hB hB' hb1 hb2
  go_wp2_with fail
  go_loopw [7, 8] (fun i _ wr => ∃ k N : Nat, k ≤ most ∧ i = .int .i64 k ∧ N = k * uses ∧ Sees wr hb mb most N (cL uses k 0) k ∧ Below w.heap.size w wr) (fun i _ _ => most - (intOf i).toNat)
  case atStart => exact ⟨0, 0, by omega, rfl, by simp, by rw [show (((0 : Nat) : Int)) = 0 from rfl, cL_zero]; exact hs, hB2⟩
  case round =>
    obtain ⟨k, N, hk, rfl, hN, hs, hB⟩ := hrel
    clear hB2
    obtain ⟨wo, rfl⟩ : ∃ wo : World, wo = wr := ⟨_, rfl⟩
    have HN := Lib.hid hN
    clear hN
    by_cases hlt : k < most
    · go_wp2_with fail
      go_loopw [8] (fun i wr => ∃ j N2 m : Nat, j ≤ uses ∧ i = .int .i64 j ∧ Hid (N2 = k * uses + j ∧ m = if j = 0 then k else k + 1) ∧ Sees wr hb mb most N2 (cL uses k j) m ∧ Below w.heap.size w wr) (fun i _ => uses - (intOf i).toNat)
      case atStart => exact ⟨0, N, k, by omega, rfl, ⟨by rw [HN.out]; rfl, rfl⟩, hs, hB⟩
      case round =>
        obtain ⟨j, N2, m, hj, rfl, HM, hs2, hB2⟩ := hrel
        obtain ⟨wi, rfl⟩ : ∃ wi : World, wi = wr := ⟨_, rfl⟩
        clear hB hs
        by_cases hlt2 : j < uses
        · have hN2 : N2 < 1000000 := by
            have hM := HM.out.1
            have : k * uses ≤ 60 * 20 := Nat.mul_le_mul (by omega) h4
            omega
          go_wp2_with fail
          refine (up_true _ _ _ _ _ (k : Int) _ _ hs2 hN2 (wf_of (by omega) (by omega)) (by omega) (by rw [cL_at _ _ _ (by omega)]; omega) (by rw [cL_at _ _ _ (by omega)]; omega) (by
            rw [cL_at _ _ _ (by omega)]
            have hM := HM.out.2
            by_cases hz : j = 0
            · right; rw [if_pos hz] at hM; omega
            · left; omega)).mono ?_
          rintro e w3 ⟨rfl, hs3, hg⟩
          have hB3 := below_grown hB2 hg hb3
          rw [cL_at _ _ _ (by omega), cL_up _ _ _ (by omega)] at hs3
          go_wp2
          go_roundw
          case rel =>
            refine ⟨j + 1, N2 + 1, _, by omega, by go_num, ⟨by have := HM.out.1; omega, ?_⟩, hs3, hB3⟩
            have hM := HM.out.2
            by_cases hz : j = 0
            · rw [if_pos (by omega), if_neg (by omega), hM, if_pos hz]
            · rw [if_neg (by omega), if_neg (by omega), hM, if_neg hz]
          case measure => simp [intOf]; omega
        · obtain rfl : j = uses := by omega
          go_wp2
          go_roundw
          case rel =>
            have hM := HM.out
            rw [if_neg (by omega)] at hM
            obtain ⟨hM1, rfl⟩ := hM
            exact ⟨k + 1, N2, by omega, by go_num, by rw [hM1, Nat.add_mul, Nat.one_mul], by rw [cL_next] at hs2; exact hs2, hB2⟩
          case measure => simp [intOf]; omega
    · obtain rfl : k = most := by omega
      have hN : N < 5000 := by
        have hM := HN.out
        have : k * uses ≤ 60 * 20 := Nat.mul_le_mul h2 h4
        omega
      rw [cD_start _ _ (by omega)] at hs
      clear HN hlt
      go_wp2_with fail
      refine (up_false _ _ _ _ _ (k : Int) _ _ hs (wf_of (by omega) (by omega)) (Or.inr ⟨cD_high _ _ _ (by omega), Int.le_refl _⟩)).mono ?_
      rintro e w3 ⟨rfl, q, rfl⟩
      go_wp2_with fail
      refine (count_is _ _ _ _ _ _ _ (hs.draw q)).mono ?_
      rintro e w3 ⟨rfl, rfl⟩
      go_wp2_with fail
      go_loopw [9] (fun i wr => ∃ j N2 m : Nat, j ≤ uses ∧ i = .int .i64 j ∧ N2 ≤ N + j ∧ Hid (m = if j = uses then k - 1 else k) ∧ Sees wr hb mb k N2 (cD uses k j) m ∧ Below w.heap.size w wr) (fun i _ => uses - (intOf i).toNat)
      case atStart => exact ⟨0, N, k, by omega, rfl, by omega, (by rw [if_neg (by omega)] : k = _), hs.draw q, below_drewN hB q⟩
      case round =>
        obtain ⟨j, N2, m, hj, rfl, hN2, HM, hs2, hB2⟩ := hrel
        obtain ⟨wi, rfl⟩ : ∃ wi : World, wi = wr := ⟨_, rfl⟩
        clear hB hs
        by_cases hlt2 : j < uses
        · obtain rfl : m = k := by have := HM.out; rw [if_neg (by omega)] at this; exact this
          clear HM
          go_wp2_with fail
          refine (up_false _ _ _ _ _ (m : Int) _ _ hs2 (wf_of (by omega) (by omega)) (Or.inr ⟨cD_high _ _ _ (by omega), Int.le_refl _⟩)).mono ?_
          rintro e w3 ⟨rfl, q2, rfl⟩
          go_wp2_with fail
          refine (down_true _ _ _ _ _ 0 _ _ (hs2.draw q2) (by omega) (wf_of (by omega) (by omega)) (by rw [cD_zero]; omega) (by rw [cD_zero]; omega)).mono ?_
          rintro e w4 ⟨rfl, hs4, hg⟩
          have hB4 := below_grown (below_drewN hB2 q2) hg hb3
          rw [cD_zero, cD_down] at hs4
          go_wp2
          go_roundw
          case rel =>
            refine ⟨j + 1, N2 + 1, _, by omega, by go_num, by omega, ?_, hs4, hB4⟩
            show _ = _
            by_cases hz : j + 1 = uses
            · rw [if_pos hz, if_pos (by omega)]
            · rw [if_neg hz, if_neg (by omega)]
          case measure => simp [intOf]; omega
        · obtain rfl : j = uses := by omega
          obtain rfl : m = k - 1 := by have := HM.out; rw [if_pos rfl] at this; exact this
          clear HM
          have hz0 : cD (j : Int) k j 0 = 0 := by rw [cD_zero]; omega
          have hzk : cD (j : Int) k j k = 0 := cD_high _ _ _ (by omega)
          have Hz0 := Lib.hid hz0
          have Hzk := Lib.hid hzk
          clear hz0 hzk
          go_wp2_with fail
          refine (up_true _ _ _ _ _ (k : Int) _ _ hs2 (by omega) (wf_of (by omega) (by omega)) (by omega) (by rw [Hzk.out]; omega) (by rw [Hzk.out]; omega) (Or.inr (by omega))).mono ?_
          rintro e w4 ⟨rfl, hs4, hg⟩
          have hB4 := below_grown hB2 hg hb3
          rw [Hzk.out, if_pos rfl, show k - 1 + 1 = k by omega] at hs4
          clear hs2 hB2
          have H0 : Hid (upd (cD (j : Int) k j) k (0 + 1) 0 = 0) := by
            show _ = _
            rw [upd_other _ _ (by omega)]; exact Hz0.out
          go_wp2_with fail
          refine (up_false _ _ _ _ _ 0 _ _ hs4 (wf_of (by omega) (by omega)) (Or.inr ⟨H0.out, Int.le_refl _⟩)).mono ?_
          rintro e w5 ⟨rfl, q5, rfl⟩
          go_wp2_with fail
          refine (down_false _ _ _ _ _ 0 _ _ (hs4.draw q5) (wf_of (by omega) (by omega)) H0.out).mono ?_
          rintro e w6 ⟨rfl, q6, rfl⟩
          go_wp2_with fail
          refine (count_is _ _ _ _ _ _ _ (hs4.draw (q5 + q6))).mono ?_
          rintro e w7 ⟨rfl, rfl⟩
          go_wp2_with fail
          refine (uses_is _ _ _ _ _ 0 _ _ (hs4.draw (q5 + q6)) (wf_of (by omega) (by omega))).mono ?_
          rintro e w7 ⟨rfl, rfl⟩
          rw [H0.out]
          go_wp2
          go_ret
          exact ⟨rfl, below_drewN hB4 (q5 + q6)⟩

theorem HopsLeft_walk (a0 : Int) (_ : (Lit.int .i64 a0).wf = true) (a1 : Int) (_ : (Lit.int .i64 a1).wf = true) (w : World) :
    Calls Try.prog 6 #[.int .i64 a0, .int .i64 a1] w fun e w' => e = .returned (.bool true) ∧ Below w.heap.size w w' := by
  by_cases h : a0 < 1 ∨ 60 < a0 ∨ a1 < 1 ∨ 20 < a1
  · exact HopsLeft_out a0 a1 w h
  · obtain ⟨m, rfl⟩ := Int.eq_ofNat_of_zero_le (show 0 ≤ a0 by omega)
    obtain ⟨u, rfl⟩ := Int.eq_ofNat_of_zero_le (show 0 ≤ a1 by omega)
    exact HopsLeft_in m u w (by omega) (by omega) (by omega) (by omega)
end Go.Proofs.Ytlklehliapbgeaa.Hops
