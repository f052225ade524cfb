/- The law ColonsBack: it answers true, whatever comes in. -/
import Derived.Test.YtjhlgfafjjmooaaDoorPlColB
import Derived.Deep.RegionHeld3
namespace Go.Proofs.YtjhlgfafjjmooaaDoor.Dot
open Go.RowKit Go.Proofs.YtjhlgfafjjmooaaDoor.PCidrTells Go.Proofs.YtjhlgfafjjmooaaDoorW.PrintWords Go.Proofs.YtjhlgfafjjmooaaDoorW.PrintLast Go.Proofs.YtjhlgfafjjmooaaDoorW.PrintMore

/-- What the law asks of a prefix. -/
theorem backC_facts (hi lo n : Int) (h0 : 0 ≤ hi ∧ hi < 18446744073709551616) (h1 : 0 ≤ lo ∧ lo < 18446744073709551616) (hn : 0 ≤ n ∧ n ≤ 128) :
    ∃ a c : Nat, flocculusref1_Cut.f 200 hi lo n = some ((a : Int), (c : Int)) ∧ a < 18446744073709551616 ∧ c < 18446744073709551616 ∧ addr_Right.f a c n = some true ∧ readC (showCB a c n) = some ((a : Int), (c : Int), n, 0) ∧ (showCB a c n).size < 900000 := by
  obtain ⟨x, rfl⟩ := Int.eq_ofNat_of_zero_le h0.1
  obtain ⟨y, rfl⟩ := Int.eq_ofNat_of_zero_le h1.1
  obtain ⟨m, rfl⟩ := Int.eq_ofNat_of_zero_le hn.1
  have hx : x < 18446744073709551616 := by omega
  have hy : y < 18446744073709551616 := by omega
  have hm : m ≤ 128 := by omega
  have hl1 : topN x (min m 64) < 18446744073709551616 := Nat.lt_of_le_of_lt (topN_le _ _) hx
  have hl2 : topN y (m - 64) < 18446744073709551616 := Nat.lt_of_le_of_lt (topN_le _ _) hy
  have hcut := cut_ref 200 x y m hx hy hm (by omega)
  have hR := topN_rightC x y m hx hy hm
  refine ⟨topN x (min m 64), topN y (m - 64), hcut, hl1, hl2, hR, readC_back _ _ m hl1 hl2 hm hR, ?_⟩
  unfold showCB showCT
  generalize (bestZ (wordsN (topN x (min m 64)) (topN y (m - 64))) 0 0 0).1 = f
  generalize (bestZ (wordsN (topN x (min m 64)) (topN y (m - 64))) 0 0 0).2 = t
  have hw : (wordsN (topN x (min m 64)) (topN y (m - 64))).length = 8 := rfl
  generalize wordsN (topN x (min m 64)) (topN y (m - 64)) = ws at hw
  have tn := itoa_short (n := (m : Int)) (by omega) (by omega)
  have j0 := joinB_size ws
  have j1 := joinB_size (ws.take f)
  have j2 := joinB_size (ws.drop t)
  have l1 : (ws.take f).length ≤ 8 := by rw [List.length_take]; omega
  have l2 : (ws.drop t).length ≤ 8 := by rw [List.length_drop]; omega
  have hg : (gapT ws f t).size ≤ 100 := by
    unfold gapT
    split
    · simp only [ByteArray.size_append]
      have : (⟨#[58, 58]⟩ : ByteArray).size = 2 := rfl
      omega
    · omega
  simp only [ByteArray.size_append]
  have : (⟨#[47]⟩ : ByteArray).size = 1 := rfl
  omega

set_option maxRecDepth 20000 in
set_option maxHeartbeats 4000000 in
theorem CBack_walk (h1i l1o h2i l2o n m : Int) (h0 : 0 ≤ h1i ∧ h1i < 18446744073709551616) (h1 : 0 ≤ l1o ∧ l1o < 18446744073709551616) (h2 : 0 ≤ h2i ∧ h2i < 18446744073709551616) (h3 : 0 ≤ l2o ∧ l2o < 18446744073709551616) (hn : -9223372036854775808 ≤ n ∧ n ≤ 9223372036854775807) (hm : -9223372036854775808 ≤ m ∧ m ≤ 9223372036854775807) (w : World) (hE : Env2 w) :
    Calls Tryd.prog 7 #[.agg #[.int .u64 h1i, .int .u64 l1o], .agg #[.int .u64 h2i, .int .u64 l2o], .int .i64 n, .int .i64 m] w fun e w' => e = .returned (.bool true) ∧ Below w.heap.size w w' := by
  have H0 := Lib.hid hE
  clear hE
  go_enter Tryd.func7, Tryd.ntmps7
  go_wp2_with fail
  obtain ⟨w0, hw0⟩ : ∃ w0, w0 = (w.alloc (.cells #[.int .u64 h1i, .int .u64 l1o] 24 (0, 0))).alloc (.cells #[.int .u64 h2i, .int .u64 l2o] 24 (0, 0)) := ⟨_, rfl⟩
  have m0 : w0.heap[w.heap.size]? = some (.cells #[.int .u64 h1i, .int .u64 l1o] 24 (0, 0)) := by rw [hw0]; exact blk_alloc (blk_new _ _) _
  have n0 : w0.heap[w.heap.size + 1]? = some (.cells #[.int .u64 h2i, .int .u64 l2o] 24 (0, 0)) := by
    have e : (w.alloc (.cells #[.int .u64 h1i, .int .u64 l1o] 24 (0, 0))).heap.size = w.heap.size + 1 := by simp
    rw [hw0, ← e]; exact blk_new _ _
  have B0 := Lib.hid (show Below w.heap.size w w0 by rw [hw0]; exact below_alloc (below_alloc (Below.refl _ _) _) _)
  rw [← hw0]
  have M0 := Lib.hid m0
  have N0 := Lib.hid n0
  clear hw0 m0 n0
  refine (aliveC_is w0 (H0.out.below B0.out)).mono ?_
  rintro e w1 ⟨rfl, b1⟩
  have B1 := Lib.hid (B0.out.trans (b1.mono B0.out.size))
  have M1 := Lib.hid (blk_below M0.out b1)
  have N1 := Lib.hid (blk_below N0.out b1)
  clear b1 B0 M0 N0
  by_cases c1 : n < 0
  · go_wp2
    go_ret
    exact ⟨rfl, B1.out⟩
  by_cases c2 : 128 < n
  · go_wp2
    go_ret
    exact ⟨rfl, B1.out⟩
  by_cases c3 : m < 0
  · go_wp2
    go_ret
    exact ⟨rfl, B1.out⟩
  by_cases c4 : 128 < m
  · go_wp2
    go_ret
    exact ⟨rfl, B1.out⟩
  have hn' : 0 ≤ n ∧ n ≤ 128 := by omega
  have hm' : 0 ≤ m ∧ m ≤ 128 := by omega
  obtain ⟨a, a', ac, ar, ar', art, ard, asz⟩ := backC_facts h1i l1o n h0 h1 hn'
  obtain ⟨c, c', cc, cr, cr', crt, crd, csz⟩ := backC_facts h2i l2o m h2 h3 hm'
  have AC := Lib.hid ac
  have CC := Lib.hid cc
  obtain ⟨x, hx⟩ : ∃ x, x = showCB a a' n := ⟨_, rfl⟩
  obtain ⟨y, hy⟩ : ∃ y, y = showCB c c' m := ⟨_, rfl⟩
  rw [← hx] at asz ard
  rw [← hy] at crd
  have HS := Lib.hid (show x = y → (a = c ∧ a' = c' ∧ n = m) from fun e => by
    rw [e, crd] at ard
    simp only [Option.some.injEq, Prod.mk.injEq] at ard
    obtain ⟨e1, e2, e3, _⟩ := ard
    exact ⟨by omega, by omega, e3.symm⟩)
  have ARX := Lib.hid ard
  have SA := Lib.hid (show ∀ (W : World) (_ : Env2 W), Calls Tryd.prog 21 #[.agg #[.int .u64 a, .int .u64 a', .int .i64 n]] W fun e W' => e = .returned (.string x) ∧ Below W.heap.size W W' from fun W hE =>
    (showC_at a a' n true W hE ar ar' hn art).mono fun e W' h => ⟨by rw [h.1, if_pos rfl, hx], h.2⟩)
  have SC := Lib.hid (show ∀ (W : World) (_ : Env2 W), Calls Tryd.prog 21 #[.agg #[.int .u64 c, .int .u64 c', .int .i64 m]] W fun e W' => e = .returned (.string y) ∧ Below W.heap.size W W' from fun W hE =>
    (showC_at c c' m true W hE cr cr' hm crt).mono fun e W' h => ⟨by rw [h.1, if_pos rfl, hy], h.2⟩)
  have HX := Lib.hid hx
  have HY := Lib.hid hy
  clear ac cc art crt ard crd hx hy csz
  have u0 := blk_cell M1.out 0
  have u1 := blk_cell M1.out 1
  simp only [List.getElem?_toArray, List.getElem?_cons_zero, List.getElem?_cons_succ] at u0 u1
  go_wp2_with fail
  refine (flocculusref1_Cut.calls 200 h1i l1o n a a' w1 AC.out).mono ?_
  rintro e w2 ⟨rfl, b2⟩
  obtain ⟨w3, hw3⟩ : ∃ w3, w3 = w2.alloc (.cells #[.int .u64 a, .int .u64 a', .int .i64 n] 26 (0, 0)) := ⟨_, rfl⟩
  have p3 : w3.heap[w2.heap.size]? = some (.cells #[.int .u64 a, .int .u64 a', .int .i64 n] 26 (0, 0)) := by rw [hw3]; exact blk_new _ _
  have b3 : Below w1.heap.size w1 w3 := by rw [hw3]; exact below_alloc b2 _
  have B3 := Lib.hid (B1.out.trans (b3.mono B1.out.size))
  have N3 := Lib.hid (blk_below N1.out b3)
  have P3 := Lib.hid p3
  clear b2 b3 p3 AC B1 M1 N1 u0 u1
  go_upto_region 5 with (fail)
  rw [← hw3]
  clear hw3
  have u0 := blk_cell N3.out 0
  have u1 := blk_cell N3.out 1
  simp only [List.getElem?_toArray, List.getElem?_cons_zero, List.getElem?_cons_succ] at u0 u1
  go_wp2_with fail
  refine (flocculusref1_Cut.calls 200 h2i l2o m c c' w3 CC.out).mono ?_
  rintro e w4 ⟨rfl, b4⟩
  obtain ⟨w5, hw5⟩ : ∃ w5, w5 = w4.alloc (.cells #[.int .u64 c, .int .u64 c', .int .i64 m] 26 (0, 0)) := ⟨_, rfl⟩
  have q5 : w5.heap[w4.heap.size]? = some (.cells #[.int .u64 c, .int .u64 c', .int .i64 m] 26 (0, 0)) := by rw [hw5]; exact blk_new _ _
  have b5 : Below w3.heap.size w3 w5 := by rw [hw5]; exact below_alloc b4 _
  have B5 := Lib.hid (B3.out.trans (b5.mono B3.out.size))
  have P5 := Lib.hid (blk_below P3.out b5)
  have Q5 := Lib.hid q5
  clear b4 b5 q5 CC B3 P3 N3 u0 u1
  go_upto_region 6 with (fail)
  rw [← hw5]
  clear hw5
  have p0 := blk_cell P5.out 0
  have p1 := blk_cell P5.out 1
  have p2 := blk_cell P5.out 2
  simp only [List.getElem?_toArray, List.getElem?_cons_zero, List.getElem?_cons_succ] at p0 p1 p2
  go_wp2_with fail
  refine (SA.out w5 (H0.out.below B5.out)).mono ?_
  rintro e w6 ⟨rfl, b6⟩
  have B6 := Lib.hid (B5.out.trans (b6.mono B5.out.size))
  have P6 := Lib.hid (blk_below P5.out b6)
  have Q6 := Lib.hid (blk_below Q5.out b6)
  clear b6 B5 P5 Q5 p0 p1 p2
  go_wp2_with fail
  refine (readC_is x a a' n 0 w6 (H0.out.below B6.out).e asz ARX.out).mono ?_
  rintro e w7 ⟨rfl, b7⟩
  obtain ⟨w8, hw8⟩ : ∃ w8, w8 = w7.alloc (.cells #[.int .u64 a, .int .u64 a', .int .i64 n] 26 (0, 0)) := ⟨_, rfl⟩
  have r8 : w8.heap[w7.heap.size]? = some (.cells #[.int .u64 a, .int .u64 a', .int .i64 n] 26 (0, 0)) := by rw [hw8]; exact blk_new _ _
  have b8 : Below w6.heap.size w6 w8 := by rw [hw8]; exact below_alloc b7 _
  have B8 := Lib.hid (B6.out.trans (b8.mono B6.out.size))
  have P8 := Lib.hid (blk_below P6.out b8)
  have Q8 := Lib.hid (blk_below Q6.out b8)
  have R8 := Lib.hid r8
  clear b7 b8 r8 B6 P6 Q6 ARX
  go_upto_region 7 with (fail)
  rw [← hw8]
  clear hw8
  have p0 := blk_cell P8.out 0
  have p1 := blk_cell P8.out 1
  have p2 := blk_cell P8.out 2
  have q0 := blk_cell Q8.out 0
  have q1 := blk_cell Q8.out 1
  have q2 := blk_cell Q8.out 2
  have r0 := blk_cell R8.out 0
  have r1 := blk_cell R8.out 1
  have r2 := blk_cell R8.out 2
  simp only [List.getElem?_toArray, List.getElem?_cons_zero, List.getElem?_cons_succ] at p0 p1 p2 q0 q1 q2 r0 r1 r2
  by_cases hac : a = c
  · by_cases hac' : a' = c'
    · by_cases hnm : n = m
      · subst hac hac' hnm
        have hxy : x = y := by rw [HX.out, HY.out]
        subst hxy
        clear HS HY
        go_region_held3 (fun w' => w'.cell? ⟨w2.heap.size, 0, none⟩ = some (.int .u64 a) ∧ w'.cell? ⟨w2.heap.size, 1, none⟩ = some (.int .u64 a') ∧ w'.cell? ⟨w2.heap.size, 2, none⟩ = some (.int .i64 n) ∧ w'.cell? ⟨w4.heap.size, 0, none⟩ = some (.int .u64 a) ∧ w'.cell? ⟨w4.heap.size, 1, none⟩ = some (.int .u64 a') ∧ w'.cell? ⟨w4.heap.size, 2, none⟩ = some (.int .i64 n) ∧ w'.cell? ⟨w7.heap.size, 0, none⟩ = some (.int .u64 a) ∧ w'.cell? ⟨w7.heap.size, 1, none⟩ = some (.int .u64 a') ∧ w'.cell? ⟨w7.heap.size, 2, none⟩ = some (.int .i64 n)) (go_keep)
          (first
            | (go_at_call 20; (with_reducible refine (flocculuslaw3_num.calls 0 0 _ rfl).mono ?_); rintro e w9 ⟨rfl, ⟨n9, rfl⟩⟩; have B9 := Lib.hid (pw_below_drewN B8.out (1 + n9)); have P9 := Lib.hid (blk_below P8.out (pw_below_drewN (Below.refl _ _) (1 + n9))); have Q9 := Lib.hid (blk_below Q8.out (pw_below_drewN (Below.refl _ _) (1 + n9))); have R9 := Lib.hid (blk_below R8.out (pw_below_drewN (Below.refl _ _) (1 + n9))))
            | (go_at_call 21; (with_reducible refine (SA.out _ (H0.out.below B9.out)).mono ?_); rintro e w10 ⟨rfl, b10⟩; have B10 := Lib.hid (B9.out.trans (b10.mono B9.out.size)); have p10 := blk_below P9.out b10; have q10 := blk_below Q9.out b10; have r10 := blk_below R9.out b10; have p100 := blk_cell p10 0; have p101 := blk_cell p10 1; have p102 := blk_cell p10 2; have q100 := blk_cell q10 0; have q101 := blk_cell q10 1; have q102 := blk_cell q10 2; have r100 := blk_cell r10 0; have r101 := blk_cell r10 1; have r102 := blk_cell r10 2; simp only [List.getElem?_toArray, List.getElem?_cons_zero, List.getElem?_cons_succ] at p100 p101 p102 q100 q101 q102 r100 r101 r102; have P10 := Lib.hid p10;  have Q10 := Lib.hid q10;  have R10 := Lib.hid r10; clear p10 q10 r10)
            | (go_at_call 21; (with_reducible refine (SA.out w10 (H0.out.below B10.out)).mono ?_); rintro e w11 ⟨rfl, b11⟩; have B11 := Lib.hid (B10.out.trans (b11.mono B10.out.size)); have p11 := blk_below P10.out b11; have q11 := blk_below Q10.out b11; have r11 := blk_below R10.out b11; have p110 := blk_cell p11 0; have p111 := blk_cell p11 1; have p112 := blk_cell p11 2; have q110 := blk_cell q11 0; have q111 := blk_cell q11 1; have q112 := blk_cell q11 2; have r110 := blk_cell r11 0; have r111 := blk_cell r11 1; have r112 := blk_cell r11 2; simp only [List.getElem?_toArray, List.getElem?_cons_zero, List.getElem?_cons_succ] at p110 p111 p112 q110 q111 q112 r110 r111 r112; have P11 := Lib.hid p11;  have Q11 := Lib.hid q11;  have R11 := Lib.hid r11; clear p11 q11 r11))
        all_goals go_wp2
        all_goals go_ret
        all_goals exact ⟨rfl, B11.out⟩
      · subst hac hac'
        have hs : ¬ x = y := fun e => by
          have := HS.out e
          exact hnm this.2.2
        have hsb : (x.toList == y.toList) = false := by
          rw [Lib.toList_data, Lib.toList_data]
          simp only [beq_eq_false_iff_ne, ne_eq]
          exact fun e => hs (ba_ext e)
        have hnb : (n == m) = false := by simp only [beq_eq_false_iff_ne, ne_eq]; exact hnm
        clear HS hs
        go_region_held3 (fun w' => w'.cell? ⟨w2.heap.size, 0, none⟩ = some (.int .u64 a) ∧ w'.cell? ⟨w2.heap.size, 1, none⟩ = some (.int .u64 a') ∧ w'.cell? ⟨w2.heap.size, 2, none⟩ = some (.int .i64 n) ∧ w'.cell? ⟨w4.heap.size, 0, none⟩ = some (.int .u64 a) ∧ w'.cell? ⟨w4.heap.size, 1, none⟩ = some (.int .u64 a') ∧ w'.cell? ⟨w4.heap.size, 2, none⟩ = some (.int .i64 m) ∧ w'.cell? ⟨w7.heap.size, 0, none⟩ = some (.int .u64 a) ∧ w'.cell? ⟨w7.heap.size, 1, none⟩ = some (.int .u64 a') ∧ w'.cell? ⟨w7.heap.size, 2, none⟩ = some (.int .i64 n)) (go_keep)
          (first
            | (go_at_call 20; (with_reducible refine (flocculuslaw3_num.calls 0 0 _ rfl).mono ?_); rintro e w9 ⟨rfl, ⟨n9, rfl⟩⟩; have B9 := Lib.hid (pw_below_drewN B8.out (1 + n9)); have P9 := Lib.hid (blk_below P8.out (pw_below_drewN (Below.refl _ _) (1 + n9))); have Q9 := Lib.hid (blk_below Q8.out (pw_below_drewN (Below.refl _ _) (1 + n9))); have R9 := Lib.hid (blk_below R8.out (pw_below_drewN (Below.refl _ _) (1 + n9))))
            | (go_at_call 21; (with_reducible refine (SA.out _ (H0.out.below B9.out)).mono ?_); rintro e w10 ⟨rfl, b10⟩; have B10 := Lib.hid (B9.out.trans (b10.mono B9.out.size)); have p10 := blk_below P9.out b10; have q10 := blk_below Q9.out b10; have r10 := blk_below R9.out b10; have p100 := blk_cell p10 0; have p101 := blk_cell p10 1; have p102 := blk_cell p10 2; have q100 := blk_cell q10 0; have q101 := blk_cell q10 1; have q102 := blk_cell q10 2; have r100 := blk_cell r10 0; have r101 := blk_cell r10 1; have r102 := blk_cell r10 2; simp only [List.getElem?_toArray, List.getElem?_cons_zero, List.getElem?_cons_succ] at p100 p101 p102 q100 q101 q102 r100 r101 r102; have P10 := Lib.hid p10;  have Q10 := Lib.hid q10;  have R10 := Lib.hid r10; clear p10 q10 r10)
            | (go_at_call 21; (with_reducible refine (SC.out w10 (H0.out.below B10.out)).mono ?_); rintro e w11 ⟨rfl, b11⟩; have B11 := Lib.hid (B10.out.trans (b11.mono B10.out.size)); have p11 := blk_below P10.out b11; have q11 := blk_below Q10.out b11; have r11 := blk_below R10.out b11; have p110 := blk_cell p11 0; have p111 := blk_cell p11 1; have p112 := blk_cell p11 2; have q110 := blk_cell q11 0; have q111 := blk_cell q11 1; have q112 := blk_cell q11 2; have r110 := blk_cell r11 0; have r111 := blk_cell r11 1; have r112 := blk_cell r11 2; simp only [List.getElem?_toArray, List.getElem?_cons_zero, List.getElem?_cons_succ] at p110 p111 p112 q110 q111 q112 r110 r111 r112; have P11 := Lib.hid p11;  have Q11 := Lib.hid q11;  have R11 := Lib.hid r11; clear p11 q11 r11))
        all_goals go_wp2
        all_goals go_ret
        all_goals exact ⟨rfl, B11.out⟩
    · subst hac
      have hs : ¬ x = y := fun e => by
        have := HS.out e
        exact hac' this.2.1
      have hsb : (x.toList == y.toList) = false := by
        rw [Lib.toList_data, Lib.toList_data]
        simp only [beq_eq_false_iff_ne, ne_eq]
        exact fun e => hs (ba_ext e)
      have hnb : ((a' : Int) == (c' : Int)) = false := by simp only [beq_eq_false_iff_ne, ne_eq]; omega
      clear HS hs
      go_region_held3 (fun w' => w'.cell? ⟨w2.heap.size, 0, none⟩ = some (.int .u64 a) ∧ w'.cell? ⟨w2.heap.size, 1, none⟩ = some (.int .u64 a') ∧ w'.cell? ⟨w2.heap.size, 2, none⟩ = some (.int .i64 n) ∧ w'.cell? ⟨w4.heap.size, 0, none⟩ = some (.int .u64 a) ∧ w'.cell? ⟨w4.heap.size, 1, none⟩ = some (.int .u64 c') ∧ w'.cell? ⟨w4.heap.size, 2, none⟩ = some (.int .i64 m) ∧ w'.cell? ⟨w7.heap.size, 0, none⟩ = some (.int .u64 a) ∧ w'.cell? ⟨w7.heap.size, 1, none⟩ = some (.int .u64 a') ∧ w'.cell? ⟨w7.heap.size, 2, none⟩ = some (.int .i64 n)) (go_keep)
        (first
          | (go_at_call 20; (with_reducible refine (flocculuslaw3_num.calls 0 0 _ rfl).mono ?_); rintro e w9 ⟨rfl, ⟨n9, rfl⟩⟩; have B9 := Lib.hid (pw_below_drewN B8.out (1 + n9)); have P9 := Lib.hid (blk_below P8.out (pw_below_drewN (Below.refl _ _) (1 + n9))); have Q9 := Lib.hid (blk_below Q8.out (pw_below_drewN (Below.refl _ _) (1 + n9))); have R9 := Lib.hid (blk_below R8.out (pw_below_drewN (Below.refl _ _) (1 + n9))))
          | (go_at_call 21; (with_reducible refine (SA.out _ (H0.out.below B9.out)).mono ?_); rintro e w10 ⟨rfl, b10⟩; have B10 := Lib.hid (B9.out.trans (b10.mono B9.out.size)); have p10 := blk_below P9.out b10; have q10 := blk_below Q9.out b10; have r10 := blk_below R9.out b10; have p100 := blk_cell p10 0; have p101 := blk_cell p10 1; have p102 := blk_cell p10 2; have q100 := blk_cell q10 0; have q101 := blk_cell q10 1; have q102 := blk_cell q10 2; have r100 := blk_cell r10 0; have r101 := blk_cell r10 1; have r102 := blk_cell r10 2; simp only [List.getElem?_toArray, List.getElem?_cons_zero, List.getElem?_cons_succ] at p100 p101 p102 q100 q101 q102 r100 r101 r102; have P10 := Lib.hid p10;  have Q10 := Lib.hid q10;  have R10 := Lib.hid r10; clear p10 q10 r10)
          | (go_at_call 21; (with_reducible refine (SC.out w10 (H0.out.below B10.out)).mono ?_); rintro e w11 ⟨rfl, b11⟩; have B11 := Lib.hid (B10.out.trans (b11.mono B10.out.size)); have p11 := blk_below P10.out b11; have q11 := blk_below Q10.out b11; have r11 := blk_below R10.out b11; have p110 := blk_cell p11 0; have p111 := blk_cell p11 1; have p112 := blk_cell p11 2; have q110 := blk_cell q11 0; have q111 := blk_cell q11 1; have q112 := blk_cell q11 2; have r110 := blk_cell r11 0; have r111 := blk_cell r11 1; have r112 := blk_cell r11 2; simp only [List.getElem?_toArray, List.getElem?_cons_zero, List.getElem?_cons_succ] at p110 p111 p112 q110 q111 q112 r110 r111 r112; have P11 := Lib.hid p11;  have Q11 := Lib.hid q11;  have R11 := Lib.hid r11; clear p11 q11 r11))
      all_goals go_wp2
      all_goals go_ret
      all_goals exact ⟨rfl, B11.out⟩
  · have hs : ¬ x = y := fun e => by
      have := HS.out e
      exact hac this.1
    have hsb : (x.toList == y.toList) = false := by
      rw [Lib.toList_data, Lib.toList_data]
      simp only [beq_eq_false_iff_ne, ne_eq]
      exact fun e => hs (ba_ext e)
    have hnb : ((a : Int) == (c : Int)) = false := by simp only [beq_eq_false_iff_ne, ne_eq]; omega
    clear HS hs
    go_region_held3 (fun w' => w'.cell? ⟨w2.heap.size, 0, none⟩ = some (.int .u64 a) ∧ w'.cell? ⟨w2.heap.size, 1, none⟩ = some (.int .u64 a') ∧ w'.cell? ⟨w2.heap.size, 2, none⟩ = some (.int .i64 n) ∧ w'.cell? ⟨w4.heap.size, 0, none⟩ = some (.int .u64 c) ∧ w'.cell? ⟨w4.heap.size, 1, none⟩ = some (.int .u64 c') ∧ w'.cell? ⟨w4.heap.size, 2, none⟩ = some (.int .i64 m) ∧ w'.cell? ⟨w7.heap.size, 0, none⟩ = some (.int .u64 a) ∧ w'.cell? ⟨w7.heap.size, 1, none⟩ = some (.int .u64 a') ∧ w'.cell? ⟨w7.heap.size, 2, none⟩ = some (.int .i64 n)) (go_keep)
      (first
        | (go_at_call 20; (with_reducible refine (flocculuslaw3_num.calls 0 0 _ rfl).mono ?_); rintro e w9 ⟨rfl, ⟨n9, rfl⟩⟩; have B9 := Lib.hid (pw_below_drewN B8.out (1 + n9)); have P9 := Lib.hid (blk_below P8.out (pw_below_drewN (Below.refl _ _) (1 + n9))); have Q9 := Lib.hid (blk_below Q8.out (pw_below_drewN (Below.refl _ _) (1 + n9))); have R9 := Lib.hid (blk_below R8.out (pw_below_drewN (Below.refl _ _) (1 + n9))))
        | (go_at_call 21; (with_reducible refine (SA.out _ (H0.out.below B9.out)).mono ?_); rintro e w10 ⟨rfl, b10⟩; have B10 := Lib.hid (B9.out.trans (b10.mono B9.out.size)); have p10 := blk_below P9.out b10; have q10 := blk_below Q9.out b10; have r10 := blk_below R9.out b10; have p100 := blk_cell p10 0; have p101 := blk_cell p10 1; have p102 := blk_cell p10 2; have q100 := blk_cell q10 0; have q101 := blk_cell q10 1; have q102 := blk_cell q10 2; have r100 := blk_cell r10 0; have r101 := blk_cell r10 1; have r102 := blk_cell r10 2; simp only [List.getElem?_toArray, List.getElem?_cons_zero, List.getElem?_cons_succ] at p100 p101 p102 q100 q101 q102 r100 r101 r102; have P10 := Lib.hid p10;  have Q10 := Lib.hid q10;  have R10 := Lib.hid r10; clear p10 q10 r10)
        | (go_at_call 21; (with_reducible refine (SC.out w10 (H0.out.below B10.out)).mono ?_); rintro e w11 ⟨rfl, b11⟩; have B11 := Lib.hid (B10.out.trans (b11.mono B10.out.size)); have p11 := blk_below P10.out b11; have q11 := blk_below Q10.out b11; have r11 := blk_below R10.out b11; have p110 := blk_cell p11 0; have p111 := blk_cell p11 1; have p112 := blk_cell p11 2; have q110 := blk_cell q11 0; have q111 := blk_cell q11 1; have q112 := blk_cell q11 2; have r110 := blk_cell r11 0; have r111 := blk_cell r11 1; have r112 := blk_cell r11 2; simp only [List.getElem?_toArray, List.getElem?_cons_zero, List.getElem?_cons_succ] at p110 p111 p112 q110 q111 q112 r110 r111 r112; have P11 := Lib.hid p11;  have Q11 := Lib.hid q11;  have R11 := Lib.hid r11; clear p11 q11 r11))
    all_goals go_wp2
    all_goals go_ret
    all_goals exact ⟨rfl, B11.out⟩
theorem CBack_law (a0 a1 : Int) (h0 : (Lit.int .u64 a0).wf = true ∧ (Lit.int .u64 a1).wf = true) (b0 b1 : Int) (h1 : (Lit.int .u64 b0).wf = true ∧ (Lit.int .u64 b1).wf = true) (n : Int) (h2 : (Lit.int .i64 n).wf = true) (m : Int) (h3 : (Lit.int .i64 m).wf = true) (w : World) (hE : Env2 w) :
    Calls Tryd.prog 7 #[.agg #[.int .u64 a0, .int .u64 a1], .agg #[.int .u64 b0, .int .u64 b1], .int .i64 n, .int .i64 m] w fun e w' => e = .returned (.bool true) ∧ Below w.heap.size w w' :=
  CBack_walk a0 a1 b0 b1 n m (wf_u64 h0.1) (wf_u64 h0.2) (wf_u64 h1.1) (wf_u64 h1.2) (wf_i64 h2) (wf_i64 h3) w hE
end Go.Proofs.YtjhlgfafjjmooaaDoor.Dot
