/- The law CidrBack: it answers true, whatever comes in. -/
import Derived.Test.YtjhlgfafjjmooaaDoorAlive
import Derived.Test.YtjhlgfafjjmooaaDoorPlBack
import Derived.Deep.RegionHeld3
namespace Go.Proofs.YtjhlgfafjjmooaaDoor.Dot
open Go.RowKit Go.Proofs.YtjhlgfafjjmooaaDoor.PCidrTells Go.Proofs.YtjhlgfafjjmooaaDoorW.PrintWords Go.Proofs.YtjhlgfafjjmooaaDoorW.PrintLast Go.Proofs.YtjhlgfafjjmooaaDoorW.PrintMore

/-- What the law asks of a prefix. -/
theorem back_facts (hi n : Int) (h0 : 0 ≤ hi ∧ hi < 18446744073709551616) (hn : 0 ≤ n ∧ n ≤ 32) :
    ∃ a : Int, flocculusref1_Cut.f 200 hi 0 n = some (a, 0) ∧ (0 ≤ a ∧ a < 18446744073709551616) ∧ addr_Right.f a 0 n = some true ∧ readP (showB a n) = some (a, 0, n, 0) ∧ a = (topN hi.toNat n.toNat : Int) ∧ (showB a n).size < 1000000 := by
  obtain ⟨x, rfl⟩ := Int.eq_ofNat_of_zero_le h0.1
  obtain ⟨m, rfl⟩ := Int.eq_ofNat_of_zero_le hn.1
  have hx : x < 18446744073709551616 := by omega
  have hm : m ≤ 32 := by omega
  have hlt : topN x m < 18446744073709551616 := Nat.lt_of_le_of_lt (topN_le _ _) hx
  have hcut := cut_ref 200 x 0 m hx (by decide) (by omega) (by omega)
  rw [show min m 64 = m by omega, show m - 64 = 0 by omega, topN_zero (by decide)] at hcut
  refine ⟨(topN x m : Int), hcut, ⟨by omega, by omega⟩, topN_right x m hx hm, read_back (topN x m) m hlt (topN_32 x m hm) hm (topN_right x m hx hm), rfl, ?_⟩
  have t0 := (byte_txt (topN x m) 0 hlt (by omega) 4 (by omega)).2
  have t1 := (byte_txt (topN x m) 1 hlt (by omega) 4 (by omega)).2
  have t2 := (byte_txt (topN x m) 2 hlt (by omega) 4 (by omega)).2
  have t3 := (byte_txt (topN x m) 3 hlt (by omega) 4 (by omega)).2
  have tn := txt_size m (by omega)
  have hl := congrArg List.length (show_list _ _ _ _ (m : Int) (topN x m : Int) rfl rfl rfl rfl)
  unfold txt at t0 t1 t2 t3 tn
  rw [ba_size] at t0 t1 t2 t3 tn
  rw [data_len] at hl
  simp only [List.length_append, List.length_cons] at hl
  omega
theorem back_same (hi other n m a c : Int) (h0 : 0 ≤ hi ∧ hi < 18446744073709551616) (h1 : 0 ≤ other ∧ other < 18446744073709551616) (hn : 0 ≤ n ∧ n ≤ 32) (hm : 0 ≤ m ∧ m ≤ 32) (ha : a = (topN hi.toNat n.toNat : Int)) (hc : c = (topN other.toNat m.toNat : Int)) :
    (showB a n = showB c m) ↔ (a = c ∧ n = m) := by
  constructor
  · intro h
    have := show_inj hi.toNat other.toNat n.toNat m.toNat (by omega) (by omega) (by omega) (by omega) (by
      rw [show ((n.toNat : Nat) : Int) = n by omega, show ((m.toNat : Nat) : Int) = m by omega, ← ha, ← hc]; exact h)
    omega
  · rintro ⟨rfl, rfl⟩; rfl

set_option maxRecDepth 20000 in
set_option maxHeartbeats 4000000 in
theorem Back_walk (hi other n m : Int) (h0 : 0 ≤ hi ∧ hi < 18446744073709551616) (h1 : 0 ≤ other ∧ other < 18446744073709551616) (hn : -9223372036854775808 ≤ n ∧ n ≤ 9223372036854775807) (hm : -9223372036854775808 ≤ m ∧ m ≤ 9223372036854775807) (w : World) (hE : Env w) :
    Calls Tryd.prog 4 #[.int .u64 hi, .int .u64 other, .int .i64 n, .int .i64 m] w fun e w' => e = .returned (.bool true) ∧ Below w.heap.size w w' := by
  have H0 := Lib.hid hE
  clear hE
  go_enter Tryd.func4, Tryd.ntmps4
  go_wp2_with fail
  refine (alive_is w H0.out).mono ?_
  rintro e w1 ⟨rfl, b1⟩
  have B1 := Lib.hid b1
  clear b1
  by_cases c1 : n < 0
  · go_wp2
    go_ret
    exact ⟨rfl, B1.out⟩
  by_cases c2 : 32 < n
  · go_wp2
    go_ret
    exact ⟨rfl, B1.out⟩
  by_cases c3 : m < 0
  · go_wp2
    go_ret
    exact ⟨rfl, B1.out⟩
  by_cases c4 : 32 < m
  · go_wp2
    go_ret
    exact ⟨rfl, B1.out⟩
  have hn' : 0 ≤ n ∧ n ≤ 32 := by omega
  have hm' : 0 ≤ m ∧ m ≤ 32 := by omega
  obtain ⟨a, ac, ar, art, ard, ae, asz⟩ := back_facts hi n h0 hn'
  obtain ⟨c, cc, cr, crt, crd, ce, csz⟩ := back_facts other m h1 hm'
  have HS := Lib.hid (back_same hi other n m a c h0 h1 hn' hm' ae ce)
  have AC := Lib.hid ac
  have CC := Lib.hid cc
  have ART := Lib.hid art
  have CRT := Lib.hid crt
  have ARD := Lib.hid ard
  clear ac cc art crt ard crd ae ce csz
  have A0 := Lib.hid (show (if (true && decide (n ≤ 32)) = true then showB a n else ByteArray.empty) = showB a n by rw [decide_eq_true hn'.2]; rfl)
  have C0 := Lib.hid (show (if (true && decide (m ≤ 32)) = true then showB c m else ByteArray.empty) = showB c m by rw [decide_eq_true hm'.2]; rfl)
  obtain ⟨x, hx⟩ : ∃ x, x = showB a n := ⟨_, rfl⟩
  obtain ⟨y, hy⟩ : ∃ y, y = showB c m := ⟨_, rfl⟩
  rw [← hx] at asz
  have HX := Lib.hid hx
  have HY := Lib.hid hy
  have ARX := Lib.hid (show readP x = some (a, 0, n, 0) by rw [hx]; exact ARD.out)
  clear hx hy ARD
  go_wp2_with fail
  refine (flocculusref1_Cut.calls 200 hi 0 n a 0 w1 AC.out).mono ?_
  rintro e w2 ⟨rfl, b2⟩
  obtain ⟨w3, hw3⟩ : ∃ w3, w3 = w2.alloc (.cells #[.int .u64 a, .int .u64 0, .int .i64 n] 26 (0, 0)) := ⟨_, rfl⟩
  have p3 : w3.heap[w2.heap.size]? = some (.cells #[.int .u64 a, .int .u64 0, .int .i64 n] 26 (0, 0)) := by rw [hw3]; exact blk_new _ _
  have B3 := Lib.hid (B1.out.trans ((show Below w1.heap.size w1 w3 by rw [hw3]; exact below_alloc b2 _).mono B1.out.size))
  have P3 := Lib.hid p3
  clear b2 p3 AC
  go_upto_region 5 with (fail)
  rw [← hw3]
  clear hw3
  go_wp2_with fail
  refine (flocculusref1_Cut.calls 200 other 0 m c 0 w3 CC.out).mono ?_
  rintro e w4 ⟨rfl, b4⟩
  obtain ⟨w5, hw5⟩ : ∃ w5, w5 = w4.alloc (.cells #[.int .u64 c, .int .u64 0, .int .i64 m] 26 (0, 0)) := ⟨_, rfl⟩
  have q5 : w5.heap[w4.heap.size]? = some (.cells #[.int .u64 c, .int .u64 0, .int .i64 m] 26 (0, 0)) := by rw [hw5]; exact blk_new _ _
  have b5 : Below w3.heap.size w3 w5 := by rw [hw5]; exact below_alloc b4 _
  have B5 := Lib.hid (B3.out.trans (b5.mono B3.out.size))
  have P5 := Lib.hid (blk_below P3.out b5)
  have Q5 := Lib.hid q5
  clear b4 b5 q5 CC B3 P3
  go_upto_region 6 with (fail)
  rw [← hw5]
  clear hw5
  have p0 := blk_cell P5.out 0
  have p1 := blk_cell P5.out 1
  have p2 := blk_cell P5.out 2
  simp only [List.getElem?_toArray, List.getElem?_cons_zero, List.getElem?_cons_succ] at p0 p1 p2
  go_wp2_with fail
  refine (show_is a 0 n true w5 (H0.out.below B5.out) ar hn ART.out).mono ?_
  rw [A0.out, ← HX.out]
  rintro e w6 ⟨rfl, b6⟩
  have B6 := Lib.hid (B5.out.trans (b6.mono B5.out.size))
  have P6 := Lib.hid (blk_below P5.out b6)
  have Q6 := Lib.hid (blk_below Q5.out b6)
  clear b6 B5 P5 Q5 p0 p1 p2
  go_wp2_with fail
  refine (read_is x a 0 n 0 w6 (H0.out.below B6.out) asz ARX.out).mono ?_
  rintro e w7 ⟨rfl, b7⟩
  obtain ⟨w8, hw8⟩ : ∃ w8, w8 = w7.alloc (.cells #[.int .u64 a, .int .u64 0, .int .i64 n] 26 (0, 0)) := ⟨_, rfl⟩
  have r8 : w8.heap[w7.heap.size]? = some (.cells #[.int .u64 a, .int .u64 0, .int .i64 n] 26 (0, 0)) := by rw [hw8]; exact blk_new _ _
  have b8 : Below w6.heap.size w6 w8 := by rw [hw8]; exact below_alloc b7 _
  have B8 := Lib.hid (B6.out.trans (b8.mono B6.out.size))
  have P8 := Lib.hid (blk_below P6.out b8)
  have Q8 := Lib.hid (blk_below Q6.out b8)
  have R8 := Lib.hid r8
  clear b7 b8 r8 B6 P6 Q6 ARX
  go_upto_region 7 with (fail)
  rw [← hw8]
  clear hw8
  have p0 := blk_cell P8.out 0
  have p1 := blk_cell P8.out 1
  have p2 := blk_cell P8.out 2
  have q0 := blk_cell Q8.out 0
  have q1 := blk_cell Q8.out 1
  have q2 := blk_cell Q8.out 2
  have r0 := blk_cell R8.out 0
  have r1 := blk_cell R8.out 1
  have r2 := blk_cell R8.out 2
  simp only [List.getElem?_toArray, List.getElem?_cons_zero, List.getElem?_cons_succ] at p0 p1 p2 q0 q1 q2 r0 r1 r2
  by_cases hac : a = c
  · by_cases hnm : n = m
    · subst hac hnm
      have hxy : x = y := by rw [HX.out, HY.out]
      subst hxy
      clear HS HY
      go_region_held3 (fun w' => w'.cell? ⟨w2.heap.size, 0, none⟩ = some (.int .u64 a) ∧ w'.cell? ⟨w2.heap.size, 1, none⟩ = some (.int .u64 0) ∧ w'.cell? ⟨w2.heap.size, 2, none⟩ = some (.int .i64 n) ∧ w'.cell? ⟨w4.heap.size, 0, none⟩ = some (.int .u64 a) ∧ w'.cell? ⟨w4.heap.size, 1, none⟩ = some (.int .u64 0) ∧ w'.cell? ⟨w4.heap.size, 2, none⟩ = some (.int .i64 n) ∧ w'.cell? ⟨w7.heap.size, 0, none⟩ = some (.int .u64 a) ∧ w'.cell? ⟨w7.heap.size, 1, none⟩ = some (.int .u64 0) ∧ w'.cell? ⟨w7.heap.size, 2, none⟩ = some (.int .i64 n)) (go_keep)
        (first
          | (go_at_call 13; (with_reducible refine (flocculuslaw2_num.calls 0 0 _ rfl).mono ?_); rintro e w9 ⟨rfl, ⟨n9, rfl⟩⟩; have B9 := Lib.hid (pw_below_drewN B8.out (1 + n9)); have P9 := Lib.hid (blk_below P8.out (pw_below_drewN (Below.refl _ _) (1 + n9))); have Q9 := Lib.hid (blk_below Q8.out (pw_below_drewN (Below.refl _ _) (1 + n9))); have R9 := Lib.hid (blk_below R8.out (pw_below_drewN (Below.refl _ _) (1 + n9))))
          | (go_at_call 14; (with_reducible refine (show_is a 0 n true _ (H0.out.below B9.out) ar hn ART.out).mono ?_); rw [A0.out, ← HX.out]; rintro e w10 ⟨rfl, b10⟩; have B10 := Lib.hid (B9.out.trans (b10.mono B9.out.size)); have p10 := blk_below P9.out b10; have q10 := blk_below Q9.out b10; have r10 := blk_below R9.out b10; have p100 := blk_cell p10 0; have p101 := blk_cell p10 1; have p102 := blk_cell p10 2; have q100 := blk_cell q10 0; have q101 := blk_cell q10 1; have q102 := blk_cell q10 2; have r100 := blk_cell r10 0; have r101 := blk_cell r10 1; have r102 := blk_cell r10 2; simp only [List.getElem?_toArray, List.getElem?_cons_zero, List.getElem?_cons_succ] at p100 p101 p102 q100 q101 q102 r100 r101 r102; have P10 := Lib.hid p10;  have Q10 := Lib.hid q10;  have R10 := Lib.hid r10; clear p10 q10 r10)
          | (go_at_call 14; (with_reducible refine (show_is a 0 n true w10 (H0.out.below B10.out) ar hn ART.out).mono ?_); rw [A0.out, ← HX.out]; rintro e w11 ⟨rfl, b11⟩; have B11 := Lib.hid (B10.out.trans (b11.mono B10.out.size)); have p11 := blk_below P10.out b11; have q11 := blk_below Q10.out b11; have r11 := blk_below R10.out b11; have p110 := blk_cell p11 0; have p111 := blk_cell p11 1; have p112 := blk_cell p11 2; have q110 := blk_cell q11 0; have q111 := blk_cell q11 1; have q112 := blk_cell q11 2; have r110 := blk_cell r11 0; have r111 := blk_cell r11 1; have r112 := blk_cell r11 2; simp only [List.getElem?_toArray, List.getElem?_cons_zero, List.getElem?_cons_succ] at p110 p111 p112 q110 q111 q112 r110 r111 r112; have P11 := Lib.hid p11;  have Q11 := Lib.hid q11;  have R11 := Lib.hid r11; clear p11 q11 r11))
      all_goals go_wp2
      all_goals go_ret
      all_goals exact ⟨rfl, B11.out⟩
    · subst hac
      have hs : ¬ x = y := fun e => by
        have := HS.out.mp (by rw [← HX.out, ← HY.out]; exact e)
        exact hnm this.2
      have hsb : (x.toList == y.toList) = false := by
        rw [Lib.toList_data, Lib.toList_data]
        simp only [beq_eq_false_iff_ne, ne_eq]
        exact fun e => hs (ba_ext e)
      have hnb : (n == m) = false := by simp only [beq_eq_false_iff_ne, ne_eq]; exact hnm
      clear HS hs
      go_region_held3 (fun w' => w'.cell? ⟨w2.heap.size, 0, none⟩ = some (.int .u64 a) ∧ w'.cell? ⟨w2.heap.size, 1, none⟩ = some (.int .u64 0) ∧ w'.cell? ⟨w2.heap.size, 2, none⟩ = some (.int .i64 n) ∧ w'.cell? ⟨w4.heap.size, 0, none⟩ = some (.int .u64 a) ∧ w'.cell? ⟨w4.heap.size, 1, none⟩ = some (.int .u64 0) ∧ w'.cell? ⟨w4.heap.size, 2, none⟩ = some (.int .i64 m) ∧ w'.cell? ⟨w7.heap.size, 0, none⟩ = some (.int .u64 a) ∧ w'.cell? ⟨w7.heap.size, 1, none⟩ = some (.int .u64 0) ∧ w'.cell? ⟨w7.heap.size, 2, none⟩ = some (.int .i64 n)) (go_keep)
        (first
          | (go_at_call 13; (with_reducible refine (flocculuslaw2_num.calls 0 0 _ rfl).mono ?_); rintro e w9 ⟨rfl, ⟨n9, rfl⟩⟩; have B9 := Lib.hid (pw_below_drewN B8.out (1 + n9)); have P9 := Lib.hid (blk_below P8.out (pw_below_drewN (Below.refl _ _) (1 + n9))); have Q9 := Lib.hid (blk_below Q8.out (pw_below_drewN (Below.refl _ _) (1 + n9))); have R9 := Lib.hid (blk_below R8.out (pw_below_drewN (Below.refl _ _) (1 + n9))))
          | (go_at_call 14; (with_reducible refine (show_is a 0 n true _ (H0.out.below B9.out) ar hn ART.out).mono ?_); rw [A0.out, ← HX.out]; rintro e w10 ⟨rfl, b10⟩; have B10 := Lib.hid (B9.out.trans (b10.mono B9.out.size)); have p10 := blk_below P9.out b10; have q10 := blk_below Q9.out b10; have r10 := blk_below R9.out b10; have p100 := blk_cell p10 0; have p101 := blk_cell p10 1; have p102 := blk_cell p10 2; have q100 := blk_cell q10 0; have q101 := blk_cell q10 1; have q102 := blk_cell q10 2; have r100 := blk_cell r10 0; have r101 := blk_cell r10 1; have r102 := blk_cell r10 2; simp only [List.getElem?_toArray, List.getElem?_cons_zero, List.getElem?_cons_succ] at p100 p101 p102 q100 q101 q102 r100 r101 r102; have P10 := Lib.hid p10;  have Q10 := Lib.hid q10;  have R10 := Lib.hid r10; clear p10 q10 r10)
          | (go_at_call 14; (with_reducible refine (show_is a 0 m true w10 (H0.out.below B10.out) ar hm CRT.out).mono ?_); rw [C0.out, ← HY.out]; rintro e w11 ⟨rfl, b11⟩; have B11 := Lib.hid (B10.out.trans (b11.mono B10.out.size)); have p11 := blk_below P10.out b11; have q11 := blk_below Q10.out b11; have r11 := blk_below R10.out b11; have p110 := blk_cell p11 0; have p111 := blk_cell p11 1; have p112 := blk_cell p11 2; have q110 := blk_cell q11 0; have q111 := blk_cell q11 1; have q112 := blk_cell q11 2; have r110 := blk_cell r11 0; have r111 := blk_cell r11 1; have r112 := blk_cell r11 2; simp only [List.getElem?_toArray, List.getElem?_cons_zero, List.getElem?_cons_succ] at p110 p111 p112 q110 q111 q112 r110 r111 r112; have P11 := Lib.hid p11;  have Q11 := Lib.hid q11;  have R11 := Lib.hid r11; clear p11 q11 r11))
      all_goals go_wp2
      all_goals go_ret
      all_goals exact ⟨rfl, B11.out⟩
  · have hs : ¬ x = y := fun e => by
      have := HS.out.mp (by rw [← HX.out, ← HY.out]; exact e)
      exact hac this.1
    have hsb : (x.toList == y.toList) = false := by
      rw [Lib.toList_data, Lib.toList_data]
      simp only [beq_eq_false_iff_ne, ne_eq]
      exact fun e => hs (ba_ext e)
    have hnb : (a == c) = false := by simp only [beq_eq_false_iff_ne, ne_eq]; exact hac
    clear HS hs
    go_region_held3 (fun w' => w'.cell? ⟨w2.heap.size, 0, none⟩ = some (.int .u64 a) ∧ w'.cell? ⟨w2.heap.size, 1, none⟩ = some (.int .u64 0) ∧ w'.cell? ⟨w2.heap.size, 2, none⟩ = some (.int .i64 n) ∧ w'.cell? ⟨w4.heap.size, 0, none⟩ = some (.int .u64 c) ∧ w'.cell? ⟨w4.heap.size, 1, none⟩ = some (.int .u64 0) ∧ w'.cell? ⟨w4.heap.size, 2, none⟩ = some (.int .i64 m) ∧ w'.cell? ⟨w7.heap.size, 0, none⟩ = some (.int .u64 a) ∧ w'.cell? ⟨w7.heap.size, 1, none⟩ = some (.int .u64 0) ∧ w'.cell? ⟨w7.heap.size, 2, none⟩ = some (.int .i64 n)) (go_keep)
      (first
        | (go_at_call 13; (with_reducible refine (flocculuslaw2_num.calls 0 0 _ rfl).mono ?_); rintro e w9 ⟨rfl, ⟨n9, rfl⟩⟩; have B9 := Lib.hid (pw_below_drewN B8.out (1 + n9)); have P9 := Lib.hid (blk_below P8.out (pw_below_drewN (Below.refl _ _) (1 + n9))); have Q9 := Lib.hid (blk_below Q8.out (pw_below_drewN (Below.refl _ _) (1 + n9))); have R9 := Lib.hid (blk_below R8.out (pw_below_drewN (Below.refl _ _) (1 + n9))))
        | (go_at_call 14; (with_reducible refine (show_is a 0 n true _ (H0.out.below B9.out) ar hn ART.out).mono ?_); rw [A0.out, ← HX.out]; rintro e w10 ⟨rfl, b10⟩; have B10 := Lib.hid (B9.out.trans (b10.mono B9.out.size)); have p10 := blk_below P9.out b10; have q10 := blk_below Q9.out b10; have r10 := blk_below R9.out b10; have p100 := blk_cell p10 0; have p101 := blk_cell p10 1; have p102 := blk_cell p10 2; have q100 := blk_cell q10 0; have q101 := blk_cell q10 1; have q102 := blk_cell q10 2; have r100 := blk_cell r10 0; have r101 := blk_cell r10 1; have r102 := blk_cell r10 2; simp only [List.getElem?_toArray, List.getElem?_cons_zero, List.getElem?_cons_succ] at p100 p101 p102 q100 q101 q102 r100 r101 r102; have P10 := Lib.hid p10;  have Q10 := Lib.hid q10;  have R10 := Lib.hid r10; clear p10 q10 r10)
        | (go_at_call 14; (with_reducible refine (show_is c 0 m true w10 (H0.out.below B10.out) cr hm CRT.out).mono ?_); rw [C0.out, ← HY.out]; rintro e w11 ⟨rfl, b11⟩; have B11 := Lib.hid (B10.out.trans (b11.mono B10.out.size)); have p11 := blk_below P10.out b11; have q11 := blk_below Q10.out b11; have r11 := blk_below R10.out b11; have p110 := blk_cell p11 0; have p111 := blk_cell p11 1; have p112 := blk_cell p11 2; have q110 := blk_cell q11 0; have q111 := blk_cell q11 1; have q112 := blk_cell q11 2; have r110 := blk_cell r11 0; have r111 := blk_cell r11 1; have r112 := blk_cell r11 2; simp only [List.getElem?_toArray, List.getElem?_cons_zero, List.getElem?_cons_succ] at p110 p111 p112 q110 q111 q112 r110 r111 r112; have P11 := Lib.hid p11;  have Q11 := Lib.hid q11;  have R11 := Lib.hid r11; clear p11 q11 r11))
    all_goals go_wp2
    all_goals go_ret
    all_goals exact ⟨rfl, B11.out⟩
theorem Back_law (hi : Int) (h0 : (Lit.int .u64 hi).wf = true) (other : Int) (h1 : (Lit.int .u64 other).wf = true) (n : Int) (h2 : (Lit.int .i64 n).wf = true) (m : Int) (h3 : (Lit.int .i64 m).wf = true) (w : World) (hE : Env w) :
    Calls Tryd.prog 4 #[.int .u64 hi, .int .u64 other, .int .i64 n, .int .i64 m] w fun e w' => e = .returned (.bool true) ∧ Below w.heap.size w w' :=
  Back_walk hi other n m (wf_u64 h0) (wf_u64 h1) (wf_i64 h2) (wf_i64 h3) w hE
end Go.Proofs.YtjhlgfafjjmooaaDoor.Dot
