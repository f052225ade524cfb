/- The law ColonsTell: it answers true, whatever comes in. -/
import Derived.Test.YtjhlgfafjjmooaaDoorPlColR
import Derived.Test.YtjhlgfafjjmooaaDoorPlColS
namespace Go.Proofs.YtjhlgfafjjmooaaDoor.Dot
open Go.RowKit Go.Proofs.YtjhlgfafjjmooaaDoor.PCidrTells Go.Proofs.YtjhlgfafjjmooaaDoorW.PrintWords Go.Proofs.YtjhlgfafjjmooaaDoorW.PrintLast Go.Proofs.YtjhlgfafjjmooaaDoorW.PrintMore

theorem readC_total (s : ByteArray) : ∃ r1 r2 r3 r4, readC s = some (r1, r2, r3, r4) := by
  rw [readC_eq]
  split
  · split
    · exact length_total _ _ _
    · exact ⟨_, _, _, _, rfl⟩
  · exact ⟨_, _, _, _, rfl⟩
theorem showC_same_int (hi lo n : Int) (b : Bool) (h0 : 0 ≤ hi ∧ hi < 18446744073709551616) (h1 : 0 ≤ lo ∧ lo < 18446744073709551616) (hb : addr_Right.f hi lo n = some b) :
    flocculusref1_ShowColons.f 2000 hi lo n = some (if b = true then showCB hi.toNat lo.toNat n else ByteArray.empty) := by
  obtain ⟨a, rfl⟩ := Int.eq_ofNat_of_zero_le h0.1
  obtain ⟨c, rfl⟩ := Int.eq_ofNat_of_zero_le h1.1
  rw [Int.toNat_natCast, Int.toNat_natCast]
  exact showC_same 2000 a c n b (by omega) (by omega) (by omega) hb
theorem showC_int (hi lo n : Int) (b : Bool) (w : World) (hE : Env2 w) (h0 : 0 ≤ hi ∧ hi < 18446744073709551616) (h1 : 0 ≤ lo ∧ lo < 18446744073709551616) (hn : -9223372036854775808 ≤ n ∧ n ≤ 9223372036854775807) (hb : addr_Right.f hi lo n = some b) :
    Calls Tryd.prog 21 #[.agg #[.int .u64 hi, .int .u64 lo, .int .i64 n]] w fun e w' => e = .returned (.string (if b = true then showCB hi.toNat lo.toNat n else ByteArray.empty)) ∧ Below w.heap.size w w' := by
  obtain ⟨a, rfl⟩ := Int.eq_ofNat_of_zero_le h0.1
  obtain ⟨c, rfl⟩ := Int.eq_ofNat_of_zero_le h1.1
  rw [Int.toNat_natCast, Int.toNat_natCast]
  exact showC_at a c n b w hE (by omega) (by omega) hn hb

set_option maxRecDepth 20000 in
set_option maxHeartbeats 4000000 in
theorem CTell_walk (s : ByteArray) (hs : s.size ≤ 140737488355328) (hi lo n : Int) (h0 : 0 ≤ hi ∧ hi < 18446744073709551616) (h1 : 0 ≤ lo ∧ lo < 18446744073709551616) (hn : -9223372036854775808 ≤ n ∧ n ≤ 9223372036854775807) (w : World) (hE : Env2 w) :
    Calls Tryd.prog 6 #[.string s, .agg #[.int .u64 hi, .int .u64 lo, .int .i64 n]] w fun e w' => e = .returned (.bool true) ∧ Below w.heap.size w w' := by
  have H0 := Lib.hid hE
  obtain ⟨b, hb⟩ := right_total hi lo n
  have SS := Lib.hid (showC_same_int hi lo n b h0 h1 hb)
  have HRT := Lib.hid hb
  obtain ⟨r, hr⟩ : ∃ r, r = (if b = true then showCB hi.toNat lo.toNat n else ByteArray.empty) := ⟨_, rfl⟩
  have HR := Lib.hid hr
  have SS2 := Lib.hid (show flocculusref1_ShowColons.f 2000 hi lo n = some r by rw [hr]; exact SS.out)
  obtain ⟨r1, r2, r3, r4, hrd⟩ := readC_total s
  have HRD := Lib.hid hrd
  clear hE hb SS hr hrd
  go_enter Tryd.func6, Tryd.ntmps6
  go_wp2_with fail
  obtain ⟨w1, hw1⟩ : ∃ w1, w1 = w.alloc (.cells #[.int .u64 hi, .int .u64 lo, .int .i64 n] 26 (0, 0)) := ⟨_, rfl⟩
  have k1 : w1.heap[w.heap.size]? = some (.cells #[.int .u64 hi, .int .u64 lo, .int .i64 n] 26 (0, 0)) := by rw [hw1]; exact blk_new _ _
  have B1 := Lib.hid (show Below w.heap.size w w1 by rw [hw1]; exact below_alloc (Below.refl _ _) _)
  rw [← hw1]
  clear hw1
  have K1 := Lib.hid k1
  clear k1
  go_wp2_with fail
  refine (aliveC_is w1 (H0.out.below B1.out)).mono ?_
  rintro e w2 ⟨rfl, b2⟩
  have B2 := Lib.hid (B1.out.trans (b2.mono B1.out.size))
  have K2 := Lib.hid (blk_below K1.out b2)
  clear b2 B1 K1
  by_cases hl : 200 < s.size
  · go_wp2
    go_ret
    exact ⟨rfl, B2.out⟩
  · go_wp2_with fail
    refine (readC_is s r1 r2 r3 r4 w2 (H0.out.below B2.out).e (by omega) HRD.out).mono ?_
    rintro e w3 ⟨rfl, b3⟩
    obtain ⟨w4, hw4⟩ : ∃ w4, w4 = w3.alloc (.cells #[.int .u64 r1, .int .u64 r2, .int .i64 r3] 26 (0, 0)) := ⟨_, rfl⟩
    have b4 : Below w2.heap.size w2 w4 := by rw [hw4]; exact below_alloc b3 _
    have x4 : w4.heap[w3.heap.size]? = some (.cells #[.int .u64 r1, .int .u64 r2, .int .i64 r3] 26 (0, 0)) := by rw [hw4]; exact blk_new _ _
    have B4 := Lib.hid (B2.out.trans (b4.mono B2.out.size))
    have K4 := Lib.hid (blk_below K2.out b4)
    have X4 := Lib.hid x4
    clear b3 b4 x4 B2 K2
    go_upto_region 5 with (fail)
    rw [← hw4]
    clear hw4
    have HRF := Lib.hid (show flocculusref1_ReadColons.f 3000 s = some (r1, r2, r3, r4) by rw [readC_same s 3000 (by omega) (by omega)]; exact HRD.out)
    go_wp2_with fail
    refine (flocculusref1_ReadColons.calls 3000 s r1 r2 r3 r4 w4 HRF.out).mono ?_
    rintro e w5 ⟨rfl, b5⟩
    obtain ⟨w6, hw6⟩ : ∃ w6, w6 = w5.alloc (.cells #[.int .u64 r1, .int .u64 r2, .int .i64 r3] 26 (0, 0)) := ⟨_, rfl⟩
    have b6 : Below w4.heap.size w4 w6 := by rw [hw6]; exact below_alloc b5 _
    have y6 : w6.heap[w5.heap.size]? = some (.cells #[.int .u64 r1, .int .u64 r2, .int .i64 r3] 26 (0, 0)) := by rw [hw6]; exact blk_new _ _
    have B6 := Lib.hid (B4.out.trans (b6.mono B4.out.size))
    have K6 := Lib.hid (blk_below K4.out b6)
    have X6 := Lib.hid (blk_below X4.out b6)
    have Y6 := Lib.hid y6
    clear b5 b6 y6 B4 K4 X4
    go_upto_region 6 with (fail)
    rw [← hw6]
    clear hw6 HRF HRD
    have x0 := blk_cell X6.out 0
    have x1 := blk_cell X6.out 1
    have x2 := blk_cell X6.out 2
    have y0 := blk_cell Y6.out 0
    have y1 := blk_cell Y6.out 1
    have y2 := blk_cell Y6.out 2
    have q0 := blk_cell K6.out 0
    have q1 := blk_cell K6.out 1
    have q2 := blk_cell K6.out 2
    simp only [List.getElem?_toArray, List.getElem?_cons_zero, List.getElem?_cons_succ] at x0 x1 x2 y0 y1 y2 q0 q1 q2
    clear X6 Y6
    go_region_law (first
      | (go_simp; go_at_call 20; refine (flocculuslaw3_num.calls r4 r4 _ rfl).mono ?_; rintro e w7 ⟨rfl, ⟨n7, rfl⟩⟩; have D7 := Lib.hid (pw_below_drewN B6.out (1 + n7)); have K7 := Lib.hid (blk_below K6.out (pw_below_drewN (Below.refl _ _) (1 + n7))))
      | (go_simp; go_at_call 21; refine (showC_int hi lo n b _ (H0.out.below D7.out) h0 h1 hn HRT.out).mono ?_; rw [HR.out.symm]; rintro e w8 ⟨rfl, b8⟩; have D8 := Lib.hid (D7.out.trans (b8.mono D7.out.size)); have K8 := blk_below K7.out b8; have s0 := blk_cell K8 0; have s1 := blk_cell K8 1; have s2 := blk_cell K8 2; simp only [List.getElem?_toArray, List.getElem?_cons_zero, List.getElem?_cons_succ] at s0 s1 s2; clear b8)
      | (go_simp; go_at_call 22; refine (flocculusref1_ShowColons.calls 2000 hi lo n r w8 SS2.out).mono ?_; rintro e w9 ⟨rfl, b9⟩; have D9 := Lib.hid (D8.out.trans (b9.mono D8.out.size)); clear b9))
    all_goals go_wp2
    all_goals go_ret
    all_goals exact ⟨rfl, D9.out⟩
theorem CTell_law (s : ByteArray) (hs : s.size ≤ 140737488351232) (hi lo n : Int) (ho : ((Lit.int .u64 hi).wf = true ∧ (Lit.int .u64 lo).wf = true) ∧ (Lit.int .i64 n).wf = true) (w : World) (hE : Env2 w) :
    Calls Tryd.prog 6 #[.string s, .agg #[.int .u64 hi, .int .u64 lo, .int .i64 n]] w fun e w' => e = .returned (.bool true) ∧ Below w.heap.size w w' :=
  CTell_walk s (by omega) hi lo n (wf_u64 ho.1.1) (wf_u64 ho.1.2) (wf_i64 ho.2) w hE
end Go.Proofs.YtjhlgfafjjmooaaDoor.Dot
