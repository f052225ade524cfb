/- The reference's reader of commands: a command that is no batch. -/
import Derived.Test.YtliighhedmfgjaaRf2
namespace Go.Proofs.Ytliighhedmfgjaa.Cmd
open Go.RowKit Go.Proofs.Ytliighhedmfgjaa.PRefC Go.Proofs.YtliighhedmfgjaaW.PrintWords Go.Proofs.YtliighhedmfgjaaW.PrintLast Go.Proofs.YtliighhedmfgjaaW.PrintMore

theorem Rf.lay {w0 W : World} {rb g : Nat} {s : St} (h : Rf w0 W rb s) (hg : g ≠ rb) (hle : w0.heap.size ≤ g) (c0 c1 c2 c3 c4 c5 c6 c7 c8 c9 : Value) : Rf w0 (lay10 W g c0 c1 c2 c3 c4 c5 c6 c7 c8 c9) rb s := ((((((((((h.other hg hle 0 _).other hg hle 1 _).other hg hle 2 _).other hg hle 3 _).other hg hle 4 _).other hg hle 5 _).other hg hle 6 _).other hg hle 7 _).other hg hle 8 _).other hg hle 9 _)
set_option maxRecDepth 20000 in
theorem wrap_gv (k : Nat) (s : St) (hb : Byte s.1) (hk : k ≤ 4) : IntKind.i64.wrap (gv k s) = gv k s := by
  have hr := gv_range k s hb
  have := Nat.pow_le_pow_right (n := 256) (by omega) hk
  have h2 : (256 : Int) ^ k ≤ 256 ^ 4 := by exact_mod_cast this
  rw [p4] at h2
  exact i64_of (by omega) (by omega)
theorem fps_byte {s : St} (h : Byte s.1) : Byte (fps s).1 := fs_byte (fs_byte (fs_byte h))
def fcV (k : Int) (s : St) : S29 :=
  if k = 1 then ⟨1, gv 4 (fps s), 0, fpfx s, z24, 0, []⟩ else if k = 2 then ⟨2, 0, 0, fpfx s, z24, 0, []⟩ else if k = 3 then ⟨3, 0, 0, z26, ⟨gv 8 s, gv 8 (fs 8 s)⟩, 0, []⟩ else
    if k = 6 then ⟨6, 0, gv 4 (fs 8 s), z26, z24, gv 8 s, []⟩ else if k = 4 then ⟨4, 0, gv 4 s, z26, z24, 0, []⟩ else ⟨k, 0, 0, z26, z24, 0, []⟩
def fcS (k : Int) (s : St) : St :=
  if k = 1 then fs 4 (fps s) else if k = 2 then fps s else if k = 3 then fads s else if k = 6 then fs 4 (fs 8 s) else if k = 4 then fs 4 s else s

set_option maxRecDepth 20000 in
set_option maxHeartbeats 4000000 in
theorem fcmd_st (w0 W : World) (rb : Nat) (b : Bool) (s : St) (h : Rf w0 W rb s) (h7 : gv 1 s ≠ 7) :
    Calls Try.prog 22 #[.pointer (some ⟨rb, 0, none⟩), .bool b] W fun e w' => e = .returned (.agg (cells29 (fcV (gv 1 s) (fs 1 s)) (.slice none 0 0))) ∧ Rf w0 w' rb (fcS (gv 1 s) (fs 1 s)) ∧ Only W w' rb := by
  have hlt := h.lt
  have hle0 : w0.heap.size ≤ W.heap.size := h.bel.size
  have hwk := wrap_gv 1 s h.byte (by omega)
  have H := Lib.hid h
  have BS1 : Hid (Byte (fs 1 s).1) := fs_byte h.byte
  clear h
  obtain ⟨k, hk⟩ : ∃ k, gv 1 s = k := ⟨_, rfl⟩
  obtain ⟨s1, hs1⟩ : ∃ s1, s1 = fs 1 s := ⟨_, rfl⟩
  rw [hk] at hwk h7 ⊢
  rw [← hs1] at BS1 ⊢
  have HK := Lib.hid hk
  have HS1 := Lib.hid hs1
  clear hk hs1
  by_cases e1 : k = 1
  · subst e1
    go_enter Try.func22, Try.ntmps22
    go_wp2_with fail
    refine (fnum_st w0 _ rb 1 s (H.out.below (below_alloc (Below.refl _ _) _)) (by omega)).mono ?_
    rintro e wn ⟨rfl, h1, o1⟩
    rw [HK.out]
    rw [← HS1.out] at h1
    have hz := o1.2 W.heap.size _ (blk_new _ _) (by omega)
    have hsz := o1.1
    have O0 := Lib.hid (((Only.refl W rb).below (below_alloc (Below.refl _ _) _)).trans o1)
    have H0 := Lib.hid h1
    clear h1 o1
    go_upto_region 2 with (fail)
    obtain ⟨wa, hwa⟩ : ∃ wa, wa = wn.alloc (.cells #[.int .i64 1, .int .i64 0, .int .i64 0, .int .u64 0, .int .u64 0, .int .i64 0, .int .u64 0, .int .u64 0, .int .u64 0, .slice none 0 0] 29 (0, 0)) := ⟨_, rfl⟩
    obtain ⟨g3, hg3⟩ : ∃ g, g = wn.heap.size := ⟨_, rfl⟩
    obtain ⟨g2, hg2⟩ : ∃ g, g = W.heap.size := ⟨_, rfl⟩
    have hb2 : wa.heap[g2]? = some (.cells #[.int .i64 0, .int .i64 0, .int .i64 0, .int .u64 0, .int .u64 0, .int .i64 0, .int .u64 0, .int .u64 0, .int .u64 0, .slice none 0 0] 29 (0, 0)) := by rw [hwa, hg2]; exact blk_alloc hz _
    have hb3 : wa.heap[g3]? = some (.cells #[.int .i64 1, .int .i64 0, .int .i64 0, .int .u64 0, .int .u64 0, .int .i64 0, .int .u64 0, .int .u64 0, .int .u64 0, .slice none 0 0] 29 (0, 0)) := by rw [hwa, hg3]; exact blk_new _ _
    have HA : Hid (Rf w0 wa rb s1) := by rw [hwa]; exact H0.out.below (below_alloc (Below.refl _ _) _)
    have OA : Hid (Only W wa rb) := by rw [hwa]; exact O0.out.below (below_alloc (Below.refl _ _) _)
    have hltn := H0.out.lt
    have hn2 : g2 ≠ rb := by omega
    have hn3 : g3 ≠ rb := by omega
    have h23 : g2 ≠ g3 := by have := blk_lt hz; omega
    have hl2 : w0.heap.size ≤ g2 := by omega
    have hw2 : W.heap.size ≤ g2 := by omega
    have hw3 : W.heap.size ≤ g3 := by have := O0.out.1; omega
    have hl3 : w0.heap.size ≤ g3 := by omega
    rw [← hwa, ← hg2, ← hg3]
    have HB2 := Lib.hid hb2
    have HB3 := Lib.hid hb3
    clear hwa hg2 hg3 hb2 hb3 H H0 O0 hz hsz hltn
    have a0 := blk_cell HB3.out 0
    have a1 := blk_cell HB3.out 1
    have a2 := blk_cell HB3.out 2
    have a3 := blk_cell HB3.out 3
    have a4 := blk_cell HB3.out 4
    have a5 := blk_cell HB3.out 5
    have a6 := blk_cell HB3.out 6
    have a7 := blk_cell HB3.out 7
    have a8 := blk_cell HB3.out 8
    have a9 := blk_cell HB3.out 9
    simp only [List.getElem?_toArray, List.getElem?_cons_zero, List.getElem?_cons_succ] at a0 a1 a2 a3 a4 a5 a6 a7 a8 a9
    have b0 := blk_cell HB2.out 0
    have b1 := blk_cell HB2.out 1
    have b2 := blk_cell HB2.out 2
    have b3 := blk_cell HB2.out 3
    have b4 := blk_cell HB2.out 4
    have b5 := blk_cell HB2.out 5
    have b6 := blk_cell HB2.out 6
    have b7 := blk_cell HB2.out 7
    have b8 := blk_cell HB2.out 8
    have b9 := blk_cell HB2.out 9
    simp only [List.getElem?_toArray, List.getElem?_cons_zero, List.getElem?_cons_succ] at b0 b1 b2 b3 b4 b5 b6 b7 b8 b9
    have f3 := fun i => blk_frozen HB3.out i
    have f2 := fun i => blk_frozen HB2.out i
    go_wp2_with fail
    refine (fpfx_st w0 _ rb s1 HA.out).mono ?_
    rintro e w1 ⟨rfl, h1, o1⟩
    have hc2 := o1.2 g2 _ HB2.out hn2
    have hc3 := o1.2 g3 _ HB3.out hn3
    clear a0 a1 a2 a3 a4 a5 a6 a7 a8 a9 b0 b1 b2 b3 b4 b5 b6 b7 b8 b9 f3 f2
    have q0 := blk_cell hc3 0
    have q1 := blk_cell hc3 1
    have q2 := blk_cell hc3 2
    have q3 := blk_cell hc3 3
    have q4 := blk_cell hc3 4
    have q5 := blk_cell hc3 5
    have q6 := blk_cell hc3 6
    have q7 := blk_cell hc3 7
    have q8 := blk_cell hc3 8
    have q9 := blk_cell hc3 9
    simp only [List.getElem?_toArray, List.getElem?_cons_zero, List.getElem?_cons_succ] at q0 q1 q2 q3 q4 q5 q6 q7 q8 q9
    have t0 := blk_cell hc2 0
    have t1 := blk_cell hc2 1
    have t2 := blk_cell hc2 2
    have t3 := blk_cell hc2 3
    have t4 := blk_cell hc2 4
    have t5 := blk_cell hc2 5
    have t6 := blk_cell hc2 6
    have t7 := blk_cell hc2 7
    have t8 := blk_cell hc2 8
    have t9 := blk_cell hc2 9
    simp only [List.getElem?_toArray, List.getElem?_cons_zero, List.getElem?_cons_succ] at t0 t1 t2 t3 t4 t5 t6 t7 t8 t9
    have f3 := fun i => blk_frozen hc3 i
    have f2 := fun i => blk_frozen hc2 i
    have hd3_ := (blk_set (blk_set (blk_set hc3 3 (.int .u64 (fpfx s1).f0.f0)) 4 (.int .u64 (fpfx s1).f0.f1)) 5 (.int .i64 (fpfx s1).f1))
    simp only [List.setIfInBounds_toArray, List.set_cons_zero, List.set_cons_succ] at hd3_
    have hd2_ := ((Below.heap_setCell ((w1.setCell ⟨g3, 3, none⟩ (.int .u64 (fpfx s1).f0.f0)).setCell ⟨g3, 4, none⟩ (.int .u64 (fpfx s1).f0.f1)) ⟨g3, 5, none⟩ (.int .i64 (fpfx s1).f1) g2 h23).trans ((Below.heap_setCell (w1.setCell ⟨g3, 3, none⟩ (.int .u64 (fpfx s1).f0.f0)) ⟨g3, 4, none⟩ (.int .u64 (fpfx s1).f0.f1) g2 h23).trans ((Below.heap_setCell w1 ⟨g3, 3, none⟩ (.int .u64 (fpfx s1).f0.f0) g2 h23).trans hc2)))
    have HD3_1 := Lib.hid hd3_
    have HD2_1 := Lib.hid hd2_
    have HR_1 := Lib.hid (((h1.other hn3 hl3 3 (.int .u64 (fpfx s1).f0.f0)).other hn3 hl3 4 (.int .u64 (fpfx s1).f0.f1)).other hn3 hl3 5 (.int .i64 (fpfx s1).f1))
    have HO_1 := Lib.hid ((((OA.out.trans o1).new hw3 3 (.int .u64 (fpfx s1).f0.f0)).new hw3 4 (.int .u64 (fpfx s1).f0.f1)).new hw3 5 (.int .i64 (fpfx s1).f1))
    clear hd3_ hd2_
    clear hc2 hc3 h1 o1
    go_wp2_with fail
    have hw4 := wrap_gv 4 (fps s1) (fps_byte BS1.out) (by omega)
    refine (fnum_st w0 _ rb 4 (fps s1) HR_1.out (by omega)).mono ?_
    rintro e w2 ⟨rfl, h1, o1⟩
    have hc2 := o1.2 g2 _ HD2_1.out hn2
    have hc3 := o1.2 g3 _ HD3_1.out hn3
    clear q0 q1 q2 q3 q4 q5 q6 q7 q8 q9 t0 t1 t2 t3 t4 t5 t6 t7 t8 t9 f3 f2
    have q0 := blk_cell hc3 0
    have q1 := blk_cell hc3 1
    have q2 := blk_cell hc3 2
    have q3 := blk_cell hc3 3
    have q4 := blk_cell hc3 4
    have q5 := blk_cell hc3 5
    have q6 := blk_cell hc3 6
    have q7 := blk_cell hc3 7
    have q8 := blk_cell hc3 8
    have q9 := blk_cell hc3 9
    simp only [List.getElem?_toArray, List.getElem?_cons_zero, List.getElem?_cons_succ] at q0 q1 q2 q3 q4 q5 q6 q7 q8 q9
    have t0 := blk_cell hc2 0
    have t1 := blk_cell hc2 1
    have t2 := blk_cell hc2 2
    have t3 := blk_cell hc2 3
    have t4 := blk_cell hc2 4
    have t5 := blk_cell hc2 5
    have t6 := blk_cell hc2 6
    have t7 := blk_cell hc2 7
    have t8 := blk_cell hc2 8
    have t9 := blk_cell hc2 9
    simp only [List.getElem?_toArray, List.getElem?_cons_zero, List.getElem?_cons_succ] at t0 t1 t2 t3 t4 t5 t6 t7 t8 t9
    have f3 := fun i => blk_frozen hc3 i
    have f2 := fun i => blk_frozen hc2 i
    have hd3_ := (blk_set hc3 1 (.int .i64 (gv 4 (fps s1))))
    simp only [List.setIfInBounds_toArray, List.set_cons_zero, List.set_cons_succ] at hd3_
    have hd2_ := ((Below.heap_setCell w2 ⟨g3, 1, none⟩ (.int .i64 (gv 4 (fps s1))) g2 h23).trans hc2)
    have HD3_2 := Lib.hid hd3_
    have HD2_2 := Lib.hid hd2_
    have HR_2 := Lib.hid (h1.other hn3 hl3 1 (.int .i64 (gv 4 (fps s1))))
    have HO_2 := Lib.hid ((HO_1.out.trans o1).new hw3 1 (.int .i64 (gv 4 (fps s1))))
    clear hd3_ hd2_
    clear hc2 hc3 h1 o1
    go_wp2
    (try simp only [Exit.inBlock, Exit.then])
    exact bodyPost_ret (v := .agg #[.int .i64 1, .int .i64 (gv 4 (fps s1)), .int .i64 0, .int .u64 (fpfx s1).f0.f0, .int .u64 (fpfx s1).f0.f1, .int .i64 (fpfx s1).f1, .int .u64 0, .int .u64 0, .int .u64 0, .slice none 0 0]) (results_one (fn := Try.f22) rfl _ _ g2 29 _ (0, 0) _ rfl (lay10_here HD2_2.out _ _ _ _ _ _ _ _ _ _) Try.underlying29 rfl (by kernel_rfl)) rfl ⟨rfl, Rf.lay HR_2.out hn2 hl2 _ _ _ _ _ _ _ _ _ _, Only.lay HO_2.out hw2 _ _ _ _ _ _ _ _ _ _⟩
  by_cases e2 : k = 2
  · subst e2
    go_enter Try.func22, Try.ntmps22
    go_wp2_with fail
    refine (fnum_st w0 _ rb 1 s (H.out.below (below_alloc (Below.refl _ _) _)) (by omega)).mono ?_
    rintro e wn ⟨rfl, h1, o1⟩
    rw [HK.out]
    rw [← HS1.out] at h1
    have hz := o1.2 W.heap.size _ (blk_new _ _) (by omega)
    have hsz := o1.1
    have O0 := Lib.hid (((Only.refl W rb).below (below_alloc (Below.refl _ _) _)).trans o1)
    have H0 := Lib.hid h1
    clear h1 o1
    go_upto_region 2 with (fail)
    obtain ⟨wa, hwa⟩ : ∃ wa, wa = wn.alloc (.cells #[.int .i64 2, .int .i64 0, .int .i64 0, .int .u64 0, .int .u64 0, .int .i64 0, .int .u64 0, .int .u64 0, .int .u64 0, .slice none 0 0] 29 (0, 0)) := ⟨_, rfl⟩
    obtain ⟨g3, hg3⟩ : ∃ g, g = wn.heap.size := ⟨_, rfl⟩
    obtain ⟨g2, hg2⟩ : ∃ g, g = W.heap.size := ⟨_, rfl⟩
    have hb2 : wa.heap[g2]? = some (.cells #[.int .i64 0, .int .i64 0, .int .i64 0, .int .u64 0, .int .u64 0, .int .i64 0, .int .u64 0, .int .u64 0, .int .u64 0, .slice none 0 0] 29 (0, 0)) := by rw [hwa, hg2]; exact blk_alloc hz _
    have hb3 : wa.heap[g3]? = some (.cells #[.int .i64 2, .int .i64 0, .int .i64 0, .int .u64 0, .int .u64 0, .int .i64 0, .int .u64 0, .int .u64 0, .int .u64 0, .slice none 0 0] 29 (0, 0)) := by rw [hwa, hg3]; exact blk_new _ _
    have HA : Hid (Rf w0 wa rb s1) := by rw [hwa]; exact H0.out.below (below_alloc (Below.refl _ _) _)
    have OA : Hid (Only W wa rb) := by rw [hwa]; exact O0.out.below (below_alloc (Below.refl _ _) _)
    have hltn := H0.out.lt
    have hn2 : g2 ≠ rb := by omega
    have hn3 : g3 ≠ rb := by omega
    have h23 : g2 ≠ g3 := by have := blk_lt hz; omega
    have hl2 : w0.heap.size ≤ g2 := by omega
    have hw2 : W.heap.size ≤ g2 := by omega
    have hw3 : W.heap.size ≤ g3 := by have := O0.out.1; omega
    have hl3 : w0.heap.size ≤ g3 := by omega
    rw [← hwa, ← hg2, ← hg3]
    have HB2 := Lib.hid hb2
    have HB3 := Lib.hid hb3
    clear hwa hg2 hg3 hb2 hb3 H H0 O0 hz hsz hltn
    have a0 := blk_cell HB3.out 0
    have a1 := blk_cell HB3.out 1
    have a2 := blk_cell HB3.out 2
    have a3 := blk_cell HB3.out 3
    have a4 := blk_cell HB3.out 4
    have a5 := blk_cell HB3.out 5
    have a6 := blk_cell HB3.out 6
    have a7 := blk_cell HB3.out 7
    have a8 := blk_cell HB3.out 8
    have a9 := blk_cell HB3.out 9
    simp only [List.getElem?_toArray, List.getElem?_cons_zero, List.getElem?_cons_succ] at a0 a1 a2 a3 a4 a5 a6 a7 a8 a9
    have b0 := blk_cell HB2.out 0
    have b1 := blk_cell HB2.out 1
    have b2 := blk_cell HB2.out 2
    have b3 := blk_cell HB2.out 3
    have b4 := blk_cell HB2.out 4
    have b5 := blk_cell HB2.out 5
    have b6 := blk_cell HB2.out 6
    have b7 := blk_cell HB2.out 7
    have b8 := blk_cell HB2.out 8
    have b9 := blk_cell HB2.out 9
    simp only [List.getElem?_toArray, List.getElem?_cons_zero, List.getElem?_cons_succ] at b0 b1 b2 b3 b4 b5 b6 b7 b8 b9
    have f3 := fun i => blk_frozen HB3.out i
    have f2 := fun i => blk_frozen HB2.out i
    go_wp2_with fail
    refine (fpfx_st w0 _ rb s1 HA.out).mono ?_
    rintro e w1 ⟨rfl, h1, o1⟩
    have hc2 := o1.2 g2 _ HB2.out hn2
    have hc3 := o1.2 g3 _ HB3.out hn3
    clear a0 a1 a2 a3 a4 a5 a6 a7 a8 a9 b0 b1 b2 b3 b4 b5 b6 b7 b8 b9 f3 f2
    have q0 := blk_cell hc3 0
    have q1 := blk_cell hc3 1
    have q2 := blk_cell hc3 2
    have q3 := blk_cell hc3 3
    have q4 := blk_cell hc3 4
    have q5 := blk_cell hc3 5
    have q6 := blk_cell hc3 6
    have q7 := blk_cell hc3 7
    have q8 := blk_cell hc3 8
    have q9 := blk_cell hc3 9
    simp only [List.getElem?_toArray, List.getElem?_cons_zero, List.getElem?_cons_succ] at q0 q1 q2 q3 q4 q5 q6 q7 q8 q9
    have t0 := blk_cell hc2 0
    have t1 := blk_cell hc2 1
    have t2 := blk_cell hc2 2
    have t3 := blk_cell hc2 3
    have t4 := blk_cell hc2 4
    have t5 := blk_cell hc2 5
    have t6 := blk_cell hc2 6
    have t7 := blk_cell hc2 7
    have t8 := blk_cell hc2 8
    have t9 := blk_cell hc2 9
    simp only [List.getElem?_toArray, List.getElem?_cons_zero, List.getElem?_cons_succ] at t0 t1 t2 t3 t4 t5 t6 t7 t8 t9
    have f3 := fun i => blk_frozen hc3 i
    have f2 := fun i => blk_frozen hc2 i
    have hd3_ := (blk_set (blk_set (blk_set hc3 3 (.int .u64 (fpfx s1).f0.f0)) 4 (.int .u64 (fpfx s1).f0.f1)) 5 (.int .i64 (fpfx s1).f1))
    simp only [List.setIfInBounds_toArray, List.set_cons_zero, List.set_cons_succ] at hd3_
    have hd2_ := ((Below.heap_setCell ((w1.setCell ⟨g3, 3, none⟩ (.int .u64 (fpfx s1).f0.f0)).setCell ⟨g3, 4, none⟩ (.int .u64 (fpfx s1).f0.f1)) ⟨g3, 5, none⟩ (.int .i64 (fpfx s1).f1) g2 h23).trans ((Below.heap_setCell (w1.setCell ⟨g3, 3, none⟩ (.int .u64 (fpfx s1).f0.f0)) ⟨g3, 4, none⟩ (.int .u64 (fpfx s1).f0.f1) g2 h23).trans ((Below.heap_setCell w1 ⟨g3, 3, none⟩ (.int .u64 (fpfx s1).f0.f0) g2 h23).trans hc2)))
    have HD3_1 := Lib.hid hd3_
    have HD2_1 := Lib.hid hd2_
    have HR_1 := Lib.hid (((h1.other hn3 hl3 3 (.int .u64 (fpfx s1).f0.f0)).other hn3 hl3 4 (.int .u64 (fpfx s1).f0.f1)).other hn3 hl3 5 (.int .i64 (fpfx s1).f1))
    have HO_1 := Lib.hid ((((OA.out.trans o1).new hw3 3 (.int .u64 (fpfx s1).f0.f0)).new hw3 4 (.int .u64 (fpfx s1).f0.f1)).new hw3 5 (.int .i64 (fpfx s1).f1))
    clear hd3_ hd2_
    clear hc2 hc3 h1 o1
    go_wp2
    (try simp only [Exit.inBlock, Exit.then])
    exact bodyPost_ret (v := .agg #[.int .i64 2, .int .i64 0, .int .i64 0, .int .u64 (fpfx s1).f0.f0, .int .u64 (fpfx s1).f0.f1, .int .i64 (fpfx s1).f1, .int .u64 0, .int .u64 0, .int .u64 0, .slice none 0 0]) (results_one (fn := Try.f22) rfl _ _ g2 29 _ (0, 0) _ rfl (lay10_here HD2_1.out _ _ _ _ _ _ _ _ _ _) Try.underlying29 rfl (by kernel_rfl)) rfl ⟨rfl, Rf.lay HR_1.out hn2 hl2 _ _ _ _ _ _ _ _ _ _, Only.lay HO_1.out hw2 _ _ _ _ _ _ _ _ _ _⟩
  by_cases e3 : k = 3
  · subst e3
    go_enter Try.func22, Try.ntmps22
    go_wp2_with fail
    refine (fnum_st w0 _ rb 1 s (H.out.below (below_alloc (Below.refl _ _) _)) (by omega)).mono ?_
    rintro e wn ⟨rfl, h1, o1⟩
    rw [HK.out]
    rw [← HS1.out] at h1
    have hz := o1.2 W.heap.size _ (blk_new _ _) (by omega)
    have hsz := o1.1
    have O0 := Lib.hid (((Only.refl W rb).below (below_alloc (Below.refl _ _) _)).trans o1)
    have H0 := Lib.hid h1
    clear h1 o1
    go_upto_region 2 with (fail)
    obtain ⟨wa, hwa⟩ : ∃ wa, wa = wn.alloc (.cells #[.int .i64 3, .int .i64 0, .int .i64 0, .int .u64 0, .int .u64 0, .int .i64 0, .int .u64 0, .int .u64 0, .int .u64 0, .slice none 0 0] 29 (0, 0)) := ⟨_, rfl⟩
    obtain ⟨g3, hg3⟩ : ∃ g, g = wn.heap.size := ⟨_, rfl⟩
    obtain ⟨g2, hg2⟩ : ∃ g, g = W.heap.size := ⟨_, rfl⟩
    have hb2 : wa.heap[g2]? = some (.cells #[.int .i64 0, .int .i64 0, .int .i64 0, .int .u64 0, .int .u64 0, .int .i64 0, .int .u64 0, .int .u64 0, .int .u64 0, .slice none 0 0] 29 (0, 0)) := by rw [hwa, hg2]; exact blk_alloc hz _
    have hb3 : wa.heap[g3]? = some (.cells #[.int .i64 3, .int .i64 0, .int .i64 0, .int .u64 0, .int .u64 0, .int .i64 0, .int .u64 0, .int .u64 0, .int .u64 0, .slice none 0 0] 29 (0, 0)) := by rw [hwa, hg3]; exact blk_new _ _
    have HA : Hid (Rf w0 wa rb s1) := by rw [hwa]; exact H0.out.below (below_alloc (Below.refl _ _) _)
    have OA : Hid (Only W wa rb) := by rw [hwa]; exact O0.out.below (below_alloc (Below.refl _ _) _)
    have hltn := H0.out.lt
    have hn2 : g2 ≠ rb := by omega
    have hn3 : g3 ≠ rb := by omega
    have h23 : g2 ≠ g3 := by have := blk_lt hz; omega
    have hl2 : w0.heap.size ≤ g2 := by omega
    have hw2 : W.heap.size ≤ g2 := by omega
    have hw3 : W.heap.size ≤ g3 := by have := O0.out.1; omega
    have hl3 : w0.heap.size ≤ g3 := by omega
    rw [← hwa, ← hg2, ← hg3]
    have HB2 := Lib.hid hb2
    have HB3 := Lib.hid hb3
    clear hwa hg2 hg3 hb2 hb3 H H0 O0 hz hsz hltn
    have a0 := blk_cell HB3.out 0
    have a1 := blk_cell HB3.out 1
    have a2 := blk_cell HB3.out 2
    have a3 := blk_cell HB3.out 3
    have a4 := blk_cell HB3.out 4
    have a5 := blk_cell HB3.out 5
    have a6 := blk_cell HB3.out 6
    have a7 := blk_cell HB3.out 7
    have a8 := blk_cell HB3.out 8
    have a9 := blk_cell HB3.out 9
    simp only [List.getElem?_toArray, List.getElem?_cons_zero, List.getElem?_cons_succ] at a0 a1 a2 a3 a4 a5 a6 a7 a8 a9
    have b0 := blk_cell HB2.out 0
    have b1 := blk_cell HB2.out 1
    have b2 := blk_cell HB2.out 2
    have b3 := blk_cell HB2.out 3
    have b4 := blk_cell HB2.out 4
    have b5 := blk_cell HB2.out 5
    have b6 := blk_cell HB2.out 6
    have b7 := blk_cell HB2.out 7
    have b8 := blk_cell HB2.out 8
    have b9 := blk_cell HB2.out 9
    simp only [List.getElem?_toArray, List.getElem?_cons_zero, List.getElem?_cons_succ] at b0 b1 b2 b3 b4 b5 b6 b7 b8 b9
    have f3 := fun i => blk_frozen HB3.out i
    have f2 := fun i => blk_frozen HB2.out i
    go_wp2_with fail
    refine (fnum_st w0 _ rb 8 s1 HA.out (by omega)).mono ?_
    rintro e wm ⟨rfl, hm, om⟩
    have hx2 := om.2 g2 _ HB2.out hn2
    have hx3 := om.2 g3 _ HB3.out hn3
    clear a0 a1 a2 a3 a4 a5 a6 a7 a8 a9 b0 b1 b2 b3 b4 b5 b6 b7 b8 b9 f3 f2
    go_wp2_with fail
    refine (fnum_st w0 _ rb 8 (fs 8 s1) hm (by omega)).mono ?_
    rintro e w1 ⟨rfl, h1, o1⟩
    have hc2 := o1.2 g2 _ hx2 hn2
    have hc3 := o1.2 g3 _ hx3 hn3
    have q0 := blk_cell hc3 0
    have q1 := blk_cell hc3 1
    have q2 := blk_cell hc3 2
    have q3 := blk_cell hc3 3
    have q4 := blk_cell hc3 4
    have q5 := blk_cell hc3 5
    have q6 := blk_cell hc3 6
    have q7 := blk_cell hc3 7
    have q8 := blk_cell hc3 8
    have q9 := blk_cell hc3 9
    simp only [List.getElem?_toArray, List.getElem?_cons_zero, List.getElem?_cons_succ] at q0 q1 q2 q3 q4 q5 q6 q7 q8 q9
    have t0 := blk_cell hc2 0
    have t1 := blk_cell hc2 1
    have t2 := blk_cell hc2 2
    have t3 := blk_cell hc2 3
    have t4 := blk_cell hc2 4
    have t5 := blk_cell hc2 5
    have t6 := blk_cell hc2 6
    have t7 := blk_cell hc2 7
    have t8 := blk_cell hc2 8
    have t9 := blk_cell hc2 9
    simp only [List.getElem?_toArray, List.getElem?_cons_zero, List.getElem?_cons_succ] at t0 t1 t2 t3 t4 t5 t6 t7 t8 t9
    have f3 := fun i => blk_frozen hc3 i
    have f2 := fun i => blk_frozen hc2 i
    have hd3_ := (blk_set (blk_set hc3 6 (.int .u64 (gv 8 s1))) 7 (.int .u64 (gv 8 (fs 8 s1))))
    simp only [List.setIfInBounds_toArray, List.set_cons_zero, List.set_cons_succ] at hd3_
    have hd2_ := ((Below.heap_setCell (w1.setCell ⟨g3, 6, none⟩ (.int .u64 (gv 8 s1))) ⟨g3, 7, none⟩ (.int .u64 (gv 8 (fs 8 s1))) g2 h23).trans ((Below.heap_setCell w1 ⟨g3, 6, none⟩ (.int .u64 (gv 8 s1)) g2 h23).trans hc2))
    have HD3_1 := Lib.hid hd3_
    have HD2_1 := Lib.hid hd2_
    have HR_1 := Lib.hid ((h1.other hn3 hl3 6 (.int .u64 (gv 8 s1))).other hn3 hl3 7 (.int .u64 (gv 8 (fs 8 s1))))
    have HO_1 := Lib.hid ((((OA.out.trans om).trans o1).new hw3 6 (.int .u64 (gv 8 s1))).new hw3 7 (.int .u64 (gv 8 (fs 8 s1))))
    clear hd3_ hd2_
    clear hc2 hc3 h1 o1 hm om hx2 hx3
    go_wp2
    (try simp only [Exit.inBlock, Exit.then])
    exact bodyPost_ret (v := .agg #[.int .i64 3, .int .i64 0, .int .i64 0, .int .u64 0, .int .u64 0, .int .i64 0, .int .u64 (gv 8 s1), .int .u64 (gv 8 (fs 8 s1)), .int .u64 0, .slice none 0 0]) (results_one (fn := Try.f22) rfl _ _ g2 29 _ (0, 0) _ rfl (lay10_here HD2_1.out _ _ _ _ _ _ _ _ _ _) Try.underlying29 rfl (by kernel_rfl)) rfl ⟨rfl, Rf.lay HR_1.out hn2 hl2 _ _ _ _ _ _ _ _ _ _, Only.lay HO_1.out hw2 _ _ _ _ _ _ _ _ _ _⟩
  by_cases e6 : k = 6
  · subst e6
    go_enter Try.func22, Try.ntmps22
    go_wp2_with fail
    refine (fnum_st w0 _ rb 1 s (H.out.below (below_alloc (Below.refl _ _) _)) (by omega)).mono ?_
    rintro e wn ⟨rfl, h1, o1⟩
    rw [HK.out]
    rw [← HS1.out] at h1
    have hz := o1.2 W.heap.size _ (blk_new _ _) (by omega)
    have hsz := o1.1
    have O0 := Lib.hid (((Only.refl W rb).below (below_alloc (Below.refl _ _) _)).trans o1)
    have H0 := Lib.hid h1
    clear h1 o1
    go_upto_region 2 with (fail)
    obtain ⟨wa, hwa⟩ : ∃ wa, wa = wn.alloc (.cells #[.int .i64 6, .int .i64 0, .int .i64 0, .int .u64 0, .int .u64 0, .int .i64 0, .int .u64 0, .int .u64 0, .int .u64 0, .slice none 0 0] 29 (0, 0)) := ⟨_, rfl⟩
    obtain ⟨g3, hg3⟩ : ∃ g, g = wn.heap.size := ⟨_, rfl⟩
    obtain ⟨g2, hg2⟩ : ∃ g, g = W.heap.size := ⟨_, rfl⟩
    have hb2 : wa.heap[g2]? = some (.cells #[.int .i64 0, .int .i64 0, .int .i64 0, .int .u64 0, .int .u64 0, .int .i64 0, .int .u64 0, .int .u64 0, .int .u64 0, .slice none 0 0] 29 (0, 0)) := by rw [hwa, hg2]; exact blk_alloc hz _
    have hb3 : wa.heap[g3]? = some (.cells #[.int .i64 6, .int .i64 0, .int .i64 0, .int .u64 0, .int .u64 0, .int .i64 0, .int .u64 0, .int .u64 0, .int .u64 0, .slice none 0 0] 29 (0, 0)) := by rw [hwa, hg3]; exact blk_new _ _
    have HA : Hid (Rf w0 wa rb s1) := by rw [hwa]; exact H0.out.below (below_alloc (Below.refl _ _) _)
    have OA : Hid (Only W wa rb) := by rw [hwa]; exact O0.out.below (below_alloc (Below.refl _ _) _)
    have hltn := H0.out.lt
    have hn2 : g2 ≠ rb := by omega
    have hn3 : g3 ≠ rb := by omega
    have h23 : g2 ≠ g3 := by have := blk_lt hz; omega
    have hl2 : w0.heap.size ≤ g2 := by omega
    have hw2 : W.heap.size ≤ g2 := by omega
    have hw3 : W.heap.size ≤ g3 := by have := O0.out.1; omega
    have hl3 : w0.heap.size ≤ g3 := by omega
    rw [← hwa, ← hg2, ← hg3]
    have HB2 := Lib.hid hb2
    have HB3 := Lib.hid hb3
    clear hwa hg2 hg3 hb2 hb3 H H0 O0 hz hsz hltn
    have a0 := blk_cell HB3.out 0
    have a1 := blk_cell HB3.out 1
    have a2 := blk_cell HB3.out 2
    have a3 := blk_cell HB3.out 3
    have a4 := blk_cell HB3.out 4
    have a5 := blk_cell HB3.out 5
    have a6 := blk_cell HB3.out 6
    have a7 := blk_cell HB3.out 7
    have a8 := blk_cell HB3.out 8
    have a9 := blk_cell HB3.out 9
    simp only [List.getElem?_toArray, List.getElem?_cons_zero, List.getElem?_cons_succ] at a0 a1 a2 a3 a4 a5 a6 a7 a8 a9
    have b0 := blk_cell HB2.out 0
    have b1 := blk_cell HB2.out 1
    have b2 := blk_cell HB2.out 2
    have b3 := blk_cell HB2.out 3
    have b4 := blk_cell HB2.out 4
    have b5 := blk_cell HB2.out 5
    have b6 := blk_cell HB2.out 6
    have b7 := blk_cell HB2.out 7
    have b8 := blk_cell HB2.out 8
    have b9 := blk_cell HB2.out 9
    simp only [List.getElem?_toArray, List.getElem?_cons_zero, List.getElem?_cons_succ] at b0 b1 b2 b3 b4 b5 b6 b7 b8 b9
    have f3 := fun i => blk_frozen HB3.out i
    have f2 := fun i => blk_frozen HB2.out i
    go_wp2_with fail
    refine (fnum_st w0 _ rb 8 s1 HA.out (by omega)).mono ?_
    rintro e w1 ⟨rfl, h1, o1⟩
    have hc2 := o1.2 g2 _ HB2.out hn2
    have hc3 := o1.2 g3 _ HB3.out hn3
    clear a0 a1 a2 a3 a4 a5 a6 a7 a8 a9 b0 b1 b2 b3 b4 b5 b6 b7 b8 b9 f3 f2
    have q0 := blk_cell hc3 0
    have q1 := blk_cell hc3 1
    have q2 := blk_cell hc3 2
    have q3 := blk_cell hc3 3
    have q4 := blk_cell hc3 4
    have q5 := blk_cell hc3 5
    have q6 := blk_cell hc3 6
    have q7 := blk_cell hc3 7
    have q8 := blk_cell hc3 8
    have q9 := blk_cell hc3 9
    simp only [List.getElem?_toArray, List.getElem?_cons_zero, List.getElem?_cons_succ] at q0 q1 q2 q3 q4 q5 q6 q7 q8 q9
    have t0 := blk_cell hc2 0
    have t1 := blk_cell hc2 1
    have t2 := blk_cell hc2 2
    have t3 := blk_cell hc2 3
    have t4 := blk_cell hc2 4
    have t5 := blk_cell hc2 5
    have t6 := blk_cell hc2 6
    have t7 := blk_cell hc2 7
    have t8 := blk_cell hc2 8
    have t9 := blk_cell hc2 9
    simp only [List.getElem?_toArray, List.getElem?_cons_zero, List.getElem?_cons_succ] at t0 t1 t2 t3 t4 t5 t6 t7 t8 t9
    have f3 := fun i => blk_frozen hc3 i
    have f2 := fun i => blk_frozen hc2 i
    have hd3_ := (blk_set hc3 8 (.int .u64 (gv 8 s1)))
    simp only [List.setIfInBounds_toArray, List.set_cons_zero, List.set_cons_succ] at hd3_
    have hd2_ := ((Below.heap_setCell w1 ⟨g3, 8, none⟩ (.int .u64 (gv 8 s1)) g2 h23).trans hc2)
    have HD3_1 := Lib.hid hd3_
    have HD2_1 := Lib.hid hd2_
    have HR_1 := Lib.hid (h1.other hn3 hl3 8 (.int .u64 (gv 8 s1)))
    have HO_1 := Lib.hid ((OA.out.trans o1).new hw3 8 (.int .u64 (gv 8 s1)))
    clear hd3_ hd2_
    clear hc2 hc3 h1 o1
    go_wp2_with fail
    have hw4 := wrap_gv 4 (fs 8 s1) (fs_byte BS1.out) (by omega)
    refine (fnum_st w0 _ rb 4 (fs 8 s1) HR_1.out (by omega)).mono ?_
    rintro e w2 ⟨rfl, h1, o1⟩
    have hc2 := o1.2 g2 _ HD2_1.out hn2
    have hc3 := o1.2 g3 _ HD3_1.out hn3
    clear q0 q1 q2 q3 q4 q5 q6 q7 q8 q9 t0 t1 t2 t3 t4 t5 t6 t7 t8 t9 f3 f2
    have q0 := blk_cell hc3 0
    have q1 := blk_cell hc3 1
    have q2 := blk_cell hc3 2
    have q3 := blk_cell hc3 3
    have q4 := blk_cell hc3 4
    have q5 := blk_cell hc3 5
    have q6 := blk_cell hc3 6
    have q7 := blk_cell hc3 7
    have q8 := blk_cell hc3 8
    have q9 := blk_cell hc3 9
    simp only [List.getElem?_toArray, List.getElem?_cons_zero, List.getElem?_cons_succ] at q0 q1 q2 q3 q4 q5 q6 q7 q8 q9
    have t0 := blk_cell hc2 0
    have t1 := blk_cell hc2 1
    have t2 := blk_cell hc2 2
    have t3 := blk_cell hc2 3
    have t4 := blk_cell hc2 4
    have t5 := blk_cell hc2 5
    have t6 := blk_cell hc2 6
    have t7 := blk_cell hc2 7
    have t8 := blk_cell hc2 8
    have t9 := blk_cell hc2 9
    simp only [List.getElem?_toArray, List.getElem?_cons_zero, List.getElem?_cons_succ] at t0 t1 t2 t3 t4 t5 t6 t7 t8 t9
    have f3 := fun i => blk_frozen hc3 i
    have f2 := fun i => blk_frozen hc2 i
    have hd3_ := (blk_set hc3 2 (.int .i64 (gv 4 (fs 8 s1))))
    simp only [List.setIfInBounds_toArray, List.set_cons_zero, List.set_cons_succ] at hd3_
    have hd2_ := ((Below.heap_setCell w2 ⟨g3, 2, none⟩ (.int .i64 (gv 4 (fs 8 s1))) g2 h23).trans hc2)
    have HD3_2 := Lib.hid hd3_
    have HD2_2 := Lib.hid hd2_
    have HR_2 := Lib.hid (h1.other hn3 hl3 2 (.int .i64 (gv 4 (fs 8 s1))))
    have HO_2 := Lib.hid ((HO_1.out.trans o1).new hw3 2 (.int .i64 (gv 4 (fs 8 s1))))
    clear hd3_ hd2_
    clear hc2 hc3 h1 o1
    go_wp2
    (try simp only [Exit.inBlock, Exit.then])
    exact bodyPost_ret (v := .agg #[.int .i64 6, .int .i64 0, .int .i64 (gv 4 (fs 8 s1)), .int .u64 0, .int .u64 0, .int .i64 0, .int .u64 0, .int .u64 0, .int .u64 (gv 8 s1), .slice none 0 0]) (results_one (fn := Try.f22) rfl _ _ g2 29 _ (0, 0) _ rfl (lay10_here HD2_2.out _ _ _ _ _ _ _ _ _ _) Try.underlying29 rfl (by kernel_rfl)) rfl ⟨rfl, Rf.lay HR_2.out hn2 hl2 _ _ _ _ _ _ _ _ _ _, Only.lay HO_2.out hw2 _ _ _ _ _ _ _ _ _ _⟩
  by_cases e4 : k = 4
  · subst e4
    go_enter Try.func22, Try.ntmps22
    go_wp2_with fail
    refine (fnum_st w0 _ rb 1 s (H.out.below (below_alloc (Below.refl _ _) _)) (by omega)).mono ?_
    rintro e wn ⟨rfl, h1, o1⟩
    rw [HK.out]
    rw [← HS1.out] at h1
    have hz := o1.2 W.heap.size _ (blk_new _ _) (by omega)
    have hsz := o1.1
    have O0 := Lib.hid (((Only.refl W rb).below (below_alloc (Below.refl _ _) _)).trans o1)
    have H0 := Lib.hid h1
    clear h1 o1
    go_upto_region 2 with (fail)
    obtain ⟨wa, hwa⟩ : ∃ wa, wa = wn.alloc (.cells #[.int .i64 4, .int .i64 0, .int .i64 0, .int .u64 0, .int .u64 0, .int .i64 0, .int .u64 0, .int .u64 0, .int .u64 0, .slice none 0 0] 29 (0, 0)) := ⟨_, rfl⟩
    obtain ⟨g3, hg3⟩ : ∃ g, g = wn.heap.size := ⟨_, rfl⟩
    obtain ⟨g2, hg2⟩ : ∃ g, g = W.heap.size := ⟨_, rfl⟩
    have hb2 : wa.heap[g2]? = some (.cells #[.int .i64 0, .int .i64 0, .int .i64 0, .int .u64 0, .int .u64 0, .int .i64 0, .int .u64 0, .int .u64 0, .int .u64 0, .slice none 0 0] 29 (0, 0)) := by rw [hwa, hg2]; exact blk_alloc hz _
    have hb3 : wa.heap[g3]? = some (.cells #[.int .i64 4, .int .i64 0, .int .i64 0, .int .u64 0, .int .u64 0, .int .i64 0, .int .u64 0, .int .u64 0, .int .u64 0, .slice none 0 0] 29 (0, 0)) := by rw [hwa, hg3]; exact blk_new _ _
    have HA : Hid (Rf w0 wa rb s1) := by rw [hwa]; exact H0.out.below (below_alloc (Below.refl _ _) _)
    have OA : Hid (Only W wa rb) := by rw [hwa]; exact O0.out.below (below_alloc (Below.refl _ _) _)
    have hltn := H0.out.lt
    have hn2 : g2 ≠ rb := by omega
    have hn3 : g3 ≠ rb := by omega
    have h23 : g2 ≠ g3 := by have := blk_lt hz; omega
    have hl2 : w0.heap.size ≤ g2 := by omega
    have hw2 : W.heap.size ≤ g2 := by omega
    have hw3 : W.heap.size ≤ g3 := by have := O0.out.1; omega
    have hl3 : w0.heap.size ≤ g3 := by omega
    rw [← hwa, ← hg2, ← hg3]
    have HB2 := Lib.hid hb2
    have HB3 := Lib.hid hb3
    clear hwa hg2 hg3 hb2 hb3 H H0 O0 hz hsz hltn
    have a0 := blk_cell HB3.out 0
    have a1 := blk_cell HB3.out 1
    have a2 := blk_cell HB3.out 2
    have a3 := blk_cell HB3.out 3
    have a4 := blk_cell HB3.out 4
    have a5 := blk_cell HB3.out 5
    have a6 := blk_cell HB3.out 6
    have a7 := blk_cell HB3.out 7
    have a8 := blk_cell HB3.out 8
    have a9 := blk_cell HB3.out 9
    simp only [List.getElem?_toArray, List.getElem?_cons_zero, List.getElem?_cons_succ] at a0 a1 a2 a3 a4 a5 a6 a7 a8 a9
    have b0 := blk_cell HB2.out 0
    have b1 := blk_cell HB2.out 1
    have b2 := blk_cell HB2.out 2
    have b3 := blk_cell HB2.out 3
    have b4 := blk_cell HB2.out 4
    have b5 := blk_cell HB2.out 5
    have b6 := blk_cell HB2.out 6
    have b7 := blk_cell HB2.out 7
    have b8 := blk_cell HB2.out 8
    have b9 := blk_cell HB2.out 9
    simp only [List.getElem?_toArray, List.getElem?_cons_zero, List.getElem?_cons_succ] at b0 b1 b2 b3 b4 b5 b6 b7 b8 b9
    have f3 := fun i => blk_frozen HB3.out i
    have f2 := fun i => blk_frozen HB2.out i
    go_wp2_with fail
    have hw4 := wrap_gv 4 s1 BS1.out (by omega)
    refine (fnum_st w0 _ rb 4 s1 HA.out (by omega)).mono ?_
    rintro e w1 ⟨rfl, h1, o1⟩
    have hc2 := o1.2 g2 _ HB2.out hn2
    have hc3 := o1.2 g3 _ HB3.out hn3
    clear a0 a1 a2 a3 a4 a5 a6 a7 a8 a9 b0 b1 b2 b3 b4 b5 b6 b7 b8 b9 f3 f2
    have q0 := blk_cell hc3 0
    have q1 := blk_cell hc3 1
    have q2 := blk_cell hc3 2
    have q3 := blk_cell hc3 3
    have q4 := blk_cell hc3 4
    have q5 := blk_cell hc3 5
    have q6 := blk_cell hc3 6
    have q7 := blk_cell hc3 7
    have q8 := blk_cell hc3 8
    have q9 := blk_cell hc3 9
    simp only [List.getElem?_toArray, List.getElem?_cons_zero, List.getElem?_cons_succ] at q0 q1 q2 q3 q4 q5 q6 q7 q8 q9
    have t0 := blk_cell hc2 0
    have t1 := blk_cell hc2 1
    have t2 := blk_cell hc2 2
    have t3 := blk_cell hc2 3
    have t4 := blk_cell hc2 4
    have t5 := blk_cell hc2 5
    have t6 := blk_cell hc2 6
    have t7 := blk_cell hc2 7
    have t8 := blk_cell hc2 8
    have t9 := blk_cell hc2 9
    simp only [List.getElem?_toArray, List.getElem?_cons_zero, List.getElem?_cons_succ] at t0 t1 t2 t3 t4 t5 t6 t7 t8 t9
    have f3 := fun i => blk_frozen hc3 i
    have f2 := fun i => blk_frozen hc2 i
    have hd3_ := (blk_set hc3 2 (.int .i64 (gv 4 s1)))
    simp only [List.setIfInBounds_toArray, List.set_cons_zero, List.set_cons_succ] at hd3_
    have hd2_ := ((Below.heap_setCell w1 ⟨g3, 2, none⟩ (.int .i64 (gv 4 s1)) g2 h23).trans hc2)
    have HD3_1 := Lib.hid hd3_
    have HD2_1 := Lib.hid hd2_
    have HR_1 := Lib.hid (h1.other hn3 hl3 2 (.int .i64 (gv 4 s1)))
    have HO_1 := Lib.hid ((OA.out.trans o1).new hw3 2 (.int .i64 (gv 4 s1)))
    clear hd3_ hd2_
    clear hc2 hc3 h1 o1
    go_wp2
    (try simp only [Exit.inBlock, Exit.then])
    exact bodyPost_ret (v := .agg #[.int .i64 4, .int .i64 0, .int .i64 (gv 4 s1), .int .u64 0, .int .u64 0, .int .i64 0, .int .u64 0, .int .u64 0, .int .u64 0, .slice none 0 0]) (results_one (fn := Try.f22) rfl _ _ g2 29 _ (0, 0) _ rfl (lay10_here HD2_1.out _ _ _ _ _ _ _ _ _ _) Try.underlying29 rfl (by kernel_rfl)) rfl ⟨rfl, Rf.lay HR_1.out hn2 hl2 _ _ _ _ _ _ _ _ _ _, Only.lay HO_1.out hw2 _ _ _ _ _ _ _ _ _ _⟩
  have r1 : fcV k s1 = ⟨k, 0, 0, z26, z24, 0, []⟩ := by unfold fcV; simp only [if_neg e1, if_neg e2, if_neg e3, if_neg e4, if_neg e6]
  have r2 : fcS k s1 = s1 := by unfold fcS; simp only [if_neg e1, if_neg e2, if_neg e3, if_neg e4, if_neg e6]
  rw [r1, r2]
  have d1 : (k == 1) = false := beq_eq_false_iff_ne.mpr e1
  have d2 : (k == 2) = false := beq_eq_false_iff_ne.mpr e2
  have d3 : (k == 3) = false := beq_eq_false_iff_ne.mpr e3
  have d4 : (k == 4) = false := beq_eq_false_iff_ne.mpr e4
  have d6 : (k == 6) = false := beq_eq_false_iff_ne.mpr e6
  have d7 : (k == 7) = false := beq_eq_false_iff_ne.mpr h7
  clear r1 r2
  go_enter Try.func22, Try.ntmps22
  go_wp2_with fail
  refine (fnum_st w0 _ rb 1 s (H.out.below (below_alloc (Below.refl _ _) _)) (by omega)).mono ?_
  rintro e wn ⟨rfl, h1, o1⟩
  rw [HK.out]
  rw [← HS1.out] at h1
  have hz := o1.2 W.heap.size _ (blk_new _ _) (by omega)
  have hsz := o1.1
  have O0 := Lib.hid (((Only.refl W rb).below (below_alloc (Below.refl _ _) _)).trans o1)
  have H0 := Lib.hid h1
  clear h1 o1
  go_upto_region 2 with (fail)
  obtain ⟨wa, hwa⟩ : ∃ wa, wa = wn.alloc (.cells #[.int .i64 k, .int .i64 0, .int .i64 0, .int .u64 0, .int .u64 0, .int .i64 0, .int .u64 0, .int .u64 0, .int .u64 0, .slice none 0 0] 29 (0, 0)) := ⟨_, rfl⟩
  obtain ⟨g3, hg3⟩ : ∃ g, g = wn.heap.size := ⟨_, rfl⟩
  obtain ⟨g2, hg2⟩ : ∃ g, g = W.heap.size := ⟨_, rfl⟩
  have hb2 : wa.heap[g2]? = some (.cells #[.int .i64 0, .int .i64 0, .int .i64 0, .int .u64 0, .int .u64 0, .int .i64 0, .int .u64 0, .int .u64 0, .int .u64 0, .slice none 0 0] 29 (0, 0)) := by rw [hwa, hg2]; exact blk_alloc hz _
  have hb3 : wa.heap[g3]? = some (.cells #[.int .i64 k, .int .i64 0, .int .i64 0, .int .u64 0, .int .u64 0, .int .i64 0, .int .u64 0, .int .u64 0, .int .u64 0, .slice none 0 0] 29 (0, 0)) := by rw [hwa, hg3]; exact blk_new _ _
  have HA : Hid (Rf w0 wa rb s1) := by rw [hwa]; exact H0.out.below (below_alloc (Below.refl _ _) _)
  have OA : Hid (Only W wa rb) := by rw [hwa]; exact O0.out.below (below_alloc (Below.refl _ _) _)
  have hltn := H0.out.lt
  have hn2 : g2 ≠ rb := by omega
  have hn3 : g3 ≠ rb := by omega
  have h23 : g2 ≠ g3 := by have := blk_lt hz; omega
  have hl2 : w0.heap.size ≤ g2 := by omega
  have hw2 : W.heap.size ≤ g2 := by omega
  have hw3 : W.heap.size ≤ g3 := by have := O0.out.1; omega
  have hl3 : w0.heap.size ≤ g3 := by omega
  rw [← hwa, ← hg2, ← hg3]
  have HB2 := Lib.hid hb2
  have HB3 := Lib.hid hb3
  clear hwa hg2 hg3 hb2 hb3 H H0 O0 hz hsz hltn
  have a0 := blk_cell HB3.out 0
  have a1 := blk_cell HB3.out 1
  have a2 := blk_cell HB3.out 2
  have a3 := blk_cell HB3.out 3
  have a4 := blk_cell HB3.out 4
  have a5 := blk_cell HB3.out 5
  have a6 := blk_cell HB3.out 6
  have a7 := blk_cell HB3.out 7
  have a8 := blk_cell HB3.out 8
  have a9 := blk_cell HB3.out 9
  simp only [List.getElem?_toArray, List.getElem?_cons_zero, List.getElem?_cons_succ] at a0 a1 a2 a3 a4 a5 a6 a7 a8 a9
  have b0 := blk_cell HB2.out 0
  have b1 := blk_cell HB2.out 1
  have b2 := blk_cell HB2.out 2
  have b3 := blk_cell HB2.out 3
  have b4 := blk_cell HB2.out 4
  have b5 := blk_cell HB2.out 5
  have b6 := blk_cell HB2.out 6
  have b7 := blk_cell HB2.out 7
  have b8 := blk_cell HB2.out 8
  have b9 := blk_cell HB2.out 9
  simp only [List.getElem?_toArray, List.getElem?_cons_zero, List.getElem?_cons_succ] at b0 b1 b2 b3 b4 b5 b6 b7 b8 b9
  have f3 := fun i => blk_frozen HB3.out i
  have f2 := fun i => blk_frozen HB2.out i
  go_wp2
  (try simp only [Exit.inBlock, Exit.then])
  exact bodyPost_ret (v := .agg #[.int .i64 k, .int .i64 0, .int .i64 0, .int .u64 0, .int .u64 0, .int .i64 0, .int .u64 0, .int .u64 0, .int .u64 0, .slice none 0 0]) (results_one (fn := Try.f22) rfl _ _ g2 29 _ (0, 0) _ rfl (lay10_here HB2.out _ _ _ _ _ _ _ _ _ _) Try.underlying29 rfl (by kernel_rfl)) rfl ⟨rfl, Rf.lay HA.out hn2 hl2 _ _ _ _ _ _ _ _ _ _, Only.lay OA.out hw2 _ _ _ _ _ _ _ _ _ _⟩
end Go.Proofs.Ytliighhedmfgjaa.Cmd
