/- The reference's reader of commands: a batch. -/
import Derived.Test.YtliighhedmfgjaaRf4
namespace Go.Proofs.Ytliighhedmfgjaa.Cmd
open Go.RowKit Go.Proofs.Ytliighhedmfgjaa.PRefC Go.Proofs.YtliighhedmfgjaaW.PrintWords Go.Proofs.YtliighhedmfgjaaW.PrintLast Go.Proofs.YtliighhedmfgjaaW.PrintMore

theorem fiV_f6 (s : St) : (fiV s).f6 = [] := by
  unfold fiV fcV
  repeat' split
  all_goals rfl
theorem R_onlyf {W W1 : World} {B rb : Nat} {ok : Nat → Prop} {v : Value} {xs : List S29} {w0 : World} {s : St} (h : k29.R 29 W B ok v xs) (hr : Rf w0 W rb s) (o : Only W W1 rb) : k29.R 29 W1 B ok v xs := by
  obtain ⟨A, c, hb, _⟩ := hr.is
  have h1 := Kd.R_types h hb (by decide)
  refine Kd.R_mono (Kd.R_step h1 fun k hk hlt => ?_) (fun _ hk => hk.1)
  have he : W.heap[k]? = some W.heap[k] := Array.getElem?_eq_getElem hlt
  exact (o.2 k _ he hk.2).trans he.symm
theorem Rf.grown {w0 W W1 : World} {rb B : Nat} {ok : Nat → Prop} {s : St} {v : Value} {xs : List S29} (h : Rf w0 W rb s) (hR : k29.R 29 W B ok v xs) (hg : W.grownBy W1 v.ownBlock) (hB : Below w0.heap.size w0 W1) : Rf w0 W1 rb s := by
  obtain ⟨⟨A, c, h1, h2, h3⟩, h4, h5, h6, h7⟩ := h
  exact ⟨⟨A, c, blk_grown h1 hg (Kd.R_ne hR h1 (by decide)), h2, h3⟩, h4, hB, h6, h7⟩
/-- The items of a batch: at most n. -/
def fbL : Nat → St → List S29 × St
  | 0, s => ([], s)
  | n + 1, s => if s.2 = true then ([], s) else (fiV s :: (fbL n (fiS s)).1, (fbL n (fiS s)).2)
theorem fb_step {N i : Nat} {xs : List S29} {tl : List Int} {s2 : St} {x : S29} (hi : i < N) (h : (xs ++ (fbL (N - i) (tl, false)).1, (fbL (N - i) (tl, false)).2) = fbL N s2) (hx : x = fiV (tl, false)) :
    ((xs ++ [x]) ++ (fbL (N - (i + 1)) (fiS (tl, false))).1, (fbL (N - (i + 1)) (fiS (tl, false))).2) = fbL N s2 := by
  rw [← h, show N - i = N - (i + 1) + 1 by omega]
  simp only [fbL]
  rw [if_neg (by simp), hx]
  simp

set_option maxRecDepth 20000 in
set_option maxHeartbeats 4000000 in
theorem fcmd7_yes (w0 W : World) (rb N : Nat) (s : St) (h : Rf w0 W rb s) (hk : gv 1 s = 7) (hN : gv 1 (fs 1 s) = N) :
    Calls Try.prog 22 #[.pointer (some ⟨rb, 0, none⟩), .bool true] W fun e w' => ∃ v, e = .returned (.agg (cells29 ⟨7, 0, 0, z26, z24, 0, (fbL N (fs 1 (fs 1 s))).1⟩ v)) ∧ k29.R 29 w' w0.heap.size (fun j => W.heap.size ≤ j) v (fbL N (fs 1 (fs 1 s))).1 ∧ Rf w0 w' rb (fbL N (fs 1 (fs 1 s))).2 ∧ Only W w' rb := by
  have hlt := h.lt
  have hle0 : w0.heap.size ≤ W.heap.size := h.bel.size
  have hwk : IntKind.i64.wrap 7 = 7 := i64_of (by decide) (by decide)
  have H := Lib.hid h
  have BS1 : Hid (Byte (fs 1 s).1) := fs_byte h.byte
  clear h
  obtain ⟨s1, hs1⟩ : ∃ s1, s1 = fs 1 s := ⟨_, rfl⟩
  rw [← hs1] at BS1 hN ⊢
  obtain ⟨s2, hs2⟩ : ∃ s2, s2 = fs 1 s1 := ⟨_, rfl⟩
  rw [← hs2]
  have hr := gv_range 1 s1 BS1.out
  rw [p1, hN] at hr
  have hN2 : N < 256 := by omega
  have hwn : IntKind.i64.wrap (N : Int) = N := i64_of (by omega) (by omega)
  have HN := Lib.hid hN
  have HK := Lib.hid hk
  have HS1 := Lib.hid hs1
  have HS2 := Lib.hid hs2
  clear hk hs1 hs2 hN hr
  go_enter Try.func22, Try.ntmps22
  go_wp2_with fail
  refine (fnum_st w0 _ rb 1 s (H.out.below (below_alloc (Below.refl _ _) _)) (by omega)).mono ?_
  rintro e wn ⟨rfl, h1, o1⟩
  rw [HK.out]
  rw [← HS1.out] at h1
  have hz := o1.2 W.heap.size _ (blk_new _ _) (by omega)
  have hsz := o1.1
  have O0 := Lib.hid (((Only.refl W rb).below (below_alloc (Below.refl _ _) _)).trans o1)
  have H0 := Lib.hid h1
  clear h1 o1
  go_upto_region 2 with (fail)
  obtain ⟨wa, hwa⟩ : ∃ wa, wa = wn.alloc (.cells #[.int .i64 7, .int .i64 0, .int .i64 0, .int .u64 0, .int .u64 0, .int .i64 0, .int .u64 0, .int .u64 0, .int .u64 0, .slice none 0 0] 29 (0, 0)) := ⟨_, rfl⟩
  obtain ⟨g3, hg3⟩ : ∃ g, g = wn.heap.size := ⟨_, rfl⟩
  obtain ⟨g2, hg2⟩ : ∃ g, g = W.heap.size := ⟨_, rfl⟩
  have hb2 : wa.heap[g2]? = some (.cells #[.int .i64 0, .int .i64 0, .int .i64 0, .int .u64 0, .int .u64 0, .int .i64 0, .int .u64 0, .int .u64 0, .int .u64 0, .slice none 0 0] 29 (0, 0)) := by rw [hwa, hg2]; exact blk_alloc hz _
  have hb3 : wa.heap[g3]? = some (.cells #[.int .i64 7, .int .i64 0, .int .i64 0, .int .u64 0, .int .u64 0, .int .i64 0, .int .u64 0, .int .u64 0, .int .u64 0, .slice none 0 0] 29 (0, 0)) := by rw [hwa, hg3]; exact blk_new _ _
  have HA : Hid (Rf w0 wa rb s1) := by rw [hwa]; exact H0.out.below (below_alloc (Below.refl _ _) _)
  have OA : Hid (Only W wa rb) := by rw [hwa]; exact O0.out.below (below_alloc (Below.refl _ _) _)
  have hltn := H0.out.lt
  have hn2 : g2 ≠ rb := by omega
  have hn3 : g3 ≠ rb := by omega
  have h23 : g2 ≠ g3 := by have := blk_lt hz; omega
  have hl2 : w0.heap.size ≤ g2 := by omega
  have hw2 : W.heap.size ≤ g2 := by omega
  have hw3 : W.heap.size ≤ g3 := by have := O0.out.1; omega
  have hl3 : w0.heap.size ≤ g3 := by omega
  rw [← hwa, ← hg2, ← hg3]
  have HB2 := Lib.hid hb2
  have HB3 := Lib.hid hb3
  clear hwa hg2 hg3 hb2 hb3 H H0 O0 hz hsz hltn
  have a0 := blk_cell HB3.out 0
  have a1 := blk_cell HB3.out 1
  have a2 := blk_cell HB3.out 2
  have a3 := blk_cell HB3.out 3
  have a4 := blk_cell HB3.out 4
  have a5 := blk_cell HB3.out 5
  have a6 := blk_cell HB3.out 6
  have a7 := blk_cell HB3.out 7
  have a8 := blk_cell HB3.out 8
  have a9 := blk_cell HB3.out 9
  simp only [List.getElem?_toArray, List.getElem?_cons_zero, List.getElem?_cons_succ] at a0 a1 a2 a3 a4 a5 a6 a7 a8 a9
  have b0 := blk_cell HB2.out 0
  have b1 := blk_cell HB2.out 1
  have b2 := blk_cell HB2.out 2
  have b3 := blk_cell HB2.out 3
  have b4 := blk_cell HB2.out 4
  have b5 := blk_cell HB2.out 5
  have b6 := blk_cell HB2.out 6
  have b7 := blk_cell HB2.out 7
  have b8 := blk_cell HB2.out 8
  have b9 := blk_cell HB2.out 9
  simp only [List.getElem?_toArray, List.getElem?_cons_zero, List.getElem?_cons_succ] at b0 b1 b2 b3 b4 b5 b6 b7 b8 b9
  have f3 := fun i => blk_frozen HB3.out i
  have f2 := fun i => blk_frozen HB2.out i
  go_wp2_with fail
  refine (fnum_st w0 _ rb 1 s1 HA.out (by omega)).mono ?_
  rintro e w1 ⟨rfl, h1, o1⟩
  have hc2 := o1.2 g2 _ HB2.out hn2
  have hc3 := o1.2 g3 _ HB3.out hn3
  clear a0 a1 a2 a3 a4 a5 a6 a7 a8 a9 b0 b1 b2 b3 b4 b5 b6 b7 b8 b9 f3 f2
  rw [HN.out]
  rw [← HS2.out] at h1
  have H1 := Lib.hid h1
  have O1 := Lib.hid (OA.out.trans o1)
  have HC2 := Lib.hid hc2
  have HC3 := Lib.hid hc3
  clear hc2 hc3 h1 o1 HB2 HB3 HA OA
  go_wp2_with fail
  go_loopw [7] (fun vi wr => ∃ (i : Nat) (t : St) (xs : List S29) (A : Option Addr) (c : Nat), i ≤ N ∧ vi = .int .i64 i ∧ xs.length = i ∧ Hid (Rf w0 wr rb t) ∧ Hid (Only W wr rb) ∧ Hid (wr.heap[g2]? = some (.cells #[.int .i64 0, .int .i64 0, .int .i64 0, .int .u64 0, .int .u64 0, .int .i64 0, .int .u64 0, .int .u64 0, .int .u64 0, .slice none 0 0] 29 (0, 0))) ∧ Hid (wr.heap[g3]? = some (.cells #[.int .i64 7, .int .i64 0, .int .i64 0, .int .u64 0, .int .u64 0, .int .i64 0, .int .u64 0, .int .u64 0, .int .u64 0, .slice A xs.length c] 29 (0, 0))) ∧ Hid (k29.R 29 wr w0.heap.size (fun j => (j ≠ g3 ∧ j ≠ g2) ∧ W.heap.size ≤ j) (.slice A xs.length c) xs) ∧ Hid ((xs ++ (fbL (N - i) t).1, (fbL (N - i) t).2) = fbL N s2)) (fun i _ => N - (intOf i).toNat)
  case atStart => exact ⟨0, s2, [], none, 0, Nat.zero_le _, rfl, rfl, H1.out, O1.out, HC2.out, HC3.out, Kd.R_nil _ _ _ _ _, by show ([] ++ (fbL (N - 0) s2).1, (fbL (N - 0) s2).2) = _; rw [Nat.sub_zero]; rfl⟩
  case round =>
    clear H1 O1 HC2 HC3
    obtain ⟨i, t, xs, A, c, hi, rfl, hxl, HT, HO, HC2, HC3, HR, HE⟩ := hrel
    have HXL := Lib.hid hxl
    clear hxl
    obtain ⟨Ab, cb, hbr, _⟩ := HT.out.is
    have pb := blk_cell hbr 1
    simp only [List.getElem?_toArray, List.getElem?_cons_zero, List.getElem?_cons_succ] at pb
    clear hbr
    by_cases hiN : i < N
    · obtain ⟨tl, tb⟩ := t
      cases tb with
      | true =>
        have hend : (xs, (tl, true)) = fbL N s2 := by
          have := HE.out
          obtain ⟨d, hd⟩ : ∃ d, N - i = d + 1 := ⟨N - i - 1, by omega⟩
          rw [hd] at this
          simpa [fbL] using this
        have e1 : (fbL N s2).1 = xs := by rw [← hend]
        have e2 : (fbL N s2).2 = (tl, true) := by rw [← hend]
        have E1 := Lib.hid e1
        have E2 := Lib.hid e2
        clear e1 e2 hend
        have q0 := blk_cell HC3.out 0
        have q1 := blk_cell HC3.out 1
        have q2 := blk_cell HC3.out 2
        have q3 := blk_cell HC3.out 3
        have q4 := blk_cell HC3.out 4
        have q5 := blk_cell HC3.out 5
        have q6 := blk_cell HC3.out 6
        have q7 := blk_cell HC3.out 7
        have q8 := blk_cell HC3.out 8
        have q9 := blk_cell HC3.out 9
        simp only [List.getElem?_toArray, List.getElem?_cons_zero, List.getElem?_cons_succ] at q0 q1 q2 q3 q4 q5 q6 q7 q8 q9
        have t0 := blk_cell HC2.out 0
        have t1 := blk_cell HC2.out 1
        have t2 := blk_cell HC2.out 2
        have t3 := blk_cell HC2.out 3
        have t4 := blk_cell HC2.out 4
        have t5 := blk_cell HC2.out 5
        have t6 := blk_cell HC2.out 6
        have t7 := blk_cell HC2.out 7
        have t8 := blk_cell HC2.out 8
        have t9 := blk_cell HC2.out 9
        simp only [List.getElem?_toArray, List.getElem?_cons_zero, List.getElem?_cons_succ] at t0 t1 t2 t3 t4 t5 t6 t7 t8 t9
        have f3 := fun j => blk_frozen HC3.out j
        have f2 := fun j => blk_frozen HC2.out j
        go_wp2
        (try simp only [Exit.inBlock, Exit.then])
        refine bodyPost_ret (v := .agg #[.int .i64 7, .int .i64 0, .int .i64 0, .int .u64 0, .int .u64 0, .int .i64 0, .int .u64 0, .int .u64 0, .int .u64 0, .slice A xs.length c]) (results_one (fn := Try.f22) rfl _ _ g2 29 _ (0, 0) _ rfl (lay10_here HC2.out _ _ _ _ _ _ _ _ _ _) Try.underlying29 rfl (by kernel_rfl)) rfl ?_
        rw [E1.out, E2.out]
        refine ⟨.slice A xs.length c, rfl, ?_, Rf.lay HT.out hn2 hl2 _ _ _ _ _ _ _ _ _ _, Only.lay HO.out hw2 _ _ _ _ _ _ _ _ _ _⟩
        exact Kd.R_mono (Kd.R_step HR.out fun j hj _ => lay10_far _ hj.1.2 _ _ _ _ _ _ _ _ _ _) (fun _ hj => hj.2)
      | false =>
        have hc2 := HC2.out
        have hc3 := HC3.out
        have q0 := blk_cell hc3 0
        have q1 := blk_cell hc3 1
        have q2 := blk_cell hc3 2
        have q3 := blk_cell hc3 3
        have q4 := blk_cell hc3 4
        have q5 := blk_cell hc3 5
        have q6 := blk_cell hc3 6
        have q7 := blk_cell hc3 7
        have q8 := blk_cell hc3 8
        have q9 := blk_cell hc3 9
        simp only [List.getElem?_toArray, List.getElem?_cons_zero, List.getElem?_cons_succ] at q0 q1 q2 q3 q4 q5 q6 q7 q8 q9
        have f3 := fun j => blk_frozen HC3.out j
        clear hc2 hc3
        have hxs : xs.length ≤ 255 := by have := HXL.out; omega
        obtain ⟨x, hx⟩ : ∃ x, x = fiV (tl, false) := ⟨_, rfl⟩
        have hx6 : x.f6 = [] := by rw [hx]; exact fiV_f6 _
        have HX := Lib.hid hx
        have HX6 := Lib.hid hx6
        clear hx hx6
        go_wp2_with fail
        go_region_law (first
          | (go_simp; go_at_call 22; refine (fitem_st w0 _ rb (tl, false) (HT.out.below (below_drew (Below.refl _ _)))).mono ?_; rintro e w4 ⟨rfl, h4, o4⟩; rw [← HX.out]; unfold cells29; have m2 := o4.2 g2 _ (blk_drew HC2.out) hn2; have m3 := o4.2 g3 _ (blk_drew HC3.out) hn3; have r4 := R_onlyf (Kd.R_drew HR.out) (HT.out.below (below_drew (Below.refl _ _))) o4; have q9'' := blk_cell m3 9; simp only [List.getElem?_toArray, List.getElem?_cons_zero, List.getElem?_cons_succ] at q9''; have H4 := Lib.hid h4; have O4 := Lib.hid ((HO.out.below (below_drew (Below.refl _ _))).trans o4); have M42 := Lib.hid m2; have M43 := Lib.hid m3; have R4 := Lib.hid r4; have hl34 : g3 < w4.heap.size := blk_lt m3; clear h4 o4 m2 m3 r4)
          | (refine Kd.R_append_rows_step (w0 := w0) (W := w4.alloc (.cells (cells29 x (.slice none 0 0)) 29 (0, 0))) (Rr := k29.M (w4.alloc (.cells (cells29 x (.slice none 0 0)) 29 (0, 0))) w0.heap.size (fun _ => False)) k29 w0.heap.size (by rfl) _ _ 27 29 (.agg (cells29 z29 (.slice none 0 0))) 96 (by rfl) Try.underlying27 info29 rfl (by decide) (by decide) (.slice A xs.length c) xs [x] (some ⟨w4.heap.size, 0, none⟩) 1 1 (fun j => (j ≠ g3 ∧ j ≠ g2) ∧ W.heap.size ≤ j) (fun _ => False) (by rfl) (by rfl) (Kd.R_alloc R4.out _) (lit_reads w4 w0.heap.size _ x HX6.out H4.out.bel.size rfl) (fun x cs h => h) (fun _ hk => hk.elim) (fun k hk => ⟨⟨(fun e => by have := blk_lt (blk_alloc M43.out (.cells (cells29 x (.slice none 0 0)) 29 (0, 0))); omega), (fun e => by have := blk_lt (blk_alloc M42.out (.cells (cells29 x (.slice none 0 0)) 29 (0, 0))); omega)⟩, Nat.le_trans O4.out.1 (Nat.le_trans (by simp) hk)⟩) (below_alloc H4.out.bel _) (Nat.le_trans H4.out.bel.size (by simp)) (by omega) ?_; intro v5 w5 hown5 hB5 hg5 hat5; obtain ⟨A5, c5, he5⟩ := Kd.R_slice hown5; subst he5; have m5 := blk_grown (g := g3) (blk_alloc M43.out _) hg5 (fun e => (R4.out.1 g3 e.symm).1.1 rfl); have m6 := blk_grown (g := g2) (blk_alloc M42.out _) hg5 (fun e => (R4.out.1 g2 e.symm).1.2 rfl); have q5' := blk_cell m5 9; have f5' := blk_frozen m5 9; simp only [List.getElem?_toArray, List.getElem?_cons_zero, List.getElem?_cons_succ] at q5'; have M5 := Lib.hid m5; have M6 := Lib.hid m6; clear m5 m6))
        all_goals (have R4a := Kd.R_alloc R4.out (.cells (cells29 x (.slice none 0 0)) 29 (0, 0)))
        all_goals (have h5s := ((H4.out.below (below_alloc (Below.refl _ _) (.cells (cells29 x (.slice none 0 0)) 29 (0, 0)))).grown R4a hg5 hB5).other hn3 hl3 9 (.slice A5 (xs ++ [x]).length c5))
        all_goals (have h5o := ((O4.out.below (below_alloc (Below.refl _ _) (.cells (cells29 x (.slice none 0 0)) 29 (0, 0)))).grown R4a (fun j hj => hj.2) hg5).new hw3 9 (.slice A5 (xs ++ [x]).length c5))
        all_goals (have h53 := blk_set M5.out 9 (.slice A5 (xs ++ [x]).length c5))
        all_goals (have h52 := (Below.heap_setCell w5 ⟨g3, 9, none⟩ (.slice A5 (xs ++ [x]).length c5) g2 h23).trans M6.out)
        all_goals (have h5r := Kd.R_far (p := ⟨g3, 9, none⟩) hown5 (fun j hj => hj.1.1) (.slice A5 (xs ++ [x]).length c5))
        all_goals (have h5e := fb_step hiN HE.out HX.out)
        all_goals (have h5l : (xs ++ [x]).length = i + 1 := by rw [List.length_append, HXL.out]; rfl)
        all_goals (simp only [List.setIfInBounds_toArray, List.set_cons_zero, List.set_cons_succ] at h53)
        all_goals (have F1 := Lib.hid h5s)
        all_goals (have F2 := Lib.hid h5o)
        all_goals (have F3 := Lib.hid h53)
        all_goals (have F4 := Lib.hid h52)
        all_goals (have F5 := Lib.hid h5r)
        all_goals (have F6 := Lib.hid h5e)
        all_goals (have F7 := Lib.hid h5l)
        all_goals (clear R4a h5s h5o h53 h52 h5r h5e h5l hown5 hB5 hg5 hat5)
        all_goals go_wp2
        all_goals go_roundw
        all_goals try (simp [intOf]; done)
        all_goals try (simp [intOf]; omega; done)
        all_goals (have el : xs.length + 1 = (xs ++ [x]).length := by simp)
        all_goals (rw [el])
        all_goals exact ⟨i + 1, _, xs ++ [x], A5, c5, by omega, by go_num, F7.out, F1.out, F2.out, F4.out, F3.out, F5.out, F6.out⟩
    · obtain rfl : i = N := by omega
      have hend : (xs, t) = fbL i s2 := by
        have := HE.out
        rw [Nat.sub_self] at this
        simpa [fbL] using this
      have e1 : (fbL i s2).1 = xs := by rw [← hend]
      have e2 : (fbL i s2).2 = t := by rw [← hend]
      have E1 := Lib.hid e1
      have E2 := Lib.hid e2
      clear e1 e2 hend
      have q0 := blk_cell HC3.out 0
      have q1 := blk_cell HC3.out 1
      have q2 := blk_cell HC3.out 2
      have q3 := blk_cell HC3.out 3
      have q4 := blk_cell HC3.out 4
      have q5 := blk_cell HC3.out 5
      have q6 := blk_cell HC3.out 6
      have q7 := blk_cell HC3.out 7
      have q8 := blk_cell HC3.out 8
      have q9 := blk_cell HC3.out 9
      simp only [List.getElem?_toArray, List.getElem?_cons_zero, List.getElem?_cons_succ] at q0 q1 q2 q3 q4 q5 q6 q7 q8 q9
      have t0 := blk_cell HC2.out 0
      have t1 := blk_cell HC2.out 1
      have t2 := blk_cell HC2.out 2
      have t3 := blk_cell HC2.out 3
      have t4 := blk_cell HC2.out 4
      have t5 := blk_cell HC2.out 5
      have t6 := blk_cell HC2.out 6
      have t7 := blk_cell HC2.out 7
      have t8 := blk_cell HC2.out 8
      have t9 := blk_cell HC2.out 9
      simp only [List.getElem?_toArray, List.getElem?_cons_zero, List.getElem?_cons_succ] at t0 t1 t2 t3 t4 t5 t6 t7 t8 t9
      have f3 := fun j => blk_frozen HC3.out j
      have f2 := fun j => blk_frozen HC2.out j
      go_wp2
      (try simp only [Exit.inBlock, Exit.then])
      refine bodyPost_ret (v := .agg #[.int .i64 7, .int .i64 0, .int .i64 0, .int .u64 0, .int .u64 0, .int .i64 0, .int .u64 0, .int .u64 0, .int .u64 0, .slice A xs.length c]) (results_one (fn := Try.f22) rfl _ _ g2 29 _ (0, 0) _ rfl (lay10_here HC2.out _ _ _ _ _ _ _ _ _ _) Try.underlying29 rfl (by kernel_rfl)) rfl ?_
      rw [E1.out, E2.out]
      refine ⟨.slice A xs.length c, rfl, ?_, Rf.lay HT.out hn2 hl2 _ _ _ _ _ _ _ _ _ _, Only.lay HO.out hw2 _ _ _ _ _ _ _ _ _ _⟩
      exact Kd.R_mono (Kd.R_step HR.out fun j hj _ => lay10_far _ hj.1.2 _ _ _ _ _ _ _ _ _ _) (fun _ hj => hj.2)
end Go.Proofs.Ytliighhedmfgjaa.Cmd
