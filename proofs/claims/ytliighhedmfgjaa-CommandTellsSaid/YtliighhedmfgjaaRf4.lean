/- The reference's reader of commands: what lies in a batch. -/
import Derived.Test.YtliighhedmfgjaaRf3
namespace Go.Proofs.Ytliighhedmfgjaa.Cmd
open Go.RowKit Go.Proofs.Ytliighhedmfgjaa.PRefC Go.Proofs.YtliighhedmfgjaaW.PrintWords Go.Proofs.YtliighhedmfgjaaW.PrintLast Go.Proofs.YtliighhedmfgjaaW.PrintMore

set_option maxRecDepth 20000 in
set_option maxHeartbeats 4000000 in
theorem fcmd7_no (w0 W : World) (rb : Nat) (s : St) (h : Rf w0 W rb s) (hk : gv 1 s = 7) :
    Calls Try.prog 22 #[.pointer (some ⟨rb, 0, none⟩), .bool false] W fun e w' => e = .returned (.agg (cells29 ⟨7, 0, 0, z26, z24, 0, []⟩ (.slice none 0 0))) ∧ Rf w0 w' rb (fs 1 (fs 1 s)) ∧ Only W w' rb := by
  have hlt := h.lt
  have hle0 : w0.heap.size ≤ W.heap.size := h.bel.size
  have hwk : IntKind.i64.wrap 7 = 7 := i64_of (by decide) (by decide)
  have H := Lib.hid h
  have BS1 : Hid (Byte (fs 1 s).1) := fs_byte h.byte
  clear h
  obtain ⟨s1, hs1⟩ : ∃ s1, s1 = fs 1 s := ⟨_, rfl⟩
  rw [← hs1] at BS1 ⊢
  have HK := Lib.hid hk
  have HS1 := Lib.hid hs1
  clear hk hs1
  go_enter Try.func22, Try.ntmps22
  go_wp2_with fail
  refine (fnum_st w0 _ rb 1 s (H.out.below (below_alloc (Below.refl _ _) _)) (by omega)).mono ?_
  rintro e wn ⟨rfl, h1, o1⟩
  rw [HK.out]
  rw [← HS1.out] at h1
  have hz := o1.2 W.heap.size _ (blk_new _ _) (by omega)
  have hsz := o1.1
  have O0 := Lib.hid (((Only.refl W rb).below (below_alloc (Below.refl _ _) _)).trans o1)
  have H0 := Lib.hid h1
  clear h1 o1
  go_upto_region 2 with (fail)
  obtain ⟨wa, hwa⟩ : ∃ wa, wa = wn.alloc (.cells #[.int .i64 7, .int .i64 0, .int .i64 0, .int .u64 0, .int .u64 0, .int .i64 0, .int .u64 0, .int .u64 0, .int .u64 0, .slice none 0 0] 29 (0, 0)) := ⟨_, rfl⟩
  obtain ⟨g3, hg3⟩ : ∃ g, g = wn.heap.size := ⟨_, rfl⟩
  obtain ⟨g2, hg2⟩ : ∃ g, g = W.heap.size := ⟨_, rfl⟩
  have hb2 : wa.heap[g2]? = some (.cells #[.int .i64 0, .int .i64 0, .int .i64 0, .int .u64 0, .int .u64 0, .int .i64 0, .int .u64 0, .int .u64 0, .int .u64 0, .slice none 0 0] 29 (0, 0)) := by rw [hwa, hg2]; exact blk_alloc hz _
  have hb3 : wa.heap[g3]? = some (.cells #[.int .i64 7, .int .i64 0, .int .i64 0, .int .u64 0, .int .u64 0, .int .i64 0, .int .u64 0, .int .u64 0, .int .u64 0, .slice none 0 0] 29 (0, 0)) := by rw [hwa, hg3]; exact blk_new _ _
  have HA : Hid (Rf w0 wa rb s1) := by rw [hwa]; exact H0.out.below (below_alloc (Below.refl _ _) _)
  have OA : Hid (Only W wa rb) := by rw [hwa]; exact O0.out.below (below_alloc (Below.refl _ _) _)
  have hltn := H0.out.lt
  have hn2 : g2 ≠ rb := by omega
  have hn3 : g3 ≠ rb := by omega
  have h23 : g2 ≠ g3 := by have := blk_lt hz; omega
  have hl2 : w0.heap.size ≤ g2 := by omega
  have hw2 : W.heap.size ≤ g2 := by omega
  have hw3 : W.heap.size ≤ g3 := by have := O0.out.1; omega
  have hl3 : w0.heap.size ≤ g3 := by omega
  rw [← hwa, ← hg2, ← hg3]
  have HB2 := Lib.hid hb2
  have HB3 := Lib.hid hb3
  clear hwa hg2 hg3 hb2 hb3 H H0 O0 hz hsz hltn
  have a0 := blk_cell HB3.out 0
  have a1 := blk_cell HB3.out 1
  have a2 := blk_cell HB3.out 2
  have a3 := blk_cell HB3.out 3
  have a4 := blk_cell HB3.out 4
  have a5 := blk_cell HB3.out 5
  have a6 := blk_cell HB3.out 6
  have a7 := blk_cell HB3.out 7
  have a8 := blk_cell HB3.out 8
  have a9 := blk_cell HB3.out 9
  simp only [List.getElem?_toArray, List.getElem?_cons_zero, List.getElem?_cons_succ] at a0 a1 a2 a3 a4 a5 a6 a7 a8 a9
  have b0 := blk_cell HB2.out 0
  have b1 := blk_cell HB2.out 1
  have b2 := blk_cell HB2.out 2
  have b3 := blk_cell HB2.out 3
  have b4 := blk_cell HB2.out 4
  have b5 := blk_cell HB2.out 5
  have b6 := blk_cell HB2.out 6
  have b7 := blk_cell HB2.out 7
  have b8 := blk_cell HB2.out 8
  have b9 := blk_cell HB2.out 9
  simp only [List.getElem?_toArray, List.getElem?_cons_zero, List.getElem?_cons_succ] at b0 b1 b2 b3 b4 b5 b6 b7 b8 b9
  have f3 := fun i => blk_frozen HB3.out i
  have f2 := fun i => blk_frozen HB2.out i
  go_wp2_with fail
  have hr := gv_range 1 s1 BS1.out
  have hwn := wrap_gv 1 s1 BS1.out (by omega)
  refine (fnum_st w0 _ rb 1 s1 HA.out (by omega)).mono ?_
  rintro e w1 ⟨rfl, h1, o1⟩
  have hc2 := o1.2 g2 _ HB2.out hn2
  have hc3 := o1.2 g3 _ HB3.out hn3
  clear a0 a1 a2 a3 a4 a5 a6 a7 a8 a9 b0 b1 b2 b3 b4 b5 b6 b7 b8 b9 f3 f2
  obtain ⟨n, hn⟩ : ∃ n, n = gv 1 s1 := ⟨_, rfl⟩
  rw [← hn] at hwn hr ⊢
  obtain ⟨hr0, _⟩ := hr
  have q0 := blk_cell hc3 0
  have q1 := blk_cell hc3 1
  have q2 := blk_cell hc3 2
  have q3 := blk_cell hc3 3
  have q4 := blk_cell hc3 4
  have q5 := blk_cell hc3 5
  have q6 := blk_cell hc3 6
  have q7 := blk_cell hc3 7
  have q8 := blk_cell hc3 8
  have q9 := blk_cell hc3 9
  simp only [List.getElem?_toArray, List.getElem?_cons_zero, List.getElem?_cons_succ] at q0 q1 q2 q3 q4 q5 q6 q7 q8 q9
  have t0 := blk_cell hc2 0
  have t1 := blk_cell hc2 1
  have t2 := blk_cell hc2 2
  have t3 := blk_cell hc2 3
  have t4 := blk_cell hc2 4
  have t5 := blk_cell hc2 5
  have t6 := blk_cell hc2 6
  have t7 := blk_cell hc2 7
  have t8 := blk_cell hc2 8
  have t9 := blk_cell hc2 9
  simp only [List.getElem?_toArray, List.getElem?_cons_zero, List.getElem?_cons_succ] at t0 t1 t2 t3 t4 t5 t6 t7 t8 t9
  have f3 := fun i => blk_frozen hc3 i
  have f2 := fun i => blk_frozen hc2 i
  have HD2 := Lib.hid hc2
  have HR1 := Lib.hid h1
  have HO1 := Lib.hid (OA.out.trans o1)
  clear hc2 hc3 h1 o1 hn
  go_wp2_with fail
  go_loopw [7] (fun vi wr => vi = .int .i64 0 ∧ wr = w1) (fun _ _ => 0)
  case atStart => exact ⟨rfl, rfl⟩
  case round =>
    obtain ⟨rfl, rfl⟩ := hrel
    by_cases hp : 0 < n
    · go_wp2
      (try simp only [Exit.inBlock, Exit.then])
      exact bodyPost_ret (v := .agg #[.int .i64 7, .int .i64 0, .int .i64 0, .int .u64 0, .int .u64 0, .int .i64 0, .int .u64 0, .int .u64 0, .int .u64 0, .slice none 0 0]) (results_one (fn := Try.f22) rfl _ _ g2 29 _ (0, 0) _ rfl (lay10_here HD2.out _ _ _ _ _ _ _ _ _ _) Try.underlying29 rfl (by kernel_rfl)) rfl ⟨rfl, Rf.lay HR1.out hn2 hl2 _ _ _ _ _ _ _ _ _ _, Only.lay HO1.out hw2 _ _ _ _ _ _ _ _ _ _⟩
    · go_wp2
      (try simp only [Exit.inBlock, Exit.then])
      exact bodyPost_ret (v := .agg #[.int .i64 7, .int .i64 0, .int .i64 0, .int .u64 0, .int .u64 0, .int .i64 0, .int .u64 0, .int .u64 0, .int .u64 0, .slice none 0 0]) (results_one (fn := Try.f22) rfl _ _ g2 29 _ (0, 0) _ rfl (lay10_here HD2.out _ _ _ _ _ _ _ _ _ _) Try.underlying29 rfl (by kernel_rfl)) rfl ⟨rfl, Rf.lay HR1.out hn2 hl2 _ _ _ _ _ _ _ _ _ _, Only.lay HO1.out hw2 _ _ _ _ _ _ _ _ _ _⟩
/-- What lies in a batch. -/
def fiV (s : St) : S29 := if gv 1 s = 7 then ⟨7, 0, 0, z26, z24, 0, []⟩ else fcV (gv 1 s) (fs 1 s)
def fiS (s : St) : St := if gv 1 s = 7 then fs 1 (fs 1 s) else fcS (gv 1 s) (fs 1 s)
theorem fitem_st (w0 W : World) (rb : Nat) (s : St) (h : Rf w0 W rb s) :
    Calls Try.prog 22 #[.pointer (some ⟨rb, 0, none⟩), .bool false] W fun e w' => e = .returned (.agg (cells29 (fiV s) (.slice none 0 0))) ∧ Rf w0 w' rb (fiS s) ∧ Only W w' rb := by
  unfold fiV fiS
  by_cases h7 : gv 1 s = 7
  · rw [if_pos h7, if_pos h7]
    exact fcmd7_no w0 W rb s h h7
  · rw [if_neg h7, if_neg h7]
    exact fcmd_st w0 W rb false s h h7
end Go.Proofs.Ytliighhedmfgjaa.Cmd
