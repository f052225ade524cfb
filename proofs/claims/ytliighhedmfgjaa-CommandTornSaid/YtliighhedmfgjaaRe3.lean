/- Package command's reader: an edit. -/
import Derived.Test.YtliighhedmfgjaaRe2
namespace Go.Proofs.Ytliighhedmfgjaa.Cmd
open Go.RowKit Go.Proofs.Ytliighhedmfgjaa.PRefC Go.Proofs.YtliighhedmfgjaaW.PrintWords Go.Proofs.YtliighhedmfgjaaW.PrintLast Go.Proofs.YtliighhedmfgjaaW.PrintMore

def pfx (s : St) : S26 := ⟨⟨gv 8 s, gv 8 (gs 8 s)⟩, gv 1 (ads s)⟩
def edV (kind : Int) (s : St) : S29 := if kind = 1 then ⟨1, gv 4 (ps s), 0, pfx s, z24, 0, []⟩ else if kind = 2 then ⟨2, 0, 0, pfx s, z24, 0, []⟩ else ⟨kind, 0, 0, z26, z24, 0, []⟩
def edS (kind : Int) (s : St) : St := if kind = 1 then ns 4 2147483647 (ps s) else if kind = 2 then ps s else (s.1, true)
def cells29 (x : S29) (v : Value) : Array Value := #[.int .i64 x.f0, .int .i64 x.f1, .int .i64 x.f2, .int .u64 x.f3.f0.f0, .int .u64 x.f3.f0.f1, .int .i64 x.f3.f1, .int .u64 x.f4.f0, .int .u64 x.f4.f1, .int .u64 x.f5, v]
theorem Rs.setBad {w0 W : World} {rb : Nat} {s : St} (h : Rs w0 W rb s) (b : Bool) : Rs w0 (W.setCell ⟨rb, 1, none⟩ (.bool b)) rb (s.1, b) := ⟨h.1.setBad b, h.2⟩
def lay10 (W : World) (g : Nat) (c0 c1 c2 c3 c4 c5 c6 c7 c8 c9 : Value) : World := ((((((((((W.setCell ⟨g, 0, none⟩ c0).setCell ⟨g, 1, none⟩ c1).setCell ⟨g, 2, none⟩ c2).setCell ⟨g, 3, none⟩ c3).setCell ⟨g, 4, none⟩ c4).setCell ⟨g, 5, none⟩ c5).setCell ⟨g, 6, none⟩ c6).setCell ⟨g, 7, none⟩ c7).setCell ⟨g, 8, none⟩ c8).setCell ⟨g, 9, none⟩ c9)
theorem lay10_here {W : World} {g : Nat} {a0 a1 a2 a3 a4 a5 a6 a7 a8 a9 : Value} (h : W.heap[g]? = some (.cells #[a0, a1, a2, a3, a4, a5, a6, a7, a8, a9] 29 (0, 0))) (c0 c1 c2 c3 c4 c5 c6 c7 c8 c9 : Value) : (lay10 W g c0 c1 c2 c3 c4 c5 c6 c7 c8 c9).heap[g]? = some (.cells #[c0, c1, c2, c3, c4, c5, c6, c7, c8, c9] 29 (0, 0)) := by
  have e0 := blk_set h 0 c0
  simp only [List.setIfInBounds_toArray, List.set_cons_zero, List.set_cons_succ] at e0
  have e1 := blk_set e0 1 c1
  simp only [List.setIfInBounds_toArray, List.set_cons_zero, List.set_cons_succ] at e1
  have e2 := blk_set e1 2 c2
  simp only [List.setIfInBounds_toArray, List.set_cons_zero, List.set_cons_succ] at e2
  have e3 := blk_set e2 3 c3
  simp only [List.setIfInBounds_toArray, List.set_cons_zero, List.set_cons_succ] at e3
  have e4 := blk_set e3 4 c4
  simp only [List.setIfInBounds_toArray, List.set_cons_zero, List.set_cons_succ] at e4
  have e5 := blk_set e4 5 c5
  simp only [List.setIfInBounds_toArray, List.set_cons_zero, List.set_cons_succ] at e5
  have e6 := blk_set e5 6 c6
  simp only [List.setIfInBounds_toArray, List.set_cons_zero, List.set_cons_succ] at e6
  have e7 := blk_set e6 7 c7
  simp only [List.setIfInBounds_toArray, List.set_cons_zero, List.set_cons_succ] at e7
  have e8 := blk_set e7 8 c8
  simp only [List.setIfInBounds_toArray, List.set_cons_zero, List.set_cons_succ] at e8
  have e9 := blk_set e8 9 c9
  simp only [List.setIfInBounds_toArray, List.set_cons_zero, List.set_cons_succ] at e9
  exact e9
theorem Rs.lay {w0 W : World} {rb g : Nat} {s : St} (h : Rs w0 W rb s) (hg : g ≠ rb) (hle : w0.heap.size ≤ g) (c0 c1 c2 c3 c4 c5 c6 c7 c8 c9 : Value) : Rs w0 (lay10 W g c0 c1 c2 c3 c4 c5 c6 c7 c8 c9) rb s :=
  (((((((((h.other hg hle 0 _).other hg hle 1 _).other hg hle 2 _).other hg hle 3 _).other hg hle 4 _).other hg hle 5 _).other hg hle 6 _).other hg hle 7 _).other hg hle 8 _).other hg hle 9 _
theorem Only.lay {W W1 : World} {rb g : Nat} (h : Only W W1 rb) (hg : W.heap.size ≤ g) (c0 c1 c2 c3 c4 c5 c6 c7 c8 c9 : Value) : Only W (lay10 W1 g c0 c1 c2 c3 c4 c5 c6 c7 c8 c9) rb :=
  (((((((((h.new hg 0 _).new hg 1 _).new hg 2 _).new hg 3 _).new hg 4 _).new hg 5 _).new hg 6 _).new hg 7 _).new hg 8 _).new hg 9 _

set_option maxRecDepth 20000 in
set_option maxHeartbeats 4000000 in
theorem edit_st (w0 W : World) (rb : Nat) (kind : Int) (s : St) (h : Rs w0 W rb s) :
    Calls Try.prog 31 #[.pointer (some ⟨rb, 0, none⟩), .int .i64 kind] W fun e w' => e = .returned (.agg (cells29 (edV kind s) (.slice none 0 0))) ∧ Rs w0 w' rb (edS kind s) ∧ Only W w' rb := by
  have hlt := h.1.lt
  have hle0 : w0.heap.size ≤ W.heap.size := h.1.bel.size
  have H := Lib.hid h
  clear h
  by_cases e1 : kind = 1
  · subst e1
    have r1 : edV 1 s = ⟨1, gv 4 (ps s), 0, pfx s, z24, 0, []⟩ := rfl
    have r2 : edS 1 s = ns 4 2147483647 (ps s) := rfl
    rw [r1, r2]
    go_enter Try.func31, Try.ntmps31
    go_wp2_with fail
    obtain ⟨g4, hg4⟩ : ∃ g, g = W.heap.size := ⟨_, rfl⟩
    obtain ⟨wa, hwa⟩ : ∃ wa, wa = (W.alloc (.cells #[.int .i64 0, .int .i64 0, .int .i64 0, .int .u64 0, .int .u64 0, .int .i64 0, .int .u64 0, .int .u64 0, .int .u64 0, .slice none 0 0] 29 (0, 0))).alloc (.cells #[.int .i64 1, .int .i64 0, .int .i64 0, .int .u64 0, .int .u64 0, .int .i64 0, .int .u64 0, .int .u64 0, .int .u64 0, .slice none 0 0] 29 (0, 0)) := ⟨_, rfl⟩
    have hb4 : wa.heap[g4]? = some (.cells #[.int .i64 0, .int .i64 0, .int .i64 0, .int .u64 0, .int .u64 0, .int .i64 0, .int .u64 0, .int .u64 0, .int .u64 0, .slice none 0 0] 29 (0, 0)) := by rw [hwa, hg4]; exact blk_alloc (blk_new _ _) _
    have hb5 : wa.heap[g4 + 1]? = some (.cells #[.int .i64 1, .int .i64 0, .int .i64 0, .int .u64 0, .int .u64 0, .int .i64 0, .int .u64 0, .int .u64 0, .int .u64 0, .slice none 0 0] 29 (0, 0)) := by
      have e : (W.alloc (.cells #[.int .i64 0, .int .i64 0, .int .i64 0, .int .u64 0, .int .u64 0, .int .i64 0, .int .u64 0, .int .u64 0, .int .u64 0, .slice none 0 0] 29 (0, 0))).heap.size = W.heap.size + 1 := by simp
      rw [hwa, hg4, ← e]; exact blk_new _ _
    have HA : Hid (Rs w0 wa rb s) := by rw [hwa]; exact H.out.below (by repeat (first | exact Below.refl _ _ | apply below_alloc))
    have OA : Hid (Only W wa rb) := by rw [hwa]; exact (Only.refl _ _).below (by repeat (first | exact Below.refl _ _ | apply below_alloc))
    have hn4 : g4 ≠ rb := by omega
    have hn5 : g4 + 1 ≠ rb := by omega
    have hl4 : w0.heap.size ≤ g4 := by omega
    have hl5 : w0.heap.size ≤ g4 + 1 := by omega
    have hw4 : W.heap.size ≤ g4 := by omega
    have hw5 : W.heap.size ≤ g4 + 1 := by omega
    rw [← hwa, ← hg4]
    have HB4 := Lib.hid hb4
    have HB5 := Lib.hid hb5
    clear hwa hg4 hb4 hb5 H
    refine (prefix_st w0 _ rb s HA.out).mono ?_
    rintro e w1 ⟨rfl, h1, o1⟩
    have hc4 := o1.2 g4 _ HB4.out hn4
    have hc5 := o1.2 (g4 + 1) _ HB5.out hn5
    have q0 := blk_cell hc5 0
    have q1 := blk_cell hc5 1
    have q2 := blk_cell hc5 2
    have q3 := blk_cell hc5 3
    have q4 := blk_cell hc5 4
    have q5 := blk_cell hc5 5
    have q6 := blk_cell hc5 6
    have q7 := blk_cell hc5 7
    have q8 := blk_cell hc5 8
    have q9 := blk_cell hc5 9
    simp only [List.getElem?_toArray, List.getElem?_cons_zero, List.getElem?_cons_succ] at q0 q1 q2 q3 q4 q5 q6 q7 q8 q9
    have f5 := fun i => blk_frozen hc5 i
    have hd5 := blk_set (blk_set (blk_set hc5 3 (.int .u64 (gv 8 s))) 4 (.int .u64 (gv 8 (gs 8 s)))) 5 (.int .i64 (gv 1 (ads s)))
    simp only [List.setIfInBounds_toArray, List.set_cons_zero, List.set_cons_succ] at hd5
    have hd4 := (Below.heap_setCell _ ⟨g4 + 1, 5, none⟩ (.int .i64 (gv 1 (ads s))) g4 (by show g4 ≠ g4 + 1; omega)).trans ((Below.heap_setCell _ ⟨g4 + 1, 4, none⟩ (.int .u64 (gv 8 (gs 8 s))) g4 (by show g4 ≠ g4 + 1; omega)).trans ((Below.heap_setCell w1 ⟨g4 + 1, 3, none⟩ (.int .u64 (gv 8 s)) g4 (by show g4 ≠ g4 + 1; omega)).trans hc4))
    have HD5 := Lib.hid hd5
    have HD4 := Lib.hid hd4
    have H1 := Lib.hid (((h1.other hn5 hl5 3 (.int .u64 (gv 8 s))).other hn5 hl5 4 (.int .u64 (gv 8 (gs 8 s)))).other hn5 hl5 5 (.int .i64 (gv 1 (ads s))))
    have O1 := Lib.hid ((((OA.out.trans o1).new hw5 3 (.int .u64 (gv 8 s))).new hw5 4 (.int .u64 (gv 8 (gs 8 s)))).new hw5 5 (.int .i64 (gv 1 (ads s))))
    clear hc4 hc5 hd5 hd4 h1 o1
    go_wp2_with fail
    refine (number_st w0 _ rb 4 2147483647 (ps s) H1.out (by omega)).mono ?_
    rintro e w2 ⟨rfl, h2, o2⟩
    have hc4 := o2.2 g4 _ HD4.out hn4
    have hc5 := o2.2 (g4 + 1) _ HD5.out hn5
    clear q0 q1 q2 q3 q4 q5 q6 q7 q8 q9 f5
    have r0 := blk_cell hc5 0
    have r1 := blk_cell hc5 1
    have r2 := blk_cell hc5 2
    have r3 := blk_cell hc5 3
    have r4 := blk_cell hc5 4
    have r5 := blk_cell hc5 5
    have r6 := blk_cell hc5 6
    have r7 := blk_cell hc5 7
    have r8 := blk_cell hc5 8
    have r9 := blk_cell hc5 9
    simp only [List.getElem?_toArray, List.getElem?_cons_zero, List.getElem?_cons_succ] at r0 r1 r2 r3 r4 r5 r6 r7 r8 r9
    have t0 := blk_cell hc4 0
    have t1 := blk_cell hc4 1
    have t2 := blk_cell hc4 2
    have t3 := blk_cell hc4 3
    have t4 := blk_cell hc4 4
    have t5 := blk_cell hc4 5
    have t6 := blk_cell hc4 6
    have t7 := blk_cell hc4 7
    have t8 := blk_cell hc4 8
    have t9 := blk_cell hc4 9
    simp only [List.getElem?_toArray, List.getElem?_cons_zero, List.getElem?_cons_succ] at t0 t1 t2 t3 t4 t5 t6 t7 t8 t9
    have f5 := fun i => blk_frozen hc5 i
    have f4 := fun i => blk_frozen hc4 i
    have HC4 := Lib.hid ((Below.heap_setCell w2 ⟨g4 + 1, 1, none⟩ (.int .i64 (gv 4 (ps s))) g4 (by show g4 ≠ g4 + 1; omega)).trans hc4)
    have H2 := Lib.hid (h2.other hn5 hl5 1 (.int .i64 (gv 4 (ps s))))
    have O2 := Lib.hid ((O1.out.trans o2).new hw5 1 (.int .i64 (gv 4 (ps s))))
    clear hc4 hc5 h2 o2
    go_wp2
    (try simp only [Exit.inBlock, Exit.then])
    exact bodyPost_ret (v := .agg #[.int .i64 1, .int .i64 (gv 4 (ps s)), .int .i64 0, .int .u64 (gv 8 s), .int .u64 (gv 8 (gs 8 s)), .int .i64 (gv 1 (ads s)), .int .u64 0, .int .u64 0, .int .u64 0, .slice none 0 0]) (results_one (fn := Try.f31) rfl _ _ g4 29 _ (0, 0) _ rfl (lay10_here HC4.out _ _ _ _ _ _ _ _ _ _) Try.underlying29 rfl (by kernel_rfl)) rfl ⟨rfl, Rs.lay H2.out hn4 hl4 _ _ _ _ _ _ _ _ _ _, Only.lay O2.out hw4 _ _ _ _ _ _ _ _ _ _⟩
  · by_cases e2 : kind = 2
    · subst e2
      have r1 : edV 2 s = ⟨2, 0, 0, pfx s, z24, 0, []⟩ := rfl
      have r2 : edS 2 s = ps s := rfl
      rw [r1, r2]
      go_enter Try.func31, Try.ntmps31
      go_wp2_with fail
      obtain ⟨g4, hg4⟩ : ∃ g, g = W.heap.size := ⟨_, rfl⟩
      obtain ⟨wa, hwa⟩ : ∃ wa, wa = (W.alloc (.cells #[.int .i64 0, .int .i64 0, .int .i64 0, .int .u64 0, .int .u64 0, .int .i64 0, .int .u64 0, .int .u64 0, .int .u64 0, .slice none 0 0] 29 (0, 0))).alloc (.cells #[.int .i64 2, .int .i64 0, .int .i64 0, .int .u64 0, .int .u64 0, .int .i64 0, .int .u64 0, .int .u64 0, .int .u64 0, .slice none 0 0] 29 (0, 0)) := ⟨_, rfl⟩
      have hb4 : wa.heap[g4]? = some (.cells #[.int .i64 0, .int .i64 0, .int .i64 0, .int .u64 0, .int .u64 0, .int .i64 0, .int .u64 0, .int .u64 0, .int .u64 0, .slice none 0 0] 29 (0, 0)) := by rw [hwa, hg4]; exact blk_alloc (blk_new _ _) _
      have hb5 : wa.heap[g4 + 1]? = some (.cells #[.int .i64 2, .int .i64 0, .int .i64 0, .int .u64 0, .int .u64 0, .int .i64 0, .int .u64 0, .int .u64 0, .int .u64 0, .slice none 0 0] 29 (0, 0)) := by
        have e : (W.alloc (.cells #[.int .i64 0, .int .i64 0, .int .i64 0, .int .u64 0, .int .u64 0, .int .i64 0, .int .u64 0, .int .u64 0, .int .u64 0, .slice none 0 0] 29 (0, 0))).heap.size = W.heap.size + 1 := by simp
        rw [hwa, hg4, ← e]; exact blk_new _ _
      have HA : Hid (Rs w0 wa rb s) := by rw [hwa]; exact H.out.below (by repeat (first | exact Below.refl _ _ | apply below_alloc))
      have OA : Hid (Only W wa rb) := by rw [hwa]; exact (Only.refl _ _).below (by repeat (first | exact Below.refl _ _ | apply below_alloc))
      have hn4 : g4 ≠ rb := by omega
      have hn5 : g4 + 1 ≠ rb := by omega
      have hl4 : w0.heap.size ≤ g4 := by omega
      have hl5 : w0.heap.size ≤ g4 + 1 := by omega
      have hw4 : W.heap.size ≤ g4 := by omega
      have hw5 : W.heap.size ≤ g4 + 1 := by omega
      rw [← hwa, ← hg4]
      have HB4 := Lib.hid hb4
      have HB5 := Lib.hid hb5
      clear hwa hg4 hb4 hb5 H
      refine (prefix_st w0 _ rb s HA.out).mono ?_
      rintro e w1 ⟨rfl, h1, o1⟩
      have hc4 := o1.2 g4 _ HB4.out hn4
      have hc5 := o1.2 (g4 + 1) _ HB5.out hn5
      have q0 := blk_cell hc5 0
      have q1 := blk_cell hc5 1
      have q2 := blk_cell hc5 2
      have q3 := blk_cell hc5 3
      have q4 := blk_cell hc5 4
      have q5 := blk_cell hc5 5
      have q6 := blk_cell hc5 6
      have q7 := blk_cell hc5 7
      have q8 := blk_cell hc5 8
      have q9 := blk_cell hc5 9
      simp only [List.getElem?_toArray, List.getElem?_cons_zero, List.getElem?_cons_succ] at q0 q1 q2 q3 q4 q5 q6 q7 q8 q9
      have t0 := blk_cell hc4 0
      have t1 := blk_cell hc4 1
      have t2 := blk_cell hc4 2
      have t3 := blk_cell hc4 3
      have t4 := blk_cell hc4 4
      have t5 := blk_cell hc4 5
      have t6 := blk_cell hc4 6
      have t7 := blk_cell hc4 7
      have t8 := blk_cell hc4 8
      have t9 := blk_cell hc4 9
      simp only [List.getElem?_toArray, List.getElem?_cons_zero, List.getElem?_cons_succ] at t0 t1 t2 t3 t4 t5 t6 t7 t8 t9
      have f5 := fun i => blk_frozen hc5 i
      have f4 := fun i => blk_frozen hc4 i
      have hd4 := (Below.heap_setCell _ ⟨g4 + 1, 5, none⟩ (.int .i64 (gv 1 (ads s))) g4 (by show g4 ≠ g4 + 1; omega)).trans ((Below.heap_setCell _ ⟨g4 + 1, 4, none⟩ (.int .u64 (gv 8 (gs 8 s))) g4 (by show g4 ≠ g4 + 1; omega)).trans ((Below.heap_setCell w1 ⟨g4 + 1, 3, none⟩ (.int .u64 (gv 8 s)) g4 (by show g4 ≠ g4 + 1; omega)).trans hc4))
      have HD4 := Lib.hid hd4
      have H1 := Lib.hid (((h1.other hn5 hl5 3 (.int .u64 (gv 8 s))).other hn5 hl5 4 (.int .u64 (gv 8 (gs 8 s)))).other hn5 hl5 5 (.int .i64 (gv 1 (ads s))))
      have O1 := Lib.hid ((((OA.out.trans o1).new hw5 3 (.int .u64 (gv 8 s))).new hw5 4 (.int .u64 (gv 8 (gs 8 s)))).new hw5 5 (.int .i64 (gv 1 (ads s))))
      clear hc4 hc5 hd4 h1 o1
      go_wp2
      (try simp only [Exit.inBlock, Exit.then])
      exact bodyPost_ret (v := .agg #[.int .i64 2, .int .i64 0, .int .i64 0, .int .u64 (gv 8 s), .int .u64 (gv 8 (gs 8 s)), .int .i64 (gv 1 (ads s)), .int .u64 0, .int .u64 0, .int .u64 0, .slice none 0 0]) (results_one (fn := Try.f31) rfl _ _ g4 29 _ (0, 0) _ rfl (lay10_here HD4.out _ _ _ _ _ _ _ _ _ _) Try.underlying29 rfl (by kernel_rfl)) rfl ⟨rfl, Rs.lay H1.out hn4 hl4 _ _ _ _ _ _ _ _ _ _, Only.lay O1.out hw4 _ _ _ _ _ _ _ _ _ _⟩
    · have r1 : edV kind s = ⟨kind, 0, 0, z26, z24, 0, []⟩ := by unfold edV; rw [if_neg e1, if_neg e2]
      have r2 : edS kind s = (s.1, true) := by unfold edS; rw [if_neg e1, if_neg e2]
      rw [r1, r2]
      have d1 : (kind == 1) = false := beq_eq_false_iff_ne.mpr e1
      have d2 : (kind == 2) = false := beq_eq_false_iff_ne.mpr e2
      clear r1 r2
      go_enter Try.func31, Try.ntmps31
      go_upto_region 2 with (fail)
      obtain ⟨g4, hg4⟩ : ∃ g, g = W.heap.size := ⟨_, rfl⟩
      obtain ⟨wa, hwa⟩ : ∃ wa, wa = (W.alloc (.cells #[.int .i64 0, .int .i64 0, .int .i64 0, .int .u64 0, .int .u64 0, .int .i64 0, .int .u64 0, .int .u64 0, .int .u64 0, .slice none 0 0] 29 (0, 0))).alloc (.cells #[.int .i64 kind, .int .i64 0, .int .i64 0, .int .u64 0, .int .u64 0, .int .i64 0, .int .u64 0, .int .u64 0, .int .u64 0, .slice none 0 0] 29 (0, 0)) := ⟨_, rfl⟩
      have hb4 : wa.heap[g4]? = some (.cells #[.int .i64 0, .int .i64 0, .int .i64 0, .int .u64 0, .int .u64 0, .int .i64 0, .int .u64 0, .int .u64 0, .int .u64 0, .slice none 0 0] 29 (0, 0)) := by rw [hwa, hg4]; exact blk_alloc (blk_new _ _) _
      have hb5 : wa.heap[g4 + 1]? = some (.cells #[.int .i64 kind, .int .i64 0, .int .i64 0, .int .u64 0, .int .u64 0, .int .i64 0, .int .u64 0, .int .u64 0, .int .u64 0, .slice none 0 0] 29 (0, 0)) := by
        have e : (W.alloc (.cells #[.int .i64 0, .int .i64 0, .int .i64 0, .int .u64 0, .int .u64 0, .int .i64 0, .int .u64 0, .int .u64 0, .int .u64 0, .slice none 0 0] 29 (0, 0))).heap.size = W.heap.size + 1 := by simp
        rw [hwa, hg4, ← e]; exact blk_new _ _
      have HA : Hid (Rs w0 wa rb s) := by rw [hwa]; exact H.out.below (by repeat (first | exact Below.refl _ _ | apply below_alloc))
      have OA : Hid (Only W wa rb) := by rw [hwa]; exact (Only.refl _ _).below (by repeat (first | exact Below.refl _ _ | apply below_alloc))
      have hn4 : g4 ≠ rb := by omega
      have hn5 : g4 + 1 ≠ rb := by omega
      have hl4 : w0.heap.size ≤ g4 := by omega
      have hl5 : w0.heap.size ≤ g4 + 1 := by omega
      have hw4 : W.heap.size ≤ g4 := by omega
      have hw5 : W.heap.size ≤ g4 + 1 := by omega
      rw [← hwa, ← hg4]
      have HB4 := Lib.hid hb4
      have HB5 := Lib.hid hb5
      clear hwa hg4 hb4 hb5 H
      obtain ⟨A, c, hbr, _⟩ := HA.out.1.is
      have p1 := blk_cell hbr 1
      have pf := blk_frozen hbr 1
      simp only [List.getElem?_toArray, List.getElem?_cons_zero, List.getElem?_cons_succ] at p1
      have q0 := blk_cell HB5.out 0
      have q1 := blk_cell HB5.out 1
      have q2 := blk_cell HB5.out 2
      have q3 := blk_cell HB5.out 3
      have q4 := blk_cell HB5.out 4
      have q5 := blk_cell HB5.out 5
      have q6 := blk_cell HB5.out 6
      have q7 := blk_cell HB5.out 7
      have q8 := blk_cell HB5.out 8
      have q9 := blk_cell HB5.out 9
      simp only [List.getElem?_toArray, List.getElem?_cons_zero, List.getElem?_cons_succ] at q0 q1 q2 q3 q4 q5 q6 q7 q8 q9
      have t0 := blk_cell HB4.out 0
      have t1 := blk_cell HB4.out 1
      have t2 := blk_cell HB4.out 2
      have t3 := blk_cell HB4.out 3
      have t4 := blk_cell HB4.out 4
      have t5 := blk_cell HB4.out 5
      have t6 := blk_cell HB4.out 6
      have t7 := blk_cell HB4.out 7
      have t8 := blk_cell HB4.out 8
      have t9 := blk_cell HB4.out 9
      simp only [List.getElem?_toArray, List.getElem?_cons_zero, List.getElem?_cons_succ] at t0 t1 t2 t3 t4 t5 t6 t7 t8 t9
      have f5 := fun i => blk_frozen HB5.out i
      have f4 := fun i => blk_frozen HB4.out i
      have hd4 := (Below.heap_setCell wa ⟨rb, 1, none⟩ (.bool true) g4 hn4).trans HB4.out
      have HD4 := Lib.hid hd4
      have H1 := Lib.hid (HA.out.setBad true)
      have O1 := Lib.hid (OA.out.set 1 (.bool true))
      clear hbr hd4
      go_wp2
      (try simp only [Exit.inBlock, Exit.then])
      exact bodyPost_ret (v := .agg #[.int .i64 kind, .int .i64 0, .int .i64 0, .int .u64 0, .int .u64 0, .int .i64 0, .int .u64 0, .int .u64 0, .int .u64 0, .slice none 0 0]) (results_one (fn := Try.f31) rfl _ _ g4 29 _ (0, 0) _ rfl (lay10_here HD4.out _ _ _ _ _ _ _ _ _ _) Try.underlying29 rfl (by kernel_rfl)) rfl ⟨rfl, Rs.lay H1.out hn4 hl4 _ _ _ _ _ _ _ _ _ _, Only.lay O1.out hw4 _ _ _ _ _ _ _ _ _ _⟩
end Go.Proofs.Ytliighhedmfgjaa.Cmd
