/- Package command's reader: a command. -/
import Derived.Test.YtliighhedmfgjaaRe3
namespace Go.Proofs.Ytliighhedmfgjaa.Cmd
open Go.RowKit Go.Proofs.Ytliighhedmfgjaa.PRefC Go.Proofs.YtliighhedmfgjaaW.PrintWords Go.Proofs.YtliighhedmfgjaaW.PrintLast Go.Proofs.YtliighhedmfgjaaW.PrintMore

/-- The edits of a batch: at most n. -/
def btL : Nat → St → List S29 × St
  | 0, s => ([], s)
  | n + 1, s => if s.2 = true then ([], s) else (edV (gv 1 s) (ns 1 255 s) :: (btL n (edS (gv 1 s) (ns 1 255 s))).1, (btL n (edS (gv 1 s) (ns 1 255 s))).2)
def cmVk (k : Int) (s : St) : S29 :=
  if k = 3 then ⟨3, 0, 0, z26, ⟨gv 8 s, gv 8 (gs 8 s)⟩, 0, []⟩ else if k = 4 then ⟨4, 0, gv 4 s, z26, z24, 0, []⟩ else if k = 6 then ⟨6, 0, gv 4 (gs 8 s), z26, z24, gv 8 s, []⟩ else
    if k = 7 then ⟨7, 0, 0, z26, z24, 0, (btL (gv 1 s).toNat (ns 1 20 s)).1⟩ else if k = 5 then ⟨5, 0, 0, z26, z24, 0, []⟩ else if k = 8 then ⟨8, 0, 0, z26, z24, 0, []⟩ else edV k s
def cmSk (k : Int) (s : St) : St :=
  if k = 3 then ads s else if k = 4 then ns 4 2147483647 s else if k = 6 then ns 4 2147483647 (gs 8 s) else if k = 7 then (btL (gv 1 s).toNat (ns 1 20 s)).2 else if k = 5 then s else if k = 8 then s else edS k s
def cmV (s : St) : S29 := cmVk (gv 1 s) (ns 1 255 s)
def cmS (s : St) : St := cmSk (gv 1 s) (ns 1 255 s)

theorem R_only {W W1 : World} {B rb : Nat} {ok : Nat → Prop} {v : Value} {xs : List S29} {w0 : World} {s : St} (h : k29.R 29 W B ok v xs) (hr : Rs w0 W rb s) (o : Only W W1 rb) : k29.R 29 W1 B ok v xs := by
  obtain ⟨A, c, hb, _⟩ := hr.1.is
  have h1 := Kd.R_types h hb (by decide)
  refine Kd.R_mono (Kd.R_step h1 fun k hk hlt => ?_) (fun _ hk => hk.1)
  have he : W.heap[k]? = some W.heap[k] := Array.getElem?_eq_getElem hlt
  exact (o.2 k _ he hk.2).trans he.symm
theorem R_lit29 (W : World) (base g : Nat) (x : S29) (hx : x.f6 = []) (hb : base ≤ W.heap.size) (hg : g = W.heap.size) : k29.C (W.alloc (.cells (cells29 x (.slice none 0 0)) 29 (0, 0))) (some ⟨g, 0, none⟩) 1 [x] := by
  subst hg
  have hM : k29.M (W.alloc (.cells (cells29 x (.slice none 0 0)) 29 (0, 0))) base (fun j => True ∧ some j ≠ (Value.slice (some ⟨W.heap.size, 0, none⟩) 1 1).ownBlock) x (cells29 x (.slice none 0 0)).toList :=
    k29_mkM _ _ _ x (by rw [hx]; exact Kd.R_nil _ _ _ _ _)
  have hR : k29.R 29 (W.alloc (.cells (cells29 x (.slice none 0 0)) 29 (0, 0))) base (fun _ => True) (.slice (some ⟨W.heap.size, 0, none⟩) 1 1) [x] :=
    ⟨fun _ _ => trivial, OwnRow.lit (R := k29.M (W.alloc (.cells (cells29 x (.slice none 0 0)) 29 (0, 0))) base (fun j => True ∧ some j ≠ (Value.slice (some ⟨W.heap.size, 0, none⟩) 1 1).ownBlock)) (ps := [x]) W base (inner := (cells29 x (.slice none 0 0)).toList) (Reps.front (p := x) hM rfl (Reps.none _ _) (List.append_nil _)) hb (by show 1 ≤ 9223372036854775807; decide)⟩
  exact (Kd.R_reads' hR).2.2
theorem ns_byte {k : Nat} {m : Int} {s : St} (h : ∀ x ∈ s.1, 0 ≤ x ∧ x < 256) : ∀ x ∈ (ns k m s).1, 0 ≤ x ∧ x < 256 := by
  show ∀ x ∈ getR k s.1 s.2, _
  unfold getR
  split
  · exact fun x hx => by cases hx
  · exact fun x hx => h x (List.mem_of_mem_drop hx)
theorem lit_reads (W : World) (base g : Nat) (x : S29) (hx : x.f6 = []) (hb : base ≤ W.heap.size) (hg : g = W.heap.size) : ReadsRow (k29.M (W.alloc (.cells (cells29 x (.slice none 0 0)) 29 (0, 0))) base (fun _ => False)) 10 (W.alloc (.cells (cells29 x (.slice none 0 0)) 29 (0, 0))) (some ⟨g, 0, none⟩) 1 [x] := by
  subst hg
  have hM : k29.M (W.alloc (.cells (cells29 x (.slice none 0 0)) 29 (0, 0))) base (fun _ => False) x (cells29 x (.slice none 0 0)).toList := k29_mkM _ _ _ x (by rw [hx]; exact Kd.R_nil _ _ _ _ _)
  have hO : OwnRow (k29.M (W.alloc (.cells (cells29 x (.slice none 0 0)) 29 (0, 0))) base (fun _ => False)) 29 10 (W.alloc (.cells (cells29 x (.slice none 0 0)) 29 (0, 0))) base (.slice (some ⟨W.heap.size, 0, none⟩) 1 1) [x] :=
    OwnRow.lit (ps := [x]) W base (inner := (cells29 x (.slice none 0 0)).toList) (Reps.front (p := x) hM rfl (Reps.none _ _) (List.append_nil _)) hb (by show 1 ≤ 9223372036854775807; decide)
  obtain ⟨A, c, he, _, hr⟩ := OwnRow.reads hO
  injection he with h1 _ _
  subst h1
  exact hr
theorem Only.grown {W W1 W2 : World} {rb B : Nat} {ok : Nat → Prop} {v : Value} {xs : List S29} (h : Only W W1 rb) (hR : k29.R 29 W1 B ok v xs) (hok : ∀ j, ok j → W.heap.size ≤ j) (hg : W1.grownBy W2 v.ownBlock) : Only W W2 rb :=
  ⟨Nat.le_trans h.1 hg.size, fun k o hk hr => blk_grown (h.2 k o hk hr) hg (fun e => by have := hok k (hR.1 k e.symm); have := blk_lt hk; omega)⟩
theorem Rs.grown {w0 W W1 : World} {rb B : Nat} {ok : Nat → Prop} {s : St} {v : Value} {xs : List S29} (h : Rs w0 W rb s) (hR : k29.R 29 W B ok v xs) (hg : W.grownBy W1 v.ownBlock) (hB : Below w0.heap.size w0 W1) : Rs w0 W1 rb s := by
  obtain ⟨⟨⟨A, c, h1, h2, h3⟩, h4, h5, h6⟩, h7⟩ := h
  exact ⟨⟨⟨A, c, blk_grown h1 hg (Kd.R_ne hR h1 (by decide)), h2, h3⟩, h4, hB, h6⟩, h7⟩
theorem bt_step {N i : Nat} {xs : List S29} {tl : List Int} {s2 : St} {x : S29} (hi : i < N) (h : (xs ++ (btL (N - i) (tl, false)).1, (btL (N - i) (tl, false)).2) = btL N s2) (hx : x = edV (gv 1 (tl, false)) (ns 1 255 (tl, false))) :
    ((xs ++ [x]) ++ (btL (N - (i + 1)) (edS (gv 1 (tl, false)) (ns 1 255 (tl, false)))).1, (btL (N - (i + 1)) (edS (gv 1 (tl, false)) (ns 1 255 (tl, false)))).2) = btL N s2 := by
  rw [← h, show N - i = N - (i + 1) + 1 by omega]
  simp only [btL]
  rw [if_neg (by simp), hx]
  simp
theorem lay10_far (W : World) {g k : Nat} (hk : k ≠ g) (c0 c1 c2 c3 c4 c5 c6 c7 c8 c9 : Value) : (lay10 W g c0 c1 c2 c3 c4 c5 c6 c7 c8 c9).heap[k]? = W.heap[k]? := by
  unfold lay10
  repeat (refine (Below.heap_setCell _ ⟨g, _, none⟩ _ k hk).trans ?_)
  rfl
theorem edV_f6 (k : Int) (s : St) : (edV k s).f6 = [] := by unfold edV; split <;> first | rfl | (split <;> rfl)
theorem info29 : (Try.prog.info? 29).map (fun i => (i.zero, i.size, i.bytes)) = some (some (.agg (cells29 z29 (.slice none 0 0))), 10, 96) := by kernel_rfl

set_option maxRecDepth 20000 in
set_option maxHeartbeats 4000000 in
theorem command_st (w0 W : World) (rb : Nat) (s : St) (h : Rs w0 W rb s) :
    Calls Try.prog 21 #[.pointer (some ⟨rb, 0, none⟩)] W fun e w' => ∃ v, e = .returned (.agg (cells29 (cmV s) v)) ∧ k29.R 29 w' w0.heap.size (fun j => W.heap.size ≤ j) v (cmV s).f6 ∧ Rs w0 w' rb (cmS s) ∧ Only W w' rb := by
  have hlt := h.1.lt
  have hle0 : w0.heap.size ≤ W.heap.size := h.1.bel.size
  have H := Lib.hid h
  clear h
  unfold cmV cmS
  obtain ⟨k, hk⟩ : ∃ k, gv 1 s = k := ⟨_, rfl⟩
  obtain ⟨s1, hs1⟩ : ∃ s1, s1 = ns 1 255 s := ⟨_, rfl⟩
  rw [hk, ← hs1]
  have HK := Lib.hid hk
  have HS1 := Lib.hid hs1
  clear hk hs1
  by_cases e3 : k = 3
  · subst e3
    go_enter Try.func21, Try.ntmps21
    go_wp2_with fail
    refine (number_st w0 _ rb 1 255 s (H.out.below (below_alloc (Below.refl _ _) _)) (by omega)).mono ?_
    rintro e wn ⟨rfl, h1, o1⟩
    rw [HK.out]
    rw [← HS1.out] at h1
    have hz := o1.2 W.heap.size _ (blk_new _ _) (by omega)
    have hsz := o1.1
    have O0 := Lib.hid (((Only.refl W rb).below (below_alloc (Below.refl _ _) _)).trans o1)
    have H0 := Lib.hid h1
    clear h1 o1
    go_wp2_with fail
    obtain ⟨wa, hwa⟩ : ∃ wa, wa = wn.alloc (.cells #[.int .i64 3, .int .i64 0, .int .i64 0, .int .u64 0, .int .u64 0, .int .i64 0, .int .u64 0, .int .u64 0, .int .u64 0, .slice none 0 0] 29 (0, 0)) := ⟨_, rfl⟩
    obtain ⟨g3, hg3⟩ : ∃ g, g = wn.heap.size := ⟨_, rfl⟩
    obtain ⟨g2, hg2⟩ : ∃ g, g = W.heap.size := ⟨_, rfl⟩
    have hb2 : wa.heap[g2]? = some (.cells #[.int .i64 0, .int .i64 0, .int .i64 0, .int .u64 0, .int .u64 0, .int .i64 0, .int .u64 0, .int .u64 0, .int .u64 0, .slice none 0 0] 29 (0, 0)) := by rw [hwa, hg2]; exact blk_alloc hz _
    have hb3 : wa.heap[g3]? = some (.cells #[.int .i64 3, .int .i64 0, .int .i64 0, .int .u64 0, .int .u64 0, .int .i64 0, .int .u64 0, .int .u64 0, .int .u64 0, .slice none 0 0] 29 (0, 0)) := by rw [hwa, hg3]; exact blk_new _ _
    have HA : Hid (Rs w0 wa rb s1) := by rw [hwa]; exact H0.out.below (below_alloc (Below.refl _ _) _)
    have OA : Hid (Only W wa rb) := by rw [hwa]; exact O0.out.below (below_alloc (Below.refl _ _) _)
    have hltn := H0.out.1.lt
    have hn2 : g2 ≠ rb := by omega
    have hn3 : g3 ≠ rb := by omega
    have h23 : g2 ≠ g3 := by have := blk_lt hz; omega
    have hl2 : w0.heap.size ≤ g2 := by omega
    have hw2 : W.heap.size ≤ g2 := by omega
    have hw3 : W.heap.size ≤ g3 := by have := O0.out.1; omega
    have hl3 : w0.heap.size ≤ g3 := by omega
    rw [← hwa, ← hg2, ← hg3]
    have HB2 := Lib.hid hb2
    have HB3 := Lib.hid hb3
    clear hwa hg2 hg3 hb2 hb3 H H0 O0 hz hsz hltn
    refine (address_st w0 _ rb s1 HA.out).mono ?_
    rintro e w1 ⟨rfl, h1, o1⟩
    have hc2 := o1.2 g2 _ HB2.out hn2
    have hc3 := o1.2 g3 _ HB3.out hn3
    have q0 := blk_cell hc3 0
    have q1 := blk_cell hc3 1
    have q2 := blk_cell hc3 2
    have q3 := blk_cell hc3 3
    have q4 := blk_cell hc3 4
    have q5 := blk_cell hc3 5
    have q6 := blk_cell hc3 6
    have q7 := blk_cell hc3 7
    have q8 := blk_cell hc3 8
    have q9 := blk_cell hc3 9
    simp only [List.getElem?_toArray, List.getElem?_cons_zero, List.getElem?_cons_succ] at q0 q1 q2 q3 q4 q5 q6 q7 q8 q9
    have t0 := blk_cell hc2 0
    have t1 := blk_cell hc2 1
    have t2 := blk_cell hc2 2
    have t3 := blk_cell hc2 3
    have t4 := blk_cell hc2 4
    have t5 := blk_cell hc2 5
    have t6 := blk_cell hc2 6
    have t7 := blk_cell hc2 7
    have t8 := blk_cell hc2 8
    have t9 := blk_cell hc2 9
    simp only [List.getElem?_toArray, List.getElem?_cons_zero, List.getElem?_cons_succ] at t0 t1 t2 t3 t4 t5 t6 t7 t8 t9
    have f3 := fun i => blk_frozen hc3 i
    have f2 := fun i => blk_frozen hc2 i
    have hd3_ := (blk_set (blk_set hc3 6 (.int .u64 (gv 8 s1))) 7 (.int .u64 (gv 8 (gs 8 s1))))
    simp only [List.setIfInBounds_toArray, List.set_cons_zero, List.set_cons_succ] at hd3_
    have hd2_ := ((Below.heap_setCell (w1.setCell ⟨g3, 6, none⟩ (.int .u64 (gv 8 s1))) ⟨g3, 7, none⟩ (.int .u64 (gv 8 (gs 8 s1))) g2 h23).trans ((Below.heap_setCell w1 ⟨g3, 6, none⟩ (.int .u64 (gv 8 s1)) g2 h23).trans hc2))
    have HD3_1 := Lib.hid hd3_
    have HD2_1 := Lib.hid hd2_
    have HR_1 := Lib.hid ((h1.other hn3 hl3 6 (.int .u64 (gv 8 s1))).other hn3 hl3 7 (.int .u64 (gv 8 (gs 8 s1))))
    have HO_1 := Lib.hid (((OA.out.trans o1).new hw3 6 (.int .u64 (gv 8 s1))).new hw3 7 (.int .u64 (gv 8 (gs 8 s1))))
    clear hd3_ hd2_
    clear hc2 hc3 h1 o1
    go_wp2
    (try simp only [Exit.inBlock, Exit.then])
    exact bodyPost_ret (v := .agg #[.int .i64 3, .int .i64 0, .int .i64 0, .int .u64 0, .int .u64 0, .int .i64 0, .int .u64 (gv 8 s1), .int .u64 (gv 8 (gs 8 s1)), .int .u64 0, .slice none 0 0]) (results_one (fn := Try.f21) rfl _ _ g2 29 _ (0, 0) _ rfl (lay10_here HD2_1.out _ _ _ _ _ _ _ _ _ _) Try.underlying29 rfl (by kernel_rfl)) rfl ⟨.slice none 0 0, rfl, Kd.R_nil _ _ _ _ _, Rs.lay HR_1.out hn2 hl2 _ _ _ _ _ _ _ _ _ _, Only.lay HO_1.out hw2 _ _ _ _ _ _ _ _ _ _⟩
  by_cases e4 : k = 4
  · subst e4
    go_enter Try.func21, Try.ntmps21
    go_wp2_with fail
    refine (number_st w0 _ rb 1 255 s (H.out.below (below_alloc (Below.refl _ _) _)) (by omega)).mono ?_
    rintro e wn ⟨rfl, h1, o1⟩
    rw [HK.out]
    rw [← HS1.out] at h1
    have hz := o1.2 W.heap.size _ (blk_new _ _) (by omega)
    have hsz := o1.1
    have O0 := Lib.hid (((Only.refl W rb).below (below_alloc (Below.refl _ _) _)).trans o1)
    have H0 := Lib.hid h1
    clear h1 o1
    go_wp2_with fail
    obtain ⟨wa, hwa⟩ : ∃ wa, wa = wn.alloc (.cells #[.int .i64 4, .int .i64 0, .int .i64 0, .int .u64 0, .int .u64 0, .int .i64 0, .int .u64 0, .int .u64 0, .int .u64 0, .slice none 0 0] 29 (0, 0)) := ⟨_, rfl⟩
    obtain ⟨g3, hg3⟩ : ∃ g, g = wn.heap.size := ⟨_, rfl⟩
    obtain ⟨g2, hg2⟩ : ∃ g, g = W.heap.size := ⟨_, rfl⟩
    have hb2 : wa.heap[g2]? = some (.cells #[.int .i64 0, .int .i64 0, .int .i64 0, .int .u64 0, .int .u64 0, .int .i64 0, .int .u64 0, .int .u64 0, .int .u64 0, .slice none 0 0] 29 (0, 0)) := by rw [hwa, hg2]; exact blk_alloc hz _
    have hb3 : wa.heap[g3]? = some (.cells #[.int .i64 4, .int .i64 0, .int .i64 0, .int .u64 0, .int .u64 0, .int .i64 0, .int .u64 0, .int .u64 0, .int .u64 0, .slice none 0 0] 29 (0, 0)) := by rw [hwa, hg3]; exact blk_new _ _
    have HA : Hid (Rs w0 wa rb s1) := by rw [hwa]; exact H0.out.below (below_alloc (Below.refl _ _) _)
    have OA : Hid (Only W wa rb) := by rw [hwa]; exact O0.out.below (below_alloc (Below.refl _ _) _)
    have hltn := H0.out.1.lt
    have hn2 : g2 ≠ rb := by omega
    have hn3 : g3 ≠ rb := by omega
    have h23 : g2 ≠ g3 := by have := blk_lt hz; omega
    have hl2 : w0.heap.size ≤ g2 := by omega
    have hw2 : W.heap.size ≤ g2 := by omega
    have hw3 : W.heap.size ≤ g3 := by have := O0.out.1; omega
    have hl3 : w0.heap.size ≤ g3 := by omega
    rw [← hwa, ← hg2, ← hg3]
    have HB2 := Lib.hid hb2
    have HB3 := Lib.hid hb3
    clear hwa hg2 hg3 hb2 hb3 H H0 O0 hz hsz hltn
    refine (number_st w0 _ rb 4 2147483647 s1 HA.out (by omega)).mono ?_
    rintro e w1 ⟨rfl, h1, o1⟩
    have hc2 := o1.2 g2 _ HB2.out hn2
    have hc3 := o1.2 g3 _ HB3.out hn3
    have q0 := blk_cell hc3 0
    have q1 := blk_cell hc3 1
    have q2 := blk_cell hc3 2
    have q3 := blk_cell hc3 3
    have q4 := blk_cell hc3 4
    have q5 := blk_cell hc3 5
    have q6 := blk_cell hc3 6
    have q7 := blk_cell hc3 7
    have q8 := blk_cell hc3 8
    have q9 := blk_cell hc3 9
    simp only [List.getElem?_toArray, List.getElem?_cons_zero, List.getElem?_cons_succ] at q0 q1 q2 q3 q4 q5 q6 q7 q8 q9
    have t0 := blk_cell hc2 0
    have t1 := blk_cell hc2 1
    have t2 := blk_cell hc2 2
    have t3 := blk_cell hc2 3
    have t4 := blk_cell hc2 4
    have t5 := blk_cell hc2 5
    have t6 := blk_cell hc2 6
    have t7 := blk_cell hc2 7
    have t8 := blk_cell hc2 8
    have t9 := blk_cell hc2 9
    simp only [List.getElem?_toArray, List.getElem?_cons_zero, List.getElem?_cons_succ] at t0 t1 t2 t3 t4 t5 t6 t7 t8 t9
    have f3 := fun i => blk_frozen hc3 i
    have f2 := fun i => blk_frozen hc2 i
    have hd3_ := (blk_set hc3 2 (.int .i64 (gv 4 s1)))
    simp only [List.setIfInBounds_toArray, List.set_cons_zero, List.set_cons_succ] at hd3_
    have hd2_ := ((Below.heap_setCell w1 ⟨g3, 2, none⟩ (.int .i64 (gv 4 s1)) g2 h23).trans hc2)
    have HD3_1 := Lib.hid hd3_
    have HD2_1 := Lib.hid hd2_
    have HR_1 := Lib.hid (h1.other hn3 hl3 2 (.int .i64 (gv 4 s1)))
    have HO_1 := Lib.hid ((OA.out.trans o1).new hw3 2 (.int .i64 (gv 4 s1)))
    clear hd3_ hd2_
    clear hc2 hc3 h1 o1
    go_wp2
    (try simp only [Exit.inBlock, Exit.then])
    exact bodyPost_ret (v := .agg #[.int .i64 4, .int .i64 0, .int .i64 (gv 4 s1), .int .u64 0, .int .u64 0, .int .i64 0, .int .u64 0, .int .u64 0, .int .u64 0, .slice none 0 0]) (results_one (fn := Try.f21) rfl _ _ g2 29 _ (0, 0) _ rfl (lay10_here HD2_1.out _ _ _ _ _ _ _ _ _ _) Try.underlying29 rfl (by kernel_rfl)) rfl ⟨.slice none 0 0, rfl, Kd.R_nil _ _ _ _ _, Rs.lay HR_1.out hn2 hl2 _ _ _ _ _ _ _ _ _ _, Only.lay HO_1.out hw2 _ _ _ _ _ _ _ _ _ _⟩
  by_cases e6 : k = 6
  · subst e6
    go_enter Try.func21, Try.ntmps21
    go_wp2_with fail
    refine (number_st w0 _ rb 1 255 s (H.out.below (below_alloc (Below.refl _ _) _)) (by omega)).mono ?_
    rintro e wn ⟨rfl, h1, o1⟩
    rw [HK.out]
    rw [← HS1.out] at h1
    have hz := o1.2 W.heap.size _ (blk_new _ _) (by omega)
    have hsz := o1.1
    have O0 := Lib.hid (((Only.refl W rb).below (below_alloc (Below.refl _ _) _)).trans o1)
    have H0 := Lib.hid h1
    clear h1 o1
    go_wp2_with fail
    obtain ⟨wa, hwa⟩ : ∃ wa, wa = wn.alloc (.cells #[.int .i64 6, .int .i64 0, .int .i64 0, .int .u64 0, .int .u64 0, .int .i64 0, .int .u64 0, .int .u64 0, .int .u64 0, .slice none 0 0] 29 (0, 0)) := ⟨_, rfl⟩
    obtain ⟨g3, hg3⟩ : ∃ g, g = wn.heap.size := ⟨_, rfl⟩
    obtain ⟨g2, hg2⟩ : ∃ g, g = W.heap.size := ⟨_, rfl⟩
    have hb2 : wa.heap[g2]? = some (.cells #[.int .i64 0, .int .i64 0, .int .i64 0, .int .u64 0, .int .u64 0, .int .i64 0, .int .u64 0, .int .u64 0, .int .u64 0, .slice none 0 0] 29 (0, 0)) := by rw [hwa, hg2]; exact blk_alloc hz _
    have hb3 : wa.heap[g3]? = some (.cells #[.int .i64 6, .int .i64 0, .int .i64 0, .int .u64 0, .int .u64 0, .int .i64 0, .int .u64 0, .int .u64 0, .int .u64 0, .slice none 0 0] 29 (0, 0)) := by rw [hwa, hg3]; exact blk_new _ _
    have HA : Hid (Rs w0 wa rb s1) := by rw [hwa]; exact H0.out.below (below_alloc (Below.refl _ _) _)
    have OA : Hid (Only W wa rb) := by rw [hwa]; exact O0.out.below (below_alloc (Below.refl _ _) _)
    have hltn := H0.out.1.lt
    have hn2 : g2 ≠ rb := by omega
    have hn3 : g3 ≠ rb := by omega
    have h23 : g2 ≠ g3 := by have := blk_lt hz; omega
    have hl2 : w0.heap.size ≤ g2 := by omega
    have hw2 : W.heap.size ≤ g2 := by omega
    have hw3 : W.heap.size ≤ g3 := by have := O0.out.1; omega
    have hl3 : w0.heap.size ≤ g3 := by omega
    rw [← hwa, ← hg2, ← hg3]
    have HB2 := Lib.hid hb2
    have HB3 := Lib.hid hb3
    clear hwa hg2 hg3 hb2 hb3 H H0 O0 hz hsz hltn
    refine (get_st w0 _ rb 8 s1 HA.out (by omega)).mono ?_
    rintro e w1 ⟨rfl, h1, o1⟩
    have hc2 := o1.2 g2 _ HB2.out hn2
    have hc3 := o1.2 g3 _ HB3.out hn3
    have q0 := blk_cell hc3 0
    have q1 := blk_cell hc3 1
    have q2 := blk_cell hc3 2
    have q3 := blk_cell hc3 3
    have q4 := blk_cell hc3 4
    have q5 := blk_cell hc3 5
    have q6 := blk_cell hc3 6
    have q7 := blk_cell hc3 7
    have q8 := blk_cell hc3 8
    have q9 := blk_cell hc3 9
    simp only [List.getElem?_toArray, List.getElem?_cons_zero, List.getElem?_cons_succ] at q0 q1 q2 q3 q4 q5 q6 q7 q8 q9
    have t0 := blk_cell hc2 0
    have t1 := blk_cell hc2 1
    have t2 := blk_cell hc2 2
    have t3 := blk_cell hc2 3
    have t4 := blk_cell hc2 4
    have t5 := blk_cell hc2 5
    have t6 := blk_cell hc2 6
    have t7 := blk_cell hc2 7
    have t8 := blk_cell hc2 8
    have t9 := blk_cell hc2 9
    simp only [List.getElem?_toArray, List.getElem?_cons_zero, List.getElem?_cons_succ] at t0 t1 t2 t3 t4 t5 t6 t7 t8 t9
    have f3 := fun i => blk_frozen hc3 i
    have f2 := fun i => blk_frozen hc2 i
    have hd3_ := (blk_set hc3 8 (.int .u64 (gv 8 s1)))
    simp only [List.setIfInBounds_toArray, List.set_cons_zero, List.set_cons_succ] at hd3_
    have hd2_ := ((Below.heap_setCell w1 ⟨g3, 8, none⟩ (.int .u64 (gv 8 s1)) g2 h23).trans hc2)
    have HD3_1 := Lib.hid hd3_
    have HD2_1 := Lib.hid hd2_
    have HR_1 := Lib.hid (h1.other hn3 hl3 8 (.int .u64 (gv 8 s1)))
    have HO_1 := Lib.hid ((OA.out.trans o1).new hw3 8 (.int .u64 (gv 8 s1)))
    clear hd3_ hd2_
    clear hc2 hc3 h1 o1
    go_wp2_with fail
    refine (number_st w0 _ rb 4 2147483647 (gs 8 s1) HR_1.out (by omega)).mono ?_
    rintro e w2 ⟨rfl, h1, o1⟩
    have hc2 := o1.2 g2 _ HD2_1.out hn2
    have hc3 := o1.2 g3 _ HD3_1.out hn3
    clear q0 q1 q2 q3 q4 q5 q6 q7 q8 q9 t0 t1 t2 t3 t4 t5 t6 t7 t8 t9 f3 f2
    have q0 := blk_cell hc3 0
    have q1 := blk_cell hc3 1
    have q2 := blk_cell hc3 2
    have q3 := blk_cell hc3 3
    have q4 := blk_cell hc3 4
    have q5 := blk_cell hc3 5
    have q6 := blk_cell hc3 6
    have q7 := blk_cell hc3 7
    have q8 := blk_cell hc3 8
    have q9 := blk_cell hc3 9
    simp only [List.getElem?_toArray, List.getElem?_cons_zero, List.getElem?_cons_succ] at q0 q1 q2 q3 q4 q5 q6 q7 q8 q9
    have t0 := blk_cell hc2 0
    have t1 := blk_cell hc2 1
    have t2 := blk_cell hc2 2
    have t3 := blk_cell hc2 3
    have t4 := blk_cell hc2 4
    have t5 := blk_cell hc2 5
    have t6 := blk_cell hc2 6
    have t7 := blk_cell hc2 7
    have t8 := blk_cell hc2 8
    have t9 := blk_cell hc2 9
    simp only [List.getElem?_toArray, List.getElem?_cons_zero, List.getElem?_cons_succ] at t0 t1 t2 t3 t4 t5 t6 t7 t8 t9
    have f3 := fun i => blk_frozen hc3 i
    have f2 := fun i => blk_frozen hc2 i
    have hd3_ := (blk_set hc3 2 (.int .i64 (gv 4 (gs 8 s1))))
    simp only [List.setIfInBounds_toArray, List.set_cons_zero, List.set_cons_succ] at hd3_
    have hd2_ := ((Below.heap_setCell w2 ⟨g3, 2, none⟩ (.int .i64 (gv 4 (gs 8 s1))) g2 h23).trans hc2)
    have HD3_2 := Lib.hid hd3_
    have HD2_2 := Lib.hid hd2_
    have HR_2 := Lib.hid (h1.other hn3 hl3 2 (.int .i64 (gv 4 (gs 8 s1))))
    have HO_2 := Lib.hid ((HO_1.out.trans o1).new hw3 2 (.int .i64 (gv 4 (gs 8 s1))))
    clear hd3_ hd2_
    clear hc2 hc3 h1 o1
    go_wp2
    (try simp only [Exit.inBlock, Exit.then])
    exact bodyPost_ret (v := .agg #[.int .i64 6, .int .i64 0, .int .i64 (gv 4 (gs 8 s1)), .int .u64 0, .int .u64 0, .int .i64 0, .int .u64 0, .int .u64 0, .int .u64 (gv 8 s1), .slice none 0 0]) (results_one (fn := Try.f21) rfl _ _ g2 29 _ (0, 0) _ rfl (lay10_here HD2_2.out _ _ _ _ _ _ _ _ _ _) Try.underlying29 rfl (by kernel_rfl)) rfl ⟨.slice none 0 0, rfl, Kd.R_nil _ _ _ _ _, Rs.lay HR_2.out hn2 hl2 _ _ _ _ _ _ _ _ _ _, Only.lay HO_2.out hw2 _ _ _ _ _ _ _ _ _ _⟩
  by_cases e7 : k = 7
  · have hr1 := gv_range 1 s1 (by rw [HS1.out]; exact ns_byte H.out.1.byte)
    obtain ⟨N, hN⟩ := Int.eq_ofNat_of_zero_le hr1.1
    rw [hN] at hr1
    have e256 : (256 : Int) ^ 1 = 256 := by decide
    have hN2 : N < 256 := by omega
    subst e7
    have gl : cmVk 7 s1 = ⟨7, 0, 0, z26, z24, 0, (btL N (ns 1 20 s1)).1⟩ := by show (⟨7, 0, 0, z26, z24, 0, (btL (gv 1 s1).toNat (ns 1 20 s1)).1⟩ : S29) = _; rw [hN, Int.toNat_natCast]
    have gr : cmSk 7 s1 = (btL N (ns 1 20 s1)).2 := by show (btL (gv 1 s1).toNat (ns 1 20 s1)).2 = _; rw [hN, Int.toNat_natCast]
    rw [gl, gr]
    obtain ⟨s2, hs2⟩ : ∃ s2, s2 = ns 1 20 s1 := ⟨_, rfl⟩
    rw [← hs2]
    have HS2 := Lib.hid hs2
    have HN := Lib.hid hN
    clear gl gr hs2 hN hr1 e256
    go_enter Try.func21, Try.ntmps21
    go_wp2_with fail
    refine (number_st w0 _ rb 1 255 s (H.out.below (below_alloc (Below.refl _ _) _)) (by omega)).mono ?_
    rintro e wn ⟨rfl, h1, o1⟩
    rw [HK.out]
    rw [← HS1.out] at h1
    have hz := o1.2 W.heap.size _ (blk_new _ _) (by omega)
    have hsz := o1.1
    have O0 := Lib.hid (((Only.refl W rb).below (below_alloc (Below.refl _ _) _)).trans o1)
    have H0 := Lib.hid h1
    clear h1 o1
    go_wp2_with fail
    obtain ⟨wa, hwa⟩ : ∃ wa, wa = wn.alloc (.cells #[.int .i64 7, .int .i64 0, .int .i64 0, .int .u64 0, .int .u64 0, .int .i64 0, .int .u64 0, .int .u64 0, .int .u64 0, .slice none 0 0] 29 (0, 0)) := ⟨_, rfl⟩
    obtain ⟨g3, hg3⟩ : ∃ g, g = wn.heap.size := ⟨_, rfl⟩
    obtain ⟨g2, hg2⟩ : ∃ g, g = W.heap.size := ⟨_, rfl⟩
    have hb2 : wa.heap[g2]? = some (.cells #[.int .i64 0, .int .i64 0, .int .i64 0, .int .u64 0, .int .u64 0, .int .i64 0, .int .u64 0, .int .u64 0, .int .u64 0, .slice none 0 0] 29 (0, 0)) := by rw [hwa, hg2]; exact blk_alloc hz _
    have hb3 : wa.heap[g3]? = some (.cells #[.int .i64 7, .int .i64 0, .int .i64 0, .int .u64 0, .int .u64 0, .int .i64 0, .int .u64 0, .int .u64 0, .int .u64 0, .slice none 0 0] 29 (0, 0)) := by rw [hwa, hg3]; exact blk_new _ _
    have HA : Hid (Rs w0 wa rb s1) := by rw [hwa]; exact H0.out.below (below_alloc (Below.refl _ _) _)
    have OA : Hid (Only W wa rb) := by rw [hwa]; exact O0.out.below (below_alloc (Below.refl _ _) _)
    have hltn := H0.out.1.lt
    have hn2 : g2 ≠ rb := by omega
    have hn3 : g3 ≠ rb := by omega
    have h23 : g2 ≠ g3 := by have := blk_lt hz; omega
    have hl2 : w0.heap.size ≤ g2 := by omega
    have hw2 : W.heap.size ≤ g2 := by omega
    have hw3 : W.heap.size ≤ g3 := by have := O0.out.1; omega
    have hl3 : w0.heap.size ≤ g3 := by omega
    rw [← hwa, ← hg2, ← hg3]
    have HB2 := Lib.hid hb2
    have HB3 := Lib.hid hb3
    clear hwa hg2 hg3 hb2 hb3 H H0 O0 hz hsz hltn
    refine (number_st w0 _ rb 1 20 s1 HA.out (by omega)).mono ?_
    rintro e w1 ⟨rfl, h1, o1⟩
    have hc2 := o1.2 g2 _ HB2.out hn2
    have hc3 := o1.2 g3 _ HB3.out hn3
    rw [HN.out]
    rw [← HS2.out] at h1
    have H1 := Lib.hid h1
    have O1 := Lib.hid (OA.out.trans o1)
    have HC2 := Lib.hid hc2
    have HC3 := Lib.hid hc3
    clear h1 o1 hc2 hc3 HB2 HB3 HA OA
    go_wp2_with fail
    go_loopw [35] (fun vi wr => ∃ (i : Nat) (t : St) (xs : List S29) (A : Option Addr) (c : Nat), i ≤ N ∧ vi = .int .i64 i ∧ xs.length = i ∧ Hid (Rs w0 wr rb t) ∧ Hid (Only W wr rb) ∧ Hid (wr.heap[g2]? = some (.cells #[.int .i64 0, .int .i64 0, .int .i64 0, .int .u64 0, .int .u64 0, .int .i64 0, .int .u64 0, .int .u64 0, .int .u64 0, .slice none 0 0] 29 (0, 0))) ∧ Hid (wr.heap[g3]? = some (.cells #[.int .i64 7, .int .i64 0, .int .i64 0, .int .u64 0, .int .u64 0, .int .i64 0, .int .u64 0, .int .u64 0, .int .u64 0, .slice A xs.length c] 29 (0, 0))) ∧ Hid (k29.R 29 wr w0.heap.size (fun j => (j ≠ g3 ∧ j ≠ g2) ∧ W.heap.size ≤ j) (.slice A xs.length c) xs) ∧ Hid ((xs ++ (btL (N - i) t).1, (btL (N - i) t).2) = btL N s2)) (fun i _ => N - (intOf i).toNat)
    case atStart => exact ⟨0, s2, [], none, 0, Nat.zero_le _, rfl, rfl, H1.out, O1.out, HC2.out, HC3.out, Kd.R_nil _ _ _ _ _, by show ([] ++ (btL (N - 0) s2).1, (btL (N - 0) s2).2) = _; rw [Nat.sub_zero]; rfl⟩
    case round =>
      clear H1 O1 HC2 HC3
      obtain ⟨i, t, xs, A, c, hi, rfl, hxl, HT, HO, HC2, HC3, HR, HE⟩ := hrel
      have HXL := Lib.hid hxl
      clear hxl
      obtain ⟨Ab, cb, hbr, _⟩ := HT.out.1.is
      have pb := blk_cell hbr 1
      simp only [List.getElem?_toArray, List.getElem?_cons_zero, List.getElem?_cons_succ] at pb
      clear hbr
      by_cases hiN : i < N
      · obtain ⟨tl, tb⟩ := t
        cases tb with
        | true =>
          have hend : (xs, (tl, true)) = btL N s2 := by
            have := HE.out
            obtain ⟨d, hd⟩ : ∃ d, N - i = d + 1 := ⟨N - i - 1, by omega⟩
            rw [hd] at this
            simpa [btL] using this
          have e1 : (btL N s2).1 = xs := by rw [← hend]
          have e2 : (btL N s2).2 = (tl, true) := by rw [← hend]
          have E1 := Lib.hid e1
          have E2 := Lib.hid e2
          clear e1 e2 hend
          have q0 := blk_cell HC3.out 0
          have q1 := blk_cell HC3.out 1
          have q2 := blk_cell HC3.out 2
          have q3 := blk_cell HC3.out 3
          have q4 := blk_cell HC3.out 4
          have q5 := blk_cell HC3.out 5
          have q6 := blk_cell HC3.out 6
          have q7 := blk_cell HC3.out 7
          have q8 := blk_cell HC3.out 8
          have q9 := blk_cell HC3.out 9
          simp only [List.getElem?_toArray, List.getElem?_cons_zero, List.getElem?_cons_succ] at q0 q1 q2 q3 q4 q5 q6 q7 q8 q9
          have t0 := blk_cell HC2.out 0
          have t1 := blk_cell HC2.out 1
          have t2 := blk_cell HC2.out 2
          have t3 := blk_cell HC2.out 3
          have t4 := blk_cell HC2.out 4
          have t5 := blk_cell HC2.out 5
          have t6 := blk_cell HC2.out 6
          have t7 := blk_cell HC2.out 7
          have t8 := blk_cell HC2.out 8
          have t9 := blk_cell HC2.out 9
          simp only [List.getElem?_toArray, List.getElem?_cons_zero, List.getElem?_cons_succ] at t0 t1 t2 t3 t4 t5 t6 t7 t8 t9
          have f3 := fun j => blk_frozen HC3.out j
          have f2 := fun j => blk_frozen HC2.out j
          go_wp2
          (try simp only [Exit.inBlock, Exit.then])
          refine bodyPost_ret (v := .agg #[.int .i64 7, .int .i64 0, .int .i64 0, .int .u64 0, .int .u64 0, .int .i64 0, .int .u64 0, .int .u64 0, .int .u64 0, .slice A xs.length c]) (results_one (fn := Try.f21) rfl _ _ g2 29 _ (0, 0) _ rfl (lay10_here HC2.out _ _ _ _ _ _ _ _ _ _) Try.underlying29 rfl (by kernel_rfl)) rfl ?_
          rw [E1.out, E2.out]
          refine ⟨.slice A xs.length c, rfl, ?_, Rs.lay HT.out hn2 hl2 _ _ _ _ _ _ _ _ _ _, Only.lay HO.out hw2 _ _ _ _ _ _ _ _ _ _⟩
          exact Kd.R_mono (Kd.R_step HR.out fun j hj _ => lay10_far _ hj.1.2 _ _ _ _ _ _ _ _ _ _) (fun _ hj => hj.2)
        | false =>
          have hc2 := HC2.out
          have hc3 := HC3.out
          have q0 := blk_cell hc3 0
          have q1 := blk_cell hc3 1
          have q2 := blk_cell hc3 2
          have q3 := blk_cell hc3 3
          have q4 := blk_cell hc3 4
          have q5 := blk_cell hc3 5
          have q6 := blk_cell hc3 6
          have q7 := blk_cell hc3 7
          have q8 := blk_cell hc3 8
          have q9 := blk_cell hc3 9
          simp only [List.getElem?_toArray, List.getElem?_cons_zero, List.getElem?_cons_succ] at q0 q1 q2 q3 q4 q5 q6 q7 q8 q9
          have f3 := fun j => blk_frozen HC3.out j
          clear hc2 hc3
          have hxs : xs.length ≤ 255 := by have := HXL.out; omega
          obtain ⟨x, hx⟩ : ∃ x, x = edV (gv 1 (tl, false)) (ns 1 255 (tl, false)) := ⟨_, rfl⟩
          have hx6 : x.f6 = [] := by rw [hx]; exact edV_f6 _ _
          have HX := Lib.hid hx
          have HX6 := Lib.hid hx6
          clear hx hx6
          go_wp2_with fail
          go_region_law (first
            | (go_simp; go_at_call 26; refine (number_st w0 _ rb 1 255 (tl, false) (HT.out.below (below_drew (Below.refl _ _))) (by omega)).mono ?_; rintro e w3 ⟨rfl, h3, o3⟩; have m2 := o3.2 g2 _ (blk_drew HC2.out) hn2; have m3 := o3.2 g3 _ (blk_drew HC3.out) hn3; have r3 := R_only (Kd.R_drew HR.out) (HT.out.below (below_drew (Below.refl _ _))) o3; have q9' := blk_cell m3 9; simp only [List.getElem?_toArray, List.getElem?_cons_zero, List.getElem?_cons_succ] at q9'; have H3 := Lib.hid h3; have O3 := Lib.hid ((HO.out.below (below_drew (Below.refl _ _))).trans o3); have M2 := Lib.hid m2; have M3 := Lib.hid m3; have R3 := Lib.hid r3; clear h3 o3 m2 m3 r3)
            | (go_simp; go_at_call 31; refine (edit_st w0 _ rb (gv 1 (tl, false)) (ns 1 255 (tl, false)) H3.out).mono ?_; rintro e w4 ⟨rfl, h4, o4⟩; rw [← HX.out]; unfold cells29; have m2 := o4.2 g2 _ M2.out hn2; have m3 := o4.2 g3 _ M3.out hn3; have r4 := R_only R3.out H3.out o4; have q9'' := blk_cell m3 9; simp only [List.getElem?_toArray, List.getElem?_cons_zero, List.getElem?_cons_succ] at q9''; have H4 := Lib.hid h4; have O4 := Lib.hid (O3.out.trans o4); have M42 := Lib.hid m2; have M43 := Lib.hid m3; have R4 := Lib.hid r4; have hl34 : g3 < w4.heap.size := blk_lt m3; clear h4 o4 m2 m3 r4)
            | (refine Kd.R_append_rows_step (w0 := w0) (W := w4.alloc (.cells (cells29 x (.slice none 0 0)) 29 (0, 0))) (Rr := k29.M (w4.alloc (.cells (cells29 x (.slice none 0 0)) 29 (0, 0))) w0.heap.size (fun _ => False)) k29 w0.heap.size (by rfl) _ _ 27 29 (.agg (cells29 z29 (.slice none 0 0))) 96 (by rfl) Try.underlying27 info29 rfl (by decide) (by decide) (.slice A xs.length c) xs [x] (some ⟨w4.heap.size, 0, none⟩) 1 1 (fun j => (j ≠ g3 ∧ j ≠ g2) ∧ W.heap.size ≤ j) (fun _ => False) (by rfl) (by rfl) (Kd.R_alloc R4.out _) (lit_reads w4 w0.heap.size _ x HX6.out H4.out.1.bel.size rfl) (fun x cs h => h) (fun _ hk => hk.elim) (fun k hk => ⟨⟨(fun e => by have := blk_lt (blk_alloc M43.out (.cells (cells29 x (.slice none 0 0)) 29 (0, 0))); omega), (fun e => by have := blk_lt (blk_alloc M42.out (.cells (cells29 x (.slice none 0 0)) 29 (0, 0))); omega)⟩, Nat.le_trans O4.out.1 (Nat.le_trans (by simp) hk)⟩) (below_alloc H4.out.1.bel _) (Nat.le_trans H4.out.1.bel.size (by simp)) (by omega) ?_; intro v5 w5 hown5 hB5 hg5 hat5; obtain ⟨A5, c5, he5⟩ := Kd.R_slice hown5; subst he5; have m5 := blk_grown (g := g3) (blk_alloc M43.out _) hg5 (fun e => (R4.out.1 g3 e.symm).1.1 rfl); have m6 := blk_grown (g := g2) (blk_alloc M42.out _) hg5 (fun e => (R4.out.1 g2 e.symm).1.2 rfl); have q5' := blk_cell m5 9; have f5' := blk_frozen m5 9; simp only [List.getElem?_toArray, List.getElem?_cons_zero, List.getElem?_cons_succ] at q5'; have M5 := Lib.hid m5; have M6 := Lib.hid m6; clear m5 m6))
          all_goals (have R4a := Kd.R_alloc R4.out (.cells (cells29 x (.slice none 0 0)) 29 (0, 0)))
          all_goals (have h5s := ((H4.out.below (below_alloc (Below.refl _ _) (.cells (cells29 x (.slice none 0 0)) 29 (0, 0)))).grown R4a hg5 hB5).other hn3 hl3 9 (.slice A5 (xs ++ [x]).length c5))
          all_goals (have h5o := ((O4.out.below (below_alloc (Below.refl _ _) (.cells (cells29 x (.slice none 0 0)) 29 (0, 0)))).grown R4a (fun j hj => hj.2) hg5).new hw3 9 (.slice A5 (xs ++ [x]).length c5))
          all_goals (have h53 := blk_set M5.out 9 (.slice A5 (xs ++ [x]).length c5))
          all_goals (have h52 := (Below.heap_setCell w5 ⟨g3, 9, none⟩ (.slice A5 (xs ++ [x]).length c5) g2 h23).trans M6.out)
          all_goals (have h5r := Kd.R_far (p := ⟨g3, 9, none⟩) hown5 (fun j hj => hj.1.1) (.slice A5 (xs ++ [x]).length c5))
          all_goals (have h5e := bt_step hiN HE.out HX.out)
          all_goals (have h5l : (xs ++ [x]).length = i + 1 := by rw [List.length_append, HXL.out]; rfl)
          all_goals (simp only [List.setIfInBounds_toArray, List.set_cons_zero, List.set_cons_succ] at h53)
          all_goals (have F1 := Lib.hid h5s)
          all_goals (have F2 := Lib.hid h5o)
          all_goals (have F3 := Lib.hid h53)
          all_goals (have F4 := Lib.hid h52)
          all_goals (have F5 := Lib.hid h5r)
          all_goals (have F6 := Lib.hid h5e)
          all_goals (have F7 := Lib.hid h5l)
          all_goals (clear R4a h5s h5o h53 h52 h5r h5e h5l hown5 hB5 hg5 hat5)
          all_goals go_wp2
          all_goals go_roundw
          all_goals try (simp [intOf]; done)
          all_goals try (simp [intOf]; omega; done)
          all_goals (have el : xs.length + 1 = (xs ++ [x]).length := by simp)
          all_goals (rw [el])
          all_goals exact ⟨i + 1, _, xs ++ [x], A5, c5, by omega, by go_num, F7.out, F1.out, F2.out, F4.out, F3.out, F5.out, F6.out⟩
      · obtain rfl : i = N := by omega
        have hend : (xs, t) = btL i s2 := by
          have := HE.out
          rw [Nat.sub_self] at this
          simpa [btL] using this
        have e1 : (btL i s2).1 = xs := by rw [← hend]
        have e2 : (btL i s2).2 = t := by rw [← hend]
        have E1 := Lib.hid e1
        have E2 := Lib.hid e2
        clear e1 e2 hend
        have q0 := blk_cell HC3.out 0
        have q1 := blk_cell HC3.out 1
        have q2 := blk_cell HC3.out 2
        have q3 := blk_cell HC3.out 3
        have q4 := blk_cell HC3.out 4
        have q5 := blk_cell HC3.out 5
        have q6 := blk_cell HC3.out 6
        have q7 := blk_cell HC3.out 7
        have q8 := blk_cell HC3.out 8
        have q9 := blk_cell HC3.out 9
        simp only [List.getElem?_toArray, List.getElem?_cons_zero, List.getElem?_cons_succ] at q0 q1 q2 q3 q4 q5 q6 q7 q8 q9
        have t0 := blk_cell HC2.out 0
        have t1 := blk_cell HC2.out 1
        have t2 := blk_cell HC2.out 2
        have t3 := blk_cell HC2.out 3
        have t4 := blk_cell HC2.out 4
        have t5 := blk_cell HC2.out 5
        have t6 := blk_cell HC2.out 6
        have t7 := blk_cell HC2.out 7
        have t8 := blk_cell HC2.out 8
        have t9 := blk_cell HC2.out 9
        simp only [List.getElem?_toArray, List.getElem?_cons_zero, List.getElem?_cons_succ] at t0 t1 t2 t3 t4 t5 t6 t7 t8 t9
        have f3 := fun j => blk_frozen HC3.out j
        have f2 := fun j => blk_frozen HC2.out j
        go_wp2
        (try simp only [Exit.inBlock, Exit.then])
        refine bodyPost_ret (v := .agg #[.int .i64 7, .int .i64 0, .int .i64 0, .int .u64 0, .int .u64 0, .int .i64 0, .int .u64 0, .int .u64 0, .int .u64 0, .slice A xs.length c]) (results_one (fn := Try.f21) rfl _ _ g2 29 _ (0, 0) _ rfl (lay10_here HC2.out _ _ _ _ _ _ _ _ _ _) Try.underlying29 rfl (by kernel_rfl)) rfl ?_
        rw [E1.out, E2.out]
        refine ⟨.slice A xs.length c, rfl, ?_, Rs.lay HT.out hn2 hl2 _ _ _ _ _ _ _ _ _ _, Only.lay HO.out hw2 _ _ _ _ _ _ _ _ _ _⟩
        exact Kd.R_mono (Kd.R_step HR.out fun j hj _ => lay10_far _ hj.1.2 _ _ _ _ _ _ _ _ _ _) (fun _ hj => hj.2)
  by_cases e5 : k = 5
  · subst e5
    go_enter Try.func21, Try.ntmps21
    go_wp2_with fail
    refine (number_st w0 _ rb 1 255 s (H.out.below (below_alloc (Below.refl _ _) _)) (by omega)).mono ?_
    rintro e wn ⟨rfl, h1, o1⟩
    rw [HK.out]
    rw [← HS1.out] at h1
    have hz := o1.2 W.heap.size _ (blk_new _ _) (by omega)
    have hsz := o1.1
    have O0 := Lib.hid (((Only.refl W rb).below (below_alloc (Below.refl _ _) _)).trans o1)
    have H0 := Lib.hid h1
    clear h1 o1
    go_upto_region 2 with (fail)
    obtain ⟨wa, hwa⟩ : ∃ wa, wa = wn.alloc (.cells #[.int .i64 5, .int .i64 0, .int .i64 0, .int .u64 0, .int .u64 0, .int .i64 0, .int .u64 0, .int .u64 0, .int .u64 0, .slice none 0 0] 29 (0, 0)) := ⟨_, rfl⟩
    obtain ⟨g3, hg3⟩ : ∃ g, g = wn.heap.size := ⟨_, rfl⟩
    obtain ⟨g2, hg2⟩ : ∃ g, g = W.heap.size := ⟨_, rfl⟩
    have hb2 : wa.heap[g2]? = some (.cells #[.int .i64 0, .int .i64 0, .int .i64 0, .int .u64 0, .int .u64 0, .int .i64 0, .int .u64 0, .int .u64 0, .int .u64 0, .slice none 0 0] 29 (0, 0)) := by rw [hwa, hg2]; exact blk_alloc hz _
    have hb3 : wa.heap[g3]? = some (.cells #[.int .i64 5, .int .i64 0, .int .i64 0, .int .u64 0, .int .u64 0, .int .i64 0, .int .u64 0, .int .u64 0, .int .u64 0, .slice none 0 0] 29 (0, 0)) := by rw [hwa, hg3]; exact blk_new _ _
    have HA : Hid (Rs w0 wa rb s1) := by rw [hwa]; exact H0.out.below (below_alloc (Below.refl _ _) _)
    have OA : Hid (Only W wa rb) := by rw [hwa]; exact O0.out.below (below_alloc (Below.refl _ _) _)
    have hltn := H0.out.1.lt
    have hn2 : g2 ≠ rb := by omega
    have hn3 : g3 ≠ rb := by omega
    have h23 : g2 ≠ g3 := by have := blk_lt hz; omega
    have hl2 : w0.heap.size ≤ g2 := by omega
    have hw2 : W.heap.size ≤ g2 := by omega
    have hw3 : W.heap.size ≤ g3 := by have := O0.out.1; omega
    have hl3 : w0.heap.size ≤ g3 := by omega
    rw [← hwa, ← hg2, ← hg3]
    have HB2 := Lib.hid hb2
    have HB3 := Lib.hid hb3
    clear hwa hg2 hg3 hb2 hb3 H H0 O0 hz hsz hltn
    have q0 := blk_cell HB3.out 0
    have q1 := blk_cell HB3.out 1
    have q2 := blk_cell HB3.out 2
    have q3 := blk_cell HB3.out 3
    have q4 := blk_cell HB3.out 4
    have q5 := blk_cell HB3.out 5
    have q6 := blk_cell HB3.out 6
    have q7 := blk_cell HB3.out 7
    have q8 := blk_cell HB3.out 8
    have q9 := blk_cell HB3.out 9
    simp only [List.getElem?_toArray, List.getElem?_cons_zero, List.getElem?_cons_succ] at q0 q1 q2 q3 q4 q5 q6 q7 q8 q9
    have t0 := blk_cell HB2.out 0
    have t1 := blk_cell HB2.out 1
    have t2 := blk_cell HB2.out 2
    have t3 := blk_cell HB2.out 3
    have t4 := blk_cell HB2.out 4
    have t5 := blk_cell HB2.out 5
    have t6 := blk_cell HB2.out 6
    have t7 := blk_cell HB2.out 7
    have t8 := blk_cell HB2.out 8
    have t9 := blk_cell HB2.out 9
    simp only [List.getElem?_toArray, List.getElem?_cons_zero, List.getElem?_cons_succ] at t0 t1 t2 t3 t4 t5 t6 t7 t8 t9
    have f3 := fun i => blk_frozen HB3.out i
    have f2 := fun i => blk_frozen HB2.out i
    go_wp2
    (try simp only [Exit.inBlock, Exit.then])
    exact bodyPost_ret (v := .agg #[.int .i64 5, .int .i64 0, .int .i64 0, .int .u64 0, .int .u64 0, .int .i64 0, .int .u64 0, .int .u64 0, .int .u64 0, .slice none 0 0]) (results_one (fn := Try.f21) rfl _ _ g2 29 _ (0, 0) _ rfl (lay10_here HB2.out _ _ _ _ _ _ _ _ _ _) Try.underlying29 rfl (by kernel_rfl)) rfl ⟨.slice none 0 0, rfl, Kd.R_nil _ _ _ _ _, Rs.lay HA.out hn2 hl2 _ _ _ _ _ _ _ _ _ _, Only.lay OA.out hw2 _ _ _ _ _ _ _ _ _ _⟩
  by_cases e8 : k = 8
  · subst e8
    go_enter Try.func21, Try.ntmps21
    go_wp2_with fail
    refine (number_st w0 _ rb 1 255 s (H.out.below (below_alloc (Below.refl _ _) _)) (by omega)).mono ?_
    rintro e wn ⟨rfl, h1, o1⟩
    rw [HK.out]
    rw [← HS1.out] at h1
    have hz := o1.2 W.heap.size _ (blk_new _ _) (by omega)
    have hsz := o1.1
    have O0 := Lib.hid (((Only.refl W rb).below (below_alloc (Below.refl _ _) _)).trans o1)
    have H0 := Lib.hid h1
    clear h1 o1
    go_upto_region 2 with (fail)
    obtain ⟨wa, hwa⟩ : ∃ wa, wa = wn.alloc (.cells #[.int .i64 8, .int .i64 0, .int .i64 0, .int .u64 0, .int .u64 0, .int .i64 0, .int .u64 0, .int .u64 0, .int .u64 0, .slice none 0 0] 29 (0, 0)) := ⟨_, rfl⟩
    obtain ⟨g3, hg3⟩ : ∃ g, g = wn.heap.size := ⟨_, rfl⟩
    obtain ⟨g2, hg2⟩ : ∃ g, g = W.heap.size := ⟨_, rfl⟩
    have hb2 : wa.heap[g2]? = some (.cells #[.int .i64 0, .int .i64 0, .int .i64 0, .int .u64 0, .int .u64 0, .int .i64 0, .int .u64 0, .int .u64 0, .int .u64 0, .slice none 0 0] 29 (0, 0)) := by rw [hwa, hg2]; exact blk_alloc hz _
    have hb3 : wa.heap[g3]? = some (.cells #[.int .i64 8, .int .i64 0, .int .i64 0, .int .u64 0, .int .u64 0, .int .i64 0, .int .u64 0, .int .u64 0, .int .u64 0, .slice none 0 0] 29 (0, 0)) := by rw [hwa, hg3]; exact blk_new _ _
    have HA : Hid (Rs w0 wa rb s1) := by rw [hwa]; exact H0.out.below (below_alloc (Below.refl _ _) _)
    have OA : Hid (Only W wa rb) := by rw [hwa]; exact O0.out.below (below_alloc (Below.refl _ _) _)
    have hltn := H0.out.1.lt
    have hn2 : g2 ≠ rb := by omega
    have hn3 : g3 ≠ rb := by omega
    have h23 : g2 ≠ g3 := by have := blk_lt hz; omega
    have hl2 : w0.heap.size ≤ g2 := by omega
    have hw2 : W.heap.size ≤ g2 := by omega
    have hw3 : W.heap.size ≤ g3 := by have := O0.out.1; omega
    have hl3 : w0.heap.size ≤ g3 := by omega
    rw [← hwa, ← hg2, ← hg3]
    have HB2 := Lib.hid hb2
    have HB3 := Lib.hid hb3
    clear hwa hg2 hg3 hb2 hb3 H H0 O0 hz hsz hltn
    have q0 := blk_cell HB3.out 0
    have q1 := blk_cell HB3.out 1
    have q2 := blk_cell HB3.out 2
    have q3 := blk_cell HB3.out 3
    have q4 := blk_cell HB3.out 4
    have q5 := blk_cell HB3.out 5
    have q6 := blk_cell HB3.out 6
    have q7 := blk_cell HB3.out 7
    have q8 := blk_cell HB3.out 8
    have q9 := blk_cell HB3.out 9
    simp only [List.getElem?_toArray, List.getElem?_cons_zero, List.getElem?_cons_succ] at q0 q1 q2 q3 q4 q5 q6 q7 q8 q9
    have t0 := blk_cell HB2.out 0
    have t1 := blk_cell HB2.out 1
    have t2 := blk_cell HB2.out 2
    have t3 := blk_cell HB2.out 3
    have t4 := blk_cell HB2.out 4
    have t5 := blk_cell HB2.out 5
    have t6 := blk_cell HB2.out 6
    have t7 := blk_cell HB2.out 7
    have t8 := blk_cell HB2.out 8
    have t9 := blk_cell HB2.out 9
    simp only [List.getElem?_toArray, List.getElem?_cons_zero, List.getElem?_cons_succ] at t0 t1 t2 t3 t4 t5 t6 t7 t8 t9
    have f3 := fun i => blk_frozen HB3.out i
    have f2 := fun i => blk_frozen HB2.out i
    go_wp2
    (try simp only [Exit.inBlock, Exit.then])
    exact bodyPost_ret (v := .agg #[.int .i64 8, .int .i64 0, .int .i64 0, .int .u64 0, .int .u64 0, .int .i64 0, .int .u64 0, .int .u64 0, .int .u64 0, .slice none 0 0]) (results_one (fn := Try.f21) rfl _ _ g2 29 _ (0, 0) _ rfl (lay10_here HB2.out _ _ _ _ _ _ _ _ _ _) Try.underlying29 rfl (by kernel_rfl)) rfl ⟨.slice none 0 0, rfl, Kd.R_nil _ _ _ _ _, Rs.lay HA.out hn2 hl2 _ _ _ _ _ _ _ _ _ _, Only.lay OA.out hw2 _ _ _ _ _ _ _ _ _ _⟩
  have r1 : cmVk k s1 = edV k s1 := by unfold cmVk; simp only [if_neg e3, if_neg e4, if_neg e5, if_neg e6, if_neg e7, if_neg e8]
  have r2 : cmSk k s1 = edS k s1 := by unfold cmSk; simp only [if_neg e3, if_neg e4, if_neg e5, if_neg e6, if_neg e7, if_neg e8]
  have r3 : (edV k s1).f6 = [] := by unfold edV; split <;> first | rfl | (split <;> rfl)
  rw [r1, r2, r3]
  obtain ⟨x, hx⟩ : ∃ x, x = edV k s1 := ⟨_, rfl⟩
  rw [← hx]
  have HX := Lib.hid hx
  have d3 : (k == 3) = false := beq_eq_false_iff_ne.mpr e3
  have d4 : (k == 4) = false := beq_eq_false_iff_ne.mpr e4
  have d5 : (k == 5) = false := beq_eq_false_iff_ne.mpr e5
  have d6 : (k == 6) = false := beq_eq_false_iff_ne.mpr e6
  have d7 : (k == 7) = false := beq_eq_false_iff_ne.mpr e7
  have d8 : (k == 8) = false := beq_eq_false_iff_ne.mpr e8
  clear r1 r2 r3 hx
  go_enter Try.func21, Try.ntmps21
  go_wp2_with fail
  refine (number_st w0 _ rb 1 255 s (H.out.below (below_alloc (Below.refl _ _) _)) (by omega)).mono ?_
  rintro e wn ⟨rfl, h1, o1⟩
  rw [HK.out]
  rw [← HS1.out] at h1
  have hz := o1.2 W.heap.size _ (blk_new _ _) (by omega)
  have hsz := o1.1
  have O0 := Lib.hid (((Only.refl W rb).below (below_alloc (Below.refl _ _) _)).trans o1)
  have H0 := Lib.hid h1
  clear h1 o1
  go_upto_region 2 with (fail)
  obtain ⟨wa, hwa⟩ : ∃ wa, wa = wn.alloc (.cells #[.int .i64 k, .int .i64 0, .int .i64 0, .int .u64 0, .int .u64 0, .int .i64 0, .int .u64 0, .int .u64 0, .int .u64 0, .slice none 0 0] 29 (0, 0)) := ⟨_, rfl⟩
  obtain ⟨g3, hg3⟩ : ∃ g, g = wn.heap.size := ⟨_, rfl⟩
  obtain ⟨g2, hg2⟩ : ∃ g, g = W.heap.size := ⟨_, rfl⟩
  have hb2 : wa.heap[g2]? = some (.cells #[.int .i64 0, .int .i64 0, .int .i64 0, .int .u64 0, .int .u64 0, .int .i64 0, .int .u64 0, .int .u64 0, .int .u64 0, .slice none 0 0] 29 (0, 0)) := by rw [hwa, hg2]; exact blk_alloc hz _
  have hb3 : wa.heap[g3]? = some (.cells #[.int .i64 k, .int .i64 0, .int .i64 0, .int .u64 0, .int .u64 0, .int .i64 0, .int .u64 0, .int .u64 0, .int .u64 0, .slice none 0 0] 29 (0, 0)) := by rw [hwa, hg3]; exact blk_new _ _
  have HA : Hid (Rs w0 wa rb s1) := by rw [hwa]; exact H0.out.below (below_alloc (Below.refl _ _) _)
  have OA : Hid (Only W wa rb) := by rw [hwa]; exact O0.out.below (below_alloc (Below.refl _ _) _)
  have hltn := H0.out.1.lt
  have hn2 : g2 ≠ rb := by omega
  have hn3 : g3 ≠ rb := by omega
  have h23 : g2 ≠ g3 := by have := blk_lt hz; omega
  have hl2 : w0.heap.size ≤ g2 := by omega
  have hw2 : W.heap.size ≤ g2 := by omega
  have hw3 : W.heap.size ≤ g3 := by have := O0.out.1; omega
  have hl3 : w0.heap.size ≤ g3 := by omega
  rw [← hwa, ← hg2, ← hg3]
  have HB2 := Lib.hid hb2
  have HB3 := Lib.hid hb3
  clear hwa hg2 hg3 hb2 hb3 H H0 O0 hz hsz hltn
  have q0 := blk_cell HB3.out 0
  have q1 := blk_cell HB3.out 1
  have q2 := blk_cell HB3.out 2
  have q3 := blk_cell HB3.out 3
  have q4 := blk_cell HB3.out 4
  have q5 := blk_cell HB3.out 5
  have q6 := blk_cell HB3.out 6
  have q7 := blk_cell HB3.out 7
  have q8 := blk_cell HB3.out 8
  have q9 := blk_cell HB3.out 9
  simp only [List.getElem?_toArray, List.getElem?_cons_zero, List.getElem?_cons_succ] at q0 q1 q2 q3 q4 q5 q6 q7 q8 q9
  have t0 := blk_cell HB2.out 0
  have t1 := blk_cell HB2.out 1
  have t2 := blk_cell HB2.out 2
  have t3 := blk_cell HB2.out 3
  have t4 := blk_cell HB2.out 4
  have t5 := blk_cell HB2.out 5
  have t6 := blk_cell HB2.out 6
  have t7 := blk_cell HB2.out 7
  have t8 := blk_cell HB2.out 8
  have t9 := blk_cell HB2.out 9
  simp only [List.getElem?_toArray, List.getElem?_cons_zero, List.getElem?_cons_succ] at t0 t1 t2 t3 t4 t5 t6 t7 t8 t9
  have f3 := fun i => blk_frozen HB3.out i
  have f2 := fun i => blk_frozen HB2.out i
  go_wp2_with fail
  refine (edit_st w0 _ rb k s1 HA.out).mono ?_
  rintro e w1 ⟨rfl, h1, o1⟩
  have hc2 := o1.2 g2 _ HB2.out hn2
  rw [← HX.out]
  clear q0 q1 q2 q3 q4 q5 q6 q7 q8 q9 t0 t1 t2 t3 t4 t5 t6 t7 t8 t9 f3 f2
  have t0 := blk_cell hc2 0
  have t1 := blk_cell hc2 1
  have t2 := blk_cell hc2 2
  have t3 := blk_cell hc2 3
  have t4 := blk_cell hc2 4
  have t5 := blk_cell hc2 5
  have t6 := blk_cell hc2 6
  have t7 := blk_cell hc2 7
  have t8 := blk_cell hc2 8
  have t9 := blk_cell hc2 9
  simp only [List.getElem?_toArray, List.getElem?_cons_zero, List.getElem?_cons_succ] at t0 t1 t2 t3 t4 t5 t6 t7 t8 t9
  have f2 := fun i => blk_frozen hc2 i
  have HC2 := Lib.hid hc2
  have H1 := Lib.hid h1
  have O1 := Lib.hid (OA.out.trans o1)
  unfold cells29
  clear hc2 h1 o1
  go_wp2
  (try simp only [Exit.inBlock, Exit.then])
  exact bodyPost_ret (v := .agg (cells29 x (.slice none 0 0))) (results_one (fn := Try.f21) rfl _ _ g2 29 _ (0, 0) _ rfl (lay10_here HC2.out _ _ _ _ _ _ _ _ _ _) Try.underlying29 rfl (by kernel_rfl)) rfl ⟨.slice none 0 0, rfl, Kd.R_nil _ _ _ _ _, Rs.lay H1.out hn2 hl2 _ _ _ _ _ _ _ _ _ _, Only.lay O1.out hw2 _ _ _ _ _ _ _ _ _ _⟩
end Go.Proofs.Ytliighhedmfgjaa.Cmd
