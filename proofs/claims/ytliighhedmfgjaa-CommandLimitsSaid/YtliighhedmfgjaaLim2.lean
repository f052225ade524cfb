/- The law CommandLimits: batches. -/
import Derived.Test.YtliighhedmfgjaaLim
namespace Go.Proofs.Ytliighhedmfgjaa.Cmd
open Go.RowKit Go.Proofs.Ytliighhedmfgjaa.PRefC Go.Proofs.YtliighhedmfgjaaW.PrintWords Go.Proofs.YtliighhedmfgjaaW.PrintLast Go.Proofs.YtliighhedmfgjaaW.PrintMore

theorem lit_R (W : World) (base g : Nat) (x : S29) (hx : x.f6 = []) (hb : base ≤ W.heap.size) (hg : g = W.heap.size) : k29.R 29 (W.alloc (.cells (cells29 x (.slice none 0 0)) 29 (0, 0))) base (fun j => W.heap.size ≤ j) (.slice (some ⟨g, 0, none⟩) 1 1) [x] := by
  subst hg
  have hM : k29.M (W.alloc (.cells (cells29 x (.slice none 0 0)) 29 (0, 0))) base (fun j => W.heap.size ≤ j ∧ some j ≠ (Value.slice (some ⟨W.heap.size, 0, none⟩) 1 1).ownBlock) x (cells29 x (.slice none 0 0)).toList :=
    k29_mkM _ _ _ x (by rw [hx]; exact Kd.R_nil _ _ _ _ _)
  exact ⟨fun j hj => by have : W.heap.size = j := by simpa [Value.ownBlock] using hj
                        omega, OwnRow.lit (R := k29.M (W.alloc (.cells (cells29 x (.slice none 0 0)) 29 (0, 0))) base (fun j => W.heap.size ≤ j ∧ some j ≠ (Value.slice (some ⟨W.heap.size, 0, none⟩) 1 1).ownBlock)) (ps := [x]) W base (inner := (cells29 x (.slice none 0 0)).toList) (Reps.front (p := x) hM rfl (Reps.none _ _) (List.append_nil _)) hb (by show 1 ≤ 9223372036854775807; decide)⟩

/-- A deletion of nothing. -/
def dz : S29 := ⟨2, 0, 0, z26, z24, 0, []⟩
set_option maxRecDepth 20000 in
set_option maxHeartbeats 4000000 in
theorem limits_7_false (w : World) : Calls Try.prog 4 #[.int .i64 7, .bool false] w fun e w' => e = .returned (.bool true) ∧ Below w.heap.size w w' := by
  have hlen : (encP ⟨7, 0, 0, ⟨⟨0, 0⟩, 0⟩, ⟨0, 0⟩, 0, [⟨2, 0, 0, z26, z24, 0, []⟩]⟩).length = 20 := by kernel_rfl
  go_enter Try.func4, Try.ntmps4
  go_wp2_with fail
  refine (alive_is w).mono ?_
  rintro e w1 ⟨rfl, hB⟩
  have HB := Lib.hid hB
  clear hB
  go_wp2_with fail
  refine (bytes_is _ 7 0 0 0 0 0 0 0 0 (some ⟨w1.heap.size + 1, 0, none⟩) 1 [⟨2, 0, 0, z26, z24, 0, []⟩] (R_lit29 (w1.alloc (.cells #[.int .i64 7, .int .i64 0, .int .i64 0, .int .u64 0, .int .u64 0, .int .i64 0, .int .u64 0, .int .u64 0, .int .u64 0, .slice (some ⟨w1.heap.size + 1, 0, none⟩) 1 1] 29 (0, 0))) w.heap.size (w1.heap.size + 1) ⟨2, 0, 0, z26, z24, 0, []⟩ rfl (Nat.le_trans HB.out.size (by simp)) (by simp)) ⟨⟨⟨by decide, by decide⟩, ⟨by decide, by decide⟩⟩, ⟨by decide, by decide⟩, ⟨by decide, by decide⟩, ⟨by decide, by decide⟩⟩ (fun x hx => by
    obtain rfl := List.mem_singleton.mp hx
    exact ⟨⟨by decide, by decide⟩, ⟨by decide, by decide⟩⟩) (by decide)).mono ?_
  rintro e w2 ⟨v2, rfl, hr2, hB2⟩
  obtain ⟨A2, c2, he2⟩ := Kd.R_slice hr2
  subst he2
  rw [hlen]
  have HB2 := Lib.hid ((below_alloc (below_alloc HB.out _) _).trans (hB2.mono (below_alloc (below_alloc HB.out _) _).size))
  clear hr2 hB2
  go_wp2
  go_ret
  exact ⟨by simp, HB2.out⟩

set_option maxRecDepth 20000 in
set_option maxHeartbeats 4000000 in
theorem limits_7_true (w : World) : Calls Try.prog 4 #[.int .i64 7, .bool true] w fun e w' => e = .returned (.bool true) ∧ Below w.heap.size w w' := by
  have hlen : (encP ⟨7, 0, 0, ⟨⟨0, 0⟩, 0⟩, ⟨0, 0⟩, 0, [⟨3, 0, 0, z26, z24, 0, []⟩]⟩).length = 0 := by kernel_rfl
  go_enter Try.func4, Try.ntmps4
  go_wp2_with fail
  refine (alive_is w).mono ?_
  rintro e w1 ⟨rfl, hB⟩
  have HB := Lib.hid hB
  clear hB
  go_wp2_with fail
  refine (bytes_is _ 7 0 0 0 0 0 0 0 0 (some ⟨w1.heap.size + 1, 0, none⟩) 1 [⟨3, 0, 0, z26, z24, 0, []⟩] (R_lit29 (w1.alloc (.cells #[.int .i64 7, .int .i64 0, .int .i64 0, .int .u64 0, .int .u64 0, .int .i64 0, .int .u64 0, .int .u64 0, .int .u64 0, .slice (some ⟨w1.heap.size + 1, 0, none⟩) 1 1] 29 (0, 0))) w.heap.size (w1.heap.size + 1) ⟨3, 0, 0, z26, z24, 0, []⟩ rfl (Nat.le_trans HB.out.size (by simp)) (by simp)) ⟨⟨⟨by decide, by decide⟩, ⟨by decide, by decide⟩⟩, ⟨by decide, by decide⟩, ⟨by decide, by decide⟩, ⟨by decide, by decide⟩⟩ (fun x hx => by
    obtain rfl := List.mem_singleton.mp hx
    exact ⟨⟨by decide, by decide⟩, ⟨by decide, by decide⟩⟩) (by decide)).mono ?_
  rintro e w2 ⟨v2, rfl, hr2, hB2⟩
  obtain ⟨A2, c2, he2⟩ := Kd.R_slice hr2
  subst he2
  rw [hlen]
  have HB2 := Lib.hid ((below_alloc (below_alloc HB.out _) _).trans (hB2.mono (below_alloc (below_alloc HB.out _) _).size))
  clear hr2 hB2
  go_wp2
  go_ret
  exact ⟨by simp, HB2.out⟩

set_option maxRecDepth 20000 in
set_option maxHeartbeats 4000000 in
theorem limits_6_false (w : World) : Calls Try.prog 4 #[.int .i64 6, .bool false] w fun e w' => e = .returned (.bool true) ∧ Below w.heap.size w w' := by
  have hlen : (encP ⟨7, 0, 0, ⟨⟨0, 0⟩, 0⟩, ⟨0, 0⟩, 0, List.replicate 20 dz⟩).length = 362 := by kernel_rfl
  go_enter Try.func4, Try.ntmps4
  go_wp2_with fail
  refine (alive_is w).mono ?_
  rintro e w1 ⟨rfl, hB⟩
  have HB := Lib.hid hB
  clear hB
  go_wp2_with fail
  obtain ⟨g7, hg7⟩ : ∃ g, g = w1.heap.size := ⟨_, rfl⟩
  have hge : w.heap.size ≤ g7 := by rw [hg7]; exact HB.out.size
  rw [← hg7]
  go_loopw [8] (fun vi wr => ∃ (i : Nat) (A : Option Addr) (c : Nat), i ≤ 20 ∧ vi = .int .i64 i ∧ Hid (Below w.heap.size w wr) ∧ Hid (wr.heap[g7]? = some (.cells #[.int .i64 7, .int .i64 0, .int .i64 0, .int .u64 0, .int .u64 0, .int .i64 0, .int .u64 0, .int .u64 0, .int .u64 0, .slice A i c] 29 (0, 0))) ∧ Hid (k29.R 29 wr w.heap.size (fun j => j ≠ g7) (.slice A i c) (List.replicate i dz))) (fun i _ => 20 - (intOf i).toNat)
  case atStart => exact ⟨0, none, 0, Nat.zero_le _, rfl, below_alloc HB.out _, (by rw [hg7]; exact blk_new _ _), Kd.R_nil _ _ _ _ _⟩
  case round =>
    clear hg7
    obtain ⟨i, A, c, hi, rfl, HW, HG, HR⟩ := hrel
    have q0 := blk_cell HG.out 0
    have q1 := blk_cell HG.out 1
    have q2 := blk_cell HG.out 2
    have q3 := blk_cell HG.out 3
    have q4 := blk_cell HG.out 4
    have q5 := blk_cell HG.out 5
    have q6 := blk_cell HG.out 6
    have q7 := blk_cell HG.out 7
    have q8 := blk_cell HG.out 8
    have q9 := blk_cell HG.out 9
    have f9 := fun j => blk_frozen HG.out j
    simp only [List.getElem?_toArray, List.getElem?_cons_zero, List.getElem?_cons_succ] at q0 q1 q2 q3 q4 q5 q6 q7 q8 q9
    by_cases hlt : i < 20
    · have hgl : g7 < wr.heap.size := blk_lt HG.out
      go_wp2_with (first
        | (at_builtin; refine Kd.R_append_rows (w0 := w) (Rr := k29.M (wr.alloc (.cells (cells29 dz (.slice none 0 0)) 29 (0, 0))) w.heap.size (fun _ => False)) k29 w.heap.size rfl _ _ 27 29 (.agg (cells29 z29 (.slice none 0 0))) 96 rfl Try.underlying27 info29 rfl (by decide) (by decide) (.slice A i c) (List.replicate i dz) [dz] (some ⟨wr.heap.size, 0, none⟩) 1 1 (fun j => j ≠ g7) (fun _ => False) rfl rfl (Kd.R_alloc HR.out _) (lit_reads wr w.heap.size _ dz rfl HW.out.size rfl) (fun x cs h => h) (fun _ hk => hk.elim) (fun k hk e => by have h2 : wr.heap.size ≤ k := Nat.le_trans (below_alloc (Below.refl wr.heap.size wr) _).size hk; omega) (below_alloc HW.out _) (below_alloc HW.out _).size (by rw [List.length_replicate]; omega) ?_; intro v5 w5 hown5 hB5 hg5 hat5; obtain ⟨A5, c5, he5⟩ := Kd.R_slice hown5; subst he5; have m5 := blk_grown (g := g7) (blk_alloc HG.out _) hg5 (fun e => HR.out.1 g7 e.symm rfl); have q9' := blk_cell m5 9; have f9' := blk_frozen m5 9; simp only [List.getElem?_toArray, List.getElem?_cons_zero, List.getElem?_cons_succ] at q9'; have M5 := Lib.hid m5; have O5 := Lib.hid hown5; have B5 := Lib.hid hB5; clear m5 hown5 hB5 hg5 hat5)
        | fail)
      go_roundw
      case rel =>
        have el : (List.replicate i dz ++ [dz]).length = i + 1 := by rw [List.length_append, List.length_replicate]; rfl
        have er : List.replicate i dz ++ [dz] = List.replicate (i + 1) dz := by rw [List.replicate_succ']
        have o5 := O5.out
        rw [el, er] at o5
        have h53 := blk_set M5.out 9 (.slice A5 (i + 1) c5)
        simp only [List.setIfInBounds_toArray, List.set_cons_zero, List.set_cons_succ] at h53
        refine ⟨i + 1, A5, c5, by omega, by go_num, ?_⟩
        first
          | exact ⟨B5.out.setCell hge _, h53, Kd.R_far (p := ⟨g7, 9, none⟩) o5 (fun j hj => hj) _⟩
          | (simp only [el, List.length_replicate]; exact ⟨B5.out.setCell hge _, h53, Kd.R_far (p := ⟨g7, 9, none⟩) o5 (fun j hj => hj) _⟩)
      case measure => simp [intOf]; omega
    · obtain rfl : i = 20 := by omega
      go_wp2_with fail
      refine (bytes_is _ 7 0 0 0 0 0 0 0 0 A c (List.replicate 20 dz) (Kd.R_reads' HR.out).2.2 ⟨⟨⟨by decide, by decide⟩, ⟨by decide, by decide⟩⟩, ⟨by decide, by decide⟩, ⟨by decide, by decide⟩, ⟨by decide, by decide⟩⟩ (fun x hx => by
        obtain rfl := (List.mem_replicate.mp hx).2
        exact ⟨⟨by decide, by decide⟩, ⟨by decide, by decide⟩⟩) (by decide)).mono ?_
      rintro e w2 ⟨v2, rfl, hr2, hB2⟩
      obtain ⟨A2, c2, he2⟩ := Kd.R_slice hr2
      subst he2
      rw [hlen]
      have HB2 := Lib.hid (HW.out.trans (hB2.mono HW.out.size))
      clear hr2 hB2
      go_wp2
      go_ret
      exact ⟨by simp, HB2.out⟩

set_option maxRecDepth 20000 in
set_option maxHeartbeats 4000000 in
theorem limits_6_true (w : World) : Calls Try.prog 4 #[.int .i64 6, .bool true] w fun e w' => e = .returned (.bool true) ∧ Below w.heap.size w w' := by
  have hlen : (encP ⟨7, 0, 0, ⟨⟨0, 0⟩, 0⟩, ⟨0, 0⟩, 0, List.replicate 21 dz⟩).length = 0 := by kernel_rfl
  go_enter Try.func4, Try.ntmps4
  go_wp2_with fail
  refine (alive_is w).mono ?_
  rintro e w1 ⟨rfl, hB⟩
  have HB := Lib.hid hB
  clear hB
  go_wp2_with fail
  obtain ⟨g7, hg7⟩ : ∃ g, g = w1.heap.size := ⟨_, rfl⟩
  have hge : w.heap.size ≤ g7 := by rw [hg7]; exact HB.out.size
  rw [← hg7]
  go_loopw [8] (fun vi wr => ∃ (i : Nat) (A : Option Addr) (c : Nat), i ≤ 21 ∧ vi = .int .i64 i ∧ Hid (Below w.heap.size w wr) ∧ Hid (wr.heap[g7]? = some (.cells #[.int .i64 7, .int .i64 0, .int .i64 0, .int .u64 0, .int .u64 0, .int .i64 0, .int .u64 0, .int .u64 0, .int .u64 0, .slice A i c] 29 (0, 0))) ∧ Hid (k29.R 29 wr w.heap.size (fun j => j ≠ g7) (.slice A i c) (List.replicate i dz))) (fun i _ => 21 - (intOf i).toNat)
  case atStart => exact ⟨0, none, 0, Nat.zero_le _, rfl, below_alloc HB.out _, (by rw [hg7]; exact blk_new _ _), Kd.R_nil _ _ _ _ _⟩
  case round =>
    clear hg7
    obtain ⟨i, A, c, hi, rfl, HW, HG, HR⟩ := hrel
    have q0 := blk_cell HG.out 0
    have q1 := blk_cell HG.out 1
    have q2 := blk_cell HG.out 2
    have q3 := blk_cell HG.out 3
    have q4 := blk_cell HG.out 4
    have q5 := blk_cell HG.out 5
    have q6 := blk_cell HG.out 6
    have q7 := blk_cell HG.out 7
    have q8 := blk_cell HG.out 8
    have q9 := blk_cell HG.out 9
    have f9 := fun j => blk_frozen HG.out j
    simp only [List.getElem?_toArray, List.getElem?_cons_zero, List.getElem?_cons_succ] at q0 q1 q2 q3 q4 q5 q6 q7 q8 q9
    by_cases hlt : i < 21
    · have hgl : g7 < wr.heap.size := blk_lt HG.out
      go_wp2_with (first
        | (at_builtin; refine Kd.R_append_rows (w0 := w) (Rr := k29.M (wr.alloc (.cells (cells29 dz (.slice none 0 0)) 29 (0, 0))) w.heap.size (fun _ => False)) k29 w.heap.size rfl _ _ 27 29 (.agg (cells29 z29 (.slice none 0 0))) 96 rfl Try.underlying27 info29 rfl (by decide) (by decide) (.slice A i c) (List.replicate i dz) [dz] (some ⟨wr.heap.size, 0, none⟩) 1 1 (fun j => j ≠ g7) (fun _ => False) rfl rfl (Kd.R_alloc HR.out _) (lit_reads wr w.heap.size _ dz rfl HW.out.size rfl) (fun x cs h => h) (fun _ hk => hk.elim) (fun k hk e => by have h2 : wr.heap.size ≤ k := Nat.le_trans (below_alloc (Below.refl wr.heap.size wr) _).size hk; omega) (below_alloc HW.out _) (below_alloc HW.out _).size (by rw [List.length_replicate]; omega) ?_; intro v5 w5 hown5 hB5 hg5 hat5; obtain ⟨A5, c5, he5⟩ := Kd.R_slice hown5; subst he5; have m5 := blk_grown (g := g7) (blk_alloc HG.out _) hg5 (fun e => HR.out.1 g7 e.symm rfl); have q9' := blk_cell m5 9; have f9' := blk_frozen m5 9; simp only [List.getElem?_toArray, List.getElem?_cons_zero, List.getElem?_cons_succ] at q9'; have M5 := Lib.hid m5; have O5 := Lib.hid hown5; have B5 := Lib.hid hB5; clear m5 hown5 hB5 hg5 hat5)
        | fail)
      go_roundw
      case rel =>
        have el : (List.replicate i dz ++ [dz]).length = i + 1 := by rw [List.length_append, List.length_replicate]; rfl
        have er : List.replicate i dz ++ [dz] = List.replicate (i + 1) dz := by rw [List.replicate_succ']
        have o5 := O5.out
        rw [el, er] at o5
        have h53 := blk_set M5.out 9 (.slice A5 (i + 1) c5)
        simp only [List.setIfInBounds_toArray, List.set_cons_zero, List.set_cons_succ] at h53
        refine ⟨i + 1, A5, c5, by omega, by go_num, ?_⟩
        first
          | exact ⟨B5.out.setCell hge _, h53, Kd.R_far (p := ⟨g7, 9, none⟩) o5 (fun j hj => hj) _⟩
          | (simp only [el, List.length_replicate]; exact ⟨B5.out.setCell hge _, h53, Kd.R_far (p := ⟨g7, 9, none⟩) o5 (fun j hj => hj) _⟩)
      case measure => simp [intOf]; omega
    · obtain rfl : i = 21 := by omega
      go_wp2_with fail
      refine (bytes_is _ 7 0 0 0 0 0 0 0 0 A c (List.replicate 21 dz) (Kd.R_reads' HR.out).2.2 ⟨⟨⟨by decide, by decide⟩, ⟨by decide, by decide⟩⟩, ⟨by decide, by decide⟩, ⟨by decide, by decide⟩, ⟨by decide, by decide⟩⟩ (fun x hx => by
        obtain rfl := (List.mem_replicate.mp hx).2
        exact ⟨⟨by decide, by decide⟩, ⟨by decide, by decide⟩⟩) (by decide)).mono ?_
      rintro e w2 ⟨v2, rfl, hr2, hB2⟩
      obtain ⟨A2, c2, he2⟩ := Kd.R_slice hr2
      subst he2
      rw [hlen]
      have HB2 := Lib.hid (HW.out.trans (hB2.mono HW.out.size))
      clear hr2 hB2
      go_wp2
      go_ret
      exact ⟨by simp, HB2.out⟩

theorem Limits_walk (which : Int) (_ : (Lit.int .i64 which).wf = true) (over : Bool) (w : World) : Calls Try.prog 4 #[.int .i64 which, .bool over] w fun e w' => e = .returned (.bool true) ∧ Below w.heap.size w w' := by
  by_cases h : which < 0 ∨ 7 < which
  · exact limits_out w which over h
  · have h' : which = 0 ∨ which = 1 ∨ which = 2 ∨ which = 3 ∨ which = 4 ∨ which = 5 ∨ which = 6 ∨ which = 7 := by omega
    rcases h' with rfl | rfl | rfl | rfl | rfl | rfl | rfl | rfl <;> cases over
    · exact limits_0_false w
    · exact limits_0_true w
    · exact limits_1_false w
    · exact limits_1_true w
    · exact limits_2_false w
    · exact limits_2_true w
    · exact limits_3_false w
    · exact limits_3_true w
    · exact limits_4_false w
    · exact limits_4_true w
    · exact limits_5_false w
    · exact limits_5_true w
    · exact limits_6_false w
    · exact limits_6_true w
    · exact limits_7_false w
    · exact limits_7_true w
end Go.Proofs.Ytliighhedmfgjaa.Cmd
