/- Package command: what Bytes answers. -/
import Derived.Test.YtliighhedmfgjaaWr3
namespace Go.Proofs.Ytliighhedmfgjaa.Cmd
open Go.RowKit Go.Proofs.Ytliighhedmfgjaa.PRefC Go.Proofs.YtliighhedmfgjaaW.PrintWords Go.Proofs.YtliighhedmfgjaaW.PrintLast Go.Proofs.YtliighhedmfgjaaW.PrintMore

/-- A number of four bytes. -/
def fitX (n : Int) : Bool := decide (n < 0) || decide (2147483647 < n)
def cmdB (x : S29) : List Int :=
  be 1 (w64 x.f0) ++ (if x.f0 = 1 then prefB x.f3.f0.f0 x.f3.f0.f1 x.f3.f1 ++ be 4 (w64 x.f1) else if x.f0 = 2 then prefB x.f3.f0.f0 x.f3.f0.f1 x.f3.f1 else if x.f0 = 3 then be 8 x.f4.f0 ++ be 8 x.f4.f1 else
    if x.f0 = 4 then be 4 (w64 x.f2) else if x.f0 = 6 then be 8 x.f5 ++ be 4 (w64 x.f2) else if x.f0 = 7 then batchB x.f6 else [])
def cmdX (x : S29) : Bool :=
  if x.f0 = 1 then prefX x.f3.f1 || fitX x.f1 else if x.f0 = 2 then prefX x.f3.f1 else if x.f0 = 3 then false else if x.f0 = 4 then fitX x.f2 else if x.f0 = 6 then fitX x.f2 else if x.f0 = 7 then batchX x.f6 else if x.f0 = 5 then false else if x.f0 = 8 then false else true
/-- The bytes of a command; nothing: it has none. -/
def encP (x : S29) : List Int := if cmdX x = true then [] else cmdB x
def okC (x : S29) : Prop := okA x ∧ u64 x.f4.f0 ∧ u64 x.f4.f1 ∧ u64 x.f5

theorem ws_new (w : World) (o : Obj) : WS w ((w.alloc o).alloc (.cells #[.slice none 0 0, .bool false] 52 (0, 0))) w.heap.size (w.heap.size + 1) [] false := by
  have h1 : (w.alloc o).heap.size = w.heap.size + 1 := by simp
  refine ⟨⟨.slice none 0 0, ?_, Kd.R_nil _ _ _ _ _⟩, below_alloc (below_alloc (Below.refl _ _) _) _, Nat.le_succ _, by simp; omega⟩
  have := blk_new (w.alloc o) (.cells #[.slice none 0 0, .bool false] 52 (0, 0))
  rw [h1] at this
  exact this

set_option maxRecDepth 20000 in
set_option maxHeartbeats 4000000 in
theorem bytes_is (w : World) (k hop nn phi plo plen ahi alo seed : Int) (A6 : Option Addr) (c6 : Nat) (l : List S29) (hC : k29.C w A6 l.length l) (hok : okC ⟨k, hop, nn, ⟨⟨phi, plo⟩, plen⟩, ⟨ahi, alo⟩, seed, l⟩) (hall : ∀ x ∈ l, okA x) (hmax : l.length ≤ 9223372036854775807) :
    Calls Try.prog 7 #[.agg #[.int .i64 k, .int .i64 hop, .int .i64 nn, .int .u64 phi, .int .u64 plo, .int .i64 plen, .int .u64 ahi, .int .u64 alo, .int .u64 seed, .slice A6 l.length c6]] w fun e w' => ∃ v, e = .returned v ∧ (Kd.int .u8).R 5 w' w.heap.size (fun _ => True) v (encP ⟨k, hop, nn, ⟨⟨phi, plo⟩, plen⟩, ⟨ahi, alo⟩, seed, l⟩) ∧ Below w.heap.size w w' := by
  have HC := Lib.hid hC
  have HALL := Lib.hid hall
  obtain ⟨⟨o1, o2⟩, o3, o4, o5⟩ := hok
  have HW := Lib.hid (ws_new w (.cells #[.int .i64 k, .int .i64 hop, .int .i64 nn, .int .u64 phi, .int .u64 plo, .int .i64 plen, .int .u64 ahi, .int .u64 alo, .int .u64 seed, .slice A6 l.length c6] 29 (0, 0)))
  clear hC hall
  dsimp only at o1 o2 o3 o4 o5
  by_cases e1 : k = 1
  · subst e1
    go_enter Try.func7, Try.ntmps7
    go_wp2_with fail
    refine (edit_is w _ _ _ 1 hop nn phi plo plen ahi alo seed A6 l.length c6 [] false HW.out o1 o2 (by simp)).mono ?_
    rintro e w1 ⟨rfl, s1, k1⟩
    go_wp2_with fail
    refine (all_is w _ _ _ _ _ s1).mono ?_
    rintro e w9 ⟨v, rfl, hr, rfl⟩
    go_wp2
    go_ret
    refine ⟨_, rfl, ?_, s1.bel⟩
    have e1 : encP ⟨1, hop, nn, ⟨⟨phi, plo⟩, plen⟩, ⟨ahi, alo⟩, seed, l⟩ = if ((prefX plen || fitX hop)) = true then [] else (be 1 (w64 1) ++ (prefB phi plo plen ++ be 4 (w64 hop))) := rfl
    rw [e1]
    exact hr
  by_cases e2 : k = 2
  · subst e2
    go_enter Try.func7, Try.ntmps7
    go_wp2_with fail
    refine (edit_is w _ _ _ 2 hop nn phi plo plen ahi alo seed A6 l.length c6 [] false HW.out o1 o2 (by simp)).mono ?_
    rintro e w1 ⟨rfl, s1, k1⟩
    go_wp2_with fail
    refine (all_is w _ _ _ _ _ s1).mono ?_
    rintro e w9 ⟨v, rfl, hr, rfl⟩
    go_wp2
    go_ret
    refine ⟨_, rfl, ?_, s1.bel⟩
    have e1 : encP ⟨2, hop, nn, ⟨⟨phi, plo⟩, plen⟩, ⟨ahi, alo⟩, seed, l⟩ = if ((prefX plen)) = true then [] else (be 1 (w64 2) ++ prefB phi plo plen) := rfl
    rw [e1]
    exact hr
  by_cases e3 : k = 3
  · subst e3
    go_enter Try.func7, Try.ntmps7
    go_wp2_with fail
    refine (put_is w _ _ _ 1 _ [] false HW.out (w64_range 3) (by omega) (by simp)).mono ?_
    rintro e w1 ⟨rfl, s1, k1⟩
    have hb := k1 w.heap.size _ 29 (blk_alloc (blk_new _ _) _) (by decide) (by omega)
    have q0 := blk_cell hb 0
    have q6 := blk_cell hb 6
    have q7 := blk_cell hb 7
    simp only [List.getElem?_toArray, List.getElem?_cons_zero, List.getElem?_cons_succ] at q0 q6 q7
    clear hb
    go_wp2_with fail
    refine (address_is w _ _ _ ahi alo _ _ s1 o3 o4 (by simp only [List.length_append, be_length, List.length_nil]; omega)).mono ?_
    rintro e w2 ⟨rfl, s2, k2⟩
    go_wp2_with fail
    refine (all_is w _ _ _ _ _ s2).mono ?_
    rintro e w9 ⟨v, rfl, hr, rfl⟩
    go_wp2
    go_ret
    refine ⟨_, rfl, ?_, s2.bel⟩
    have e1 : encP ⟨3, hop, nn, ⟨⟨phi, plo⟩, plen⟩, ⟨ahi, alo⟩, seed, l⟩ = if (false) = true then [] else (be 1 (w64 3) ++ (be 8 ahi ++ be 8 alo)) := rfl
    rw [e1]
    simp only [List.nil_append, List.append_assoc] at hr
    exact hr
  by_cases e4 : k = 4
  · subst e4
    go_enter Try.func7, Try.ntmps7
    go_wp2_with fail
    refine (put_is w _ _ _ 1 _ [] false HW.out (w64_range 4) (by omega) (by simp)).mono ?_
    rintro e w1 ⟨rfl, s1, k1⟩
    have hb := k1 w.heap.size _ 29 (blk_alloc (blk_new _ _) _) (by decide) (by omega)
    have q0 := blk_cell hb 0
    have q2 := blk_cell hb 2
    simp only [List.getElem?_toArray, List.getElem?_cons_zero, List.getElem?_cons_succ] at q0 q2
    clear hb
    go_wp2_with fail
    refine (number_is w _ _ _ 4 nn 2147483647 _ _ s1 (by omega) (by simp only [List.length_append, be_length, List.length_nil]; omega)).mono ?_
    rintro e w2 ⟨rfl, s2, k2⟩
    go_wp2_with fail
    refine (all_is w _ _ _ _ _ s2).mono ?_
    rintro e w9 ⟨v, rfl, hr, rfl⟩
    go_wp2
    go_ret
    refine ⟨_, rfl, ?_, s2.bel⟩
    have e1 : encP ⟨4, hop, nn, ⟨⟨phi, plo⟩, plen⟩, ⟨ahi, alo⟩, seed, l⟩ = if (fitX nn) = true then [] else (be 1 (w64 4) ++ be 4 (w64 nn)) := rfl
    rw [e1]
    exact hr
  by_cases e6 : k = 6
  · subst e6
    go_enter Try.func7, Try.ntmps7
    go_wp2_with fail
    refine (put_is w _ _ _ 1 _ [] false HW.out (w64_range 6) (by omega) (by simp)).mono ?_
    rintro e w1 ⟨rfl, s1, k1⟩
    have hb := k1 w.heap.size _ 29 (blk_alloc (blk_new _ _) _) (by decide) (by omega)
    have q0 := blk_cell hb 0
    have q8 := blk_cell hb 8
    simp only [List.getElem?_toArray, List.getElem?_cons_zero, List.getElem?_cons_succ] at q0 q8
    have HB1 := Lib.hid hb
    clear hb
    go_wp2_with fail
    refine (put_is w _ _ _ 8 seed _ _ s1 o5 (by omega) (by simp only [List.length_append, be_length, List.length_nil]; omega)).mono ?_
    rintro e w2 ⟨rfl, s2, k2⟩
    have hb := k2 w.heap.size _ 29 HB1.out (by decide) (by omega)
    have r2 := blk_cell hb 2
    simp only [List.getElem?_toArray, List.getElem?_cons_zero, List.getElem?_cons_succ] at r2
    clear hb
    go_wp2_with fail
    refine (number_is w _ _ _ 4 nn 2147483647 _ _ s2 (by omega) (by simp only [List.length_append, be_length, List.length_nil]; omega)).mono ?_
    rintro e w3 ⟨rfl, s3, k3⟩
    go_wp2_with fail
    refine (all_is w _ _ _ _ _ s3).mono ?_
    rintro e w9 ⟨v, rfl, hr, rfl⟩
    go_wp2
    go_ret
    refine ⟨_, rfl, ?_, s3.bel⟩
    have e1 : encP ⟨6, hop, nn, ⟨⟨phi, plo⟩, plen⟩, ⟨ahi, alo⟩, seed, l⟩ = if (fitX nn) = true then [] else (be 1 (w64 6) ++ (be 8 seed ++ be 4 (w64 nn))) := rfl
    rw [e1]
    simp only [List.nil_append, List.append_assoc] at hr
    exact hr
  by_cases e7 : k = 7
  · subst e7
    go_enter Try.func7, Try.ntmps7
    go_wp2_with fail
    refine (put_is w _ _ _ 1 _ [] false HW.out (w64_range 7) (by omega) (by simp)).mono ?_
    rintro e w1 ⟨rfl, s1, k1⟩
    have hb := k1 w.heap.size _ 29 (blk_alloc (blk_new _ _) _) (by decide) (by omega)
    have q0 := blk_cell hb 0
    have q9 := blk_cell hb 9
    simp only [List.getElem?_toArray, List.getElem?_cons_zero, List.getElem?_cons_succ] at q0 q9
    clear hb
    go_wp2_with fail
    refine (batch_is w _ _ A6 c6 l _ s1 HC.out HALL.out (by simp only [List.length_append, be_length, List.length_nil]; omega) hmax).mono ?_
    rintro e w2 ⟨rfl, s2, k2⟩
    go_wp2_with fail
    refine (all_is w _ _ _ _ _ s2).mono ?_
    rintro e w9 ⟨v, rfl, hr, rfl⟩
    go_wp2
    go_ret
    refine ⟨_, rfl, ?_, s2.bel⟩
    have e1 : encP ⟨7, hop, nn, ⟨⟨phi, plo⟩, plen⟩, ⟨ahi, alo⟩, seed, l⟩ = if (batchX l) = true then [] else (be 1 (w64 7) ++ batchB l) := rfl
    rw [e1]
    exact hr
  by_cases e5 : k = 5
  · subst e5
    go_enter Try.func7, Try.ntmps7
    go_wp2_with fail
    refine (put_is w _ _ _ 1 _ [] false HW.out (w64_range 5) (by omega) (by simp)).mono ?_
    rintro e w1 ⟨rfl, s1, k1⟩
    have hb := k1 w.heap.size _ 29 (blk_alloc (blk_new _ _) _) (by decide) (by omega)
    have q0 := blk_cell hb 0
    simp only [List.getElem?_toArray, List.getElem?_cons_zero, List.getElem?_cons_succ] at q0
    clear hb
    go_wp2_with fail
    refine (all_is w _ _ _ _ _ s1).mono ?_
    rintro e w9 ⟨v, rfl, hr, rfl⟩
    go_wp2
    go_ret
    refine ⟨_, rfl, ?_, s1.bel⟩
    have e1 : encP ⟨5, hop, nn, ⟨⟨phi, plo⟩, plen⟩, ⟨ahi, alo⟩, seed, l⟩ = if (false) = true then [] else (be 1 (w64 5)) := rfl
    rw [e1]
    exact hr
  by_cases e8 : k = 8
  · subst e8
    go_enter Try.func7, Try.ntmps7
    go_wp2_with fail
    refine (put_is w _ _ _ 1 _ [] false HW.out (w64_range 8) (by omega) (by simp)).mono ?_
    rintro e w1 ⟨rfl, s1, k1⟩
    have hb := k1 w.heap.size _ 29 (blk_alloc (blk_new _ _) _) (by decide) (by omega)
    have q0 := blk_cell hb 0
    simp only [List.getElem?_toArray, List.getElem?_cons_zero, List.getElem?_cons_succ] at q0
    clear hb
    go_wp2_with fail
    refine (all_is w _ _ _ _ _ s1).mono ?_
    rintro e w9 ⟨v, rfl, hr, rfl⟩
    go_wp2
    go_ret
    refine ⟨_, rfl, ?_, s1.bel⟩
    have e1 : encP ⟨8, hop, nn, ⟨⟨phi, plo⟩, plen⟩, ⟨ahi, alo⟩, seed, l⟩ = if (false) = true then [] else (be 1 (w64 8)) := rfl
    rw [e1]
    exact hr
  have d1 : (k == 1) = false := beq_eq_false_iff_ne.mpr e1
  have d2 : (k == 2) = false := beq_eq_false_iff_ne.mpr e2
  have d3 : (k == 3) = false := beq_eq_false_iff_ne.mpr e3
  have d4 : (k == 4) = false := beq_eq_false_iff_ne.mpr e4
  have d5 : (k == 5) = false := beq_eq_false_iff_ne.mpr e5
  have d6 : (k == 6) = false := beq_eq_false_iff_ne.mpr e6
  have d7 : (k == 7) = false := beq_eq_false_iff_ne.mpr e7
  have d8 : (k == 8) = false := beq_eq_false_iff_ne.mpr e8
  go_enter Try.func7, Try.ntmps7
  go_wp2_with fail
  refine (put_is w _ _ _ 1 _ [] false HW.out (w64_range k) (by omega) (by simp)).mono ?_
  rintro e w1 ⟨rfl, s1, k1⟩
  have hb := k1 w.heap.size _ 29 (blk_alloc (blk_new _ _) _) (by decide) (by omega)
  have q0 := blk_cell hb 0
  simp only [List.getElem?_toArray, List.getElem?_cons_zero, List.getElem?_cons_succ] at q0
  clear hb
  obtain ⟨v0, hv0, _⟩ := s1.is
  have p1 := blk_cell hv0 1
  have f1 := blk_frozen hv0 1
  simp only [List.getElem?_toArray, List.getElem?_cons_zero, List.getElem?_cons_succ] at p1
  have S1 := Lib.hid (s1.setBad true)
  clear hv0 s1
  go_wp2_with fail
  refine (all_is w _ _ _ _ _ S1.out).mono ?_
  rintro e w9 ⟨v, rfl, hr, rfl⟩
  go_wp2
  go_ret
  refine ⟨_, rfl, ?_, S1.out.bel⟩
  have e9 : encP ⟨k, hop, nn, ⟨⟨phi, plo⟩, plen⟩, ⟨ahi, alo⟩, seed, l⟩ = [] := by
    unfold encP cmdX
    simp only [if_neg e1, if_neg e2, if_neg e3, if_neg e4, if_neg e5, if_neg e6, if_neg e7, if_neg e8, if_true]
  rw [e9]
  exact hr
end Go.Proofs.Ytliighhedmfgjaa.Cmd
