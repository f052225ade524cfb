/- The law CommandLimits: the walk through its code. -/
import Derived.Test.YtliighhedmfgjaaAl
namespace Go.Proofs.Ytliighhedmfgjaa.Cmd
open Go.RowKit Go.Proofs.Ytliighhedmfgjaa.PRefC Go.Proofs.YtliighhedmfgjaaW.PrintWords Go.Proofs.YtliighhedmfgjaaW.PrintLast Go.Proofs.YtliighhedmfgjaaW.PrintMore

set_option maxRecDepth 20000 in
set_option maxHeartbeats 4000000 in
theorem limits_out (w : World) (which : Int) (over : Bool) (h : which < 0 ∨ 7 < which) : Calls Try.prog 4 #[.int .i64 which, .bool over] w fun e w' => e = .returned (.bool true) ∧ Below w.heap.size w w' := by
  by_cases h0 : which < 0
  · clear h
    go_enter Try.func4, Try.ntmps4
    go_wp2_with fail
    refine (alive_is w).mono ?_
    rintro e w1 ⟨rfl, hB⟩
    go_wp2
    go_ret
    exact ⟨rfl, hB⟩
  · have h1 : 7 < which := by omega
    clear h
    go_enter Try.func4, Try.ntmps4
    go_wp2_with fail
    refine (alive_is w).mono ?_
    rintro e w1 ⟨rfl, hB⟩
    go_wp2
    go_ret
    exact ⟨rfl, hB⟩

set_option maxRecDepth 20000 in
set_option maxHeartbeats 4000000 in
theorem limits_0_false (w : World) : Calls Try.prog 4 #[.int .i64 0, .bool false] w fun e w' => e = .returned (.bool true) ∧ Below w.heap.size w w' := by
  have hlen : (encP ⟨1, 2147483647, 0, ⟨⟨0, 0⟩, 0⟩, ⟨0, 0⟩, 0, []⟩).length = 22 := by kernel_rfl
  go_enter Try.func4, Try.ntmps4
  go_wp2_with fail
  refine (alive_is w).mono ?_
  rintro e w1 ⟨rfl, hB⟩
  have HB := Lib.hid hB
  clear hB
  go_wp2_with fail
  refine (bytes_is _ 1 2147483647 0 0 0 0 0 0 0 none 0 [] (Kd.C_nil _ _) ⟨⟨⟨by decide, by decide⟩, ⟨by decide, by decide⟩⟩, ⟨by decide, by decide⟩, ⟨by decide, by decide⟩, ⟨by decide, by decide⟩⟩ (fun x hx => by cases hx) (by decide)).mono ?_
  rintro e w2 ⟨v2, rfl, hr2, hB2⟩
  obtain ⟨A2, c2, he2⟩ := Kd.R_slice hr2
  subst he2
  rw [hlen]
  have HB2 := Lib.hid ((below_alloc HB.out _).trans (hB2.mono (below_alloc HB.out _).size))
  clear hr2 hB2
  go_wp2
  go_ret
  exact ⟨by simp, HB2.out⟩

set_option maxRecDepth 20000 in
set_option maxHeartbeats 4000000 in
theorem limits_0_true (w : World) : Calls Try.prog 4 #[.int .i64 0, .bool true] w fun e w' => e = .returned (.bool true) ∧ Below w.heap.size w w' := by
  have hlen : (encP ⟨1, 2147483648, 0, ⟨⟨0, 0⟩, 0⟩, ⟨0, 0⟩, 0, []⟩).length = 0 := by kernel_rfl
  go_enter Try.func4, Try.ntmps4
  go_wp2_with fail
  refine (alive_is w).mono ?_
  rintro e w1 ⟨rfl, hB⟩
  have HB := Lib.hid hB
  clear hB
  go_wp2_with fail
  refine (bytes_is _ 1 2147483648 0 0 0 0 0 0 0 none 0 [] (Kd.C_nil _ _) ⟨⟨⟨by decide, by decide⟩, ⟨by decide, by decide⟩⟩, ⟨by decide, by decide⟩, ⟨by decide, by decide⟩, ⟨by decide, by decide⟩⟩ (fun x hx => by cases hx) (by decide)).mono ?_
  rintro e w2 ⟨v2, rfl, hr2, hB2⟩
  obtain ⟨A2, c2, he2⟩ := Kd.R_slice hr2
  subst he2
  rw [hlen]
  have HB2 := Lib.hid ((below_alloc HB.out _).trans (hB2.mono (below_alloc HB.out _).size))
  clear hr2 hB2
  go_wp2
  go_ret
  exact ⟨by simp, HB2.out⟩

set_option maxRecDepth 20000 in
set_option maxHeartbeats 4000000 in
theorem limits_1_false (w : World) : Calls Try.prog 4 #[.int .i64 1, .bool false] w fun e w' => e = .returned (.bool true) ∧ Below w.heap.size w w' := by
  have hlen : (encP ⟨1, 0, 0, ⟨⟨0, 0⟩, 0⟩, ⟨0, 0⟩, 0, []⟩).length = 22 := by kernel_rfl
  go_enter Try.func4, Try.ntmps4
  go_wp2_with fail
  refine (alive_is w).mono ?_
  rintro e w1 ⟨rfl, hB⟩
  have HB := Lib.hid hB
  clear hB
  go_wp2_with fail
  refine (bytes_is _ 1 0 0 0 0 0 0 0 0 none 0 [] (Kd.C_nil _ _) ⟨⟨⟨by decide, by decide⟩, ⟨by decide, by decide⟩⟩, ⟨by decide, by decide⟩, ⟨by decide, by decide⟩, ⟨by decide, by decide⟩⟩ (fun x hx => by cases hx) (by decide)).mono ?_
  rintro e w2 ⟨v2, rfl, hr2, hB2⟩
  obtain ⟨A2, c2, he2⟩ := Kd.R_slice hr2
  subst he2
  rw [hlen]
  have HB2 := Lib.hid ((below_alloc HB.out _).trans (hB2.mono (below_alloc HB.out _).size))
  clear hr2 hB2
  go_wp2
  go_ret
  exact ⟨by simp, HB2.out⟩

set_option maxRecDepth 20000 in
set_option maxHeartbeats 4000000 in
theorem limits_1_true (w : World) : Calls Try.prog 4 #[.int .i64 1, .bool true] w fun e w' => e = .returned (.bool true) ∧ Below w.heap.size w w' := by
  have hlen : (encP ⟨1, (-1), 0, ⟨⟨0, 0⟩, 0⟩, ⟨0, 0⟩, 0, []⟩).length = 0 := by kernel_rfl
  go_enter Try.func4, Try.ntmps4
  go_wp2_with fail
  refine (alive_is w).mono ?_
  rintro e w1 ⟨rfl, hB⟩
  have HB := Lib.hid hB
  clear hB
  go_wp2_with fail
  refine (bytes_is _ 1 (-1) 0 0 0 0 0 0 0 none 0 [] (Kd.C_nil _ _) ⟨⟨⟨by decide, by decide⟩, ⟨by decide, by decide⟩⟩, ⟨by decide, by decide⟩, ⟨by decide, by decide⟩, ⟨by decide, by decide⟩⟩ (fun x hx => by cases hx) (by decide)).mono ?_
  rintro e w2 ⟨v2, rfl, hr2, hB2⟩
  obtain ⟨A2, c2, he2⟩ := Kd.R_slice hr2
  subst he2
  rw [hlen]
  have HB2 := Lib.hid ((below_alloc HB.out _).trans (hB2.mono (below_alloc HB.out _).size))
  clear hr2 hB2
  go_wp2
  go_ret
  exact ⟨by simp, HB2.out⟩

set_option maxRecDepth 20000 in
set_option maxHeartbeats 4000000 in
theorem limits_2_false (w : World) : Calls Try.prog 4 #[.int .i64 2, .bool false] w fun e w' => e = .returned (.bool true) ∧ Below w.heap.size w w' := by
  have hlen : (encP ⟨1, 0, 0, ⟨⟨0, 0⟩, 255⟩, ⟨0, 0⟩, 0, []⟩).length = 22 := by kernel_rfl
  go_enter Try.func4, Try.ntmps4
  go_wp2_with fail
  refine (alive_is w).mono ?_
  rintro e w1 ⟨rfl, hB⟩
  have HB := Lib.hid hB
  clear hB
  go_wp2_with fail
  refine (bytes_is _ 1 0 0 0 0 255 0 0 0 none 0 [] (Kd.C_nil _ _) ⟨⟨⟨by decide, by decide⟩, ⟨by decide, by decide⟩⟩, ⟨by decide, by decide⟩, ⟨by decide, by decide⟩, ⟨by decide, by decide⟩⟩ (fun x hx => by cases hx) (by decide)).mono ?_
  rintro e w2 ⟨v2, rfl, hr2, hB2⟩
  obtain ⟨A2, c2, he2⟩ := Kd.R_slice hr2
  subst he2
  rw [hlen]
  have HB2 := Lib.hid ((below_alloc HB.out _).trans (hB2.mono (below_alloc HB.out _).size))
  clear hr2 hB2
  go_wp2
  go_ret
  exact ⟨by simp, HB2.out⟩

set_option maxRecDepth 20000 in
set_option maxHeartbeats 4000000 in
theorem limits_2_true (w : World) : Calls Try.prog 4 #[.int .i64 2, .bool true] w fun e w' => e = .returned (.bool true) ∧ Below w.heap.size w w' := by
  have hlen : (encP ⟨1, 0, 0, ⟨⟨0, 0⟩, 256⟩, ⟨0, 0⟩, 0, []⟩).length = 0 := by kernel_rfl
  go_enter Try.func4, Try.ntmps4
  go_wp2_with fail
  refine (alive_is w).mono ?_
  rintro e w1 ⟨rfl, hB⟩
  have HB := Lib.hid hB
  clear hB
  go_wp2_with fail
  refine (bytes_is _ 1 0 0 0 0 256 0 0 0 none 0 [] (Kd.C_nil _ _) ⟨⟨⟨by decide, by decide⟩, ⟨by decide, by decide⟩⟩, ⟨by decide, by decide⟩, ⟨by decide, by decide⟩, ⟨by decide, by decide⟩⟩ (fun x hx => by cases hx) (by decide)).mono ?_
  rintro e w2 ⟨v2, rfl, hr2, hB2⟩
  obtain ⟨A2, c2, he2⟩ := Kd.R_slice hr2
  subst he2
  rw [hlen]
  have HB2 := Lib.hid ((below_alloc HB.out _).trans (hB2.mono (below_alloc HB.out _).size))
  clear hr2 hB2
  go_wp2
  go_ret
  exact ⟨by simp, HB2.out⟩

set_option maxRecDepth 20000 in
set_option maxHeartbeats 4000000 in
theorem limits_3_false (w : World) : Calls Try.prog 4 #[.int .i64 3, .bool false] w fun e w' => e = .returned (.bool true) ∧ Below w.heap.size w w' := by
  have hlen : (encP ⟨4, 0, 2147483647, ⟨⟨0, 0⟩, 0⟩, ⟨0, 0⟩, 0, []⟩).length = 5 := by kernel_rfl
  go_enter Try.func4, Try.ntmps4
  go_wp2_with fail
  refine (alive_is w).mono ?_
  rintro e w1 ⟨rfl, hB⟩
  have HB := Lib.hid hB
  clear hB
  go_wp2_with fail
  refine (bytes_is _ 4 0 2147483647 0 0 0 0 0 0 none 0 [] (Kd.C_nil _ _) ⟨⟨⟨by decide, by decide⟩, ⟨by decide, by decide⟩⟩, ⟨by decide, by decide⟩, ⟨by decide, by decide⟩, ⟨by decide, by decide⟩⟩ (fun x hx => by cases hx) (by decide)).mono ?_
  rintro e w2 ⟨v2, rfl, hr2, hB2⟩
  obtain ⟨A2, c2, he2⟩ := Kd.R_slice hr2
  subst he2
  rw [hlen]
  have HB2 := Lib.hid ((below_alloc HB.out _).trans (hB2.mono (below_alloc HB.out _).size))
  clear hr2 hB2
  go_wp2
  go_ret
  exact ⟨by simp, HB2.out⟩

set_option maxRecDepth 20000 in
set_option maxHeartbeats 4000000 in
theorem limits_3_true (w : World) : Calls Try.prog 4 #[.int .i64 3, .bool true] w fun e w' => e = .returned (.bool true) ∧ Below w.heap.size w w' := by
  have hlen : (encP ⟨4, 0, 2147483648, ⟨⟨0, 0⟩, 0⟩, ⟨0, 0⟩, 0, []⟩).length = 0 := by kernel_rfl
  go_enter Try.func4, Try.ntmps4
  go_wp2_with fail
  refine (alive_is w).mono ?_
  rintro e w1 ⟨rfl, hB⟩
  have HB := Lib.hid hB
  clear hB
  go_wp2_with fail
  refine (bytes_is _ 4 0 2147483648 0 0 0 0 0 0 none 0 [] (Kd.C_nil _ _) ⟨⟨⟨by decide, by decide⟩, ⟨by decide, by decide⟩⟩, ⟨by decide, by decide⟩, ⟨by decide, by decide⟩, ⟨by decide, by decide⟩⟩ (fun x hx => by cases hx) (by decide)).mono ?_
  rintro e w2 ⟨v2, rfl, hr2, hB2⟩
  obtain ⟨A2, c2, he2⟩ := Kd.R_slice hr2
  subst he2
  rw [hlen]
  have HB2 := Lib.hid ((below_alloc HB.out _).trans (hB2.mono (below_alloc HB.out _).size))
  clear hr2 hB2
  go_wp2
  go_ret
  exact ⟨by simp, HB2.out⟩

set_option maxRecDepth 20000 in
set_option maxHeartbeats 4000000 in
theorem limits_4_false (w : World) : Calls Try.prog 4 #[.int .i64 4, .bool false] w fun e w' => e = .returned (.bool true) ∧ Below w.heap.size w w' := by
  have hlen : (encP ⟨8, 0, 0, ⟨⟨0, 0⟩, 0⟩, ⟨0, 0⟩, 0, []⟩).length = 1 := by kernel_rfl
  go_enter Try.func4, Try.ntmps4
  go_wp2_with fail
  refine (alive_is w).mono ?_
  rintro e w1 ⟨rfl, hB⟩
  have HB := Lib.hid hB
  clear hB
  go_wp2_with fail
  refine (bytes_is _ 8 0 0 0 0 0 0 0 0 none 0 [] (Kd.C_nil _ _) ⟨⟨⟨by decide, by decide⟩, ⟨by decide, by decide⟩⟩, ⟨by decide, by decide⟩, ⟨by decide, by decide⟩, ⟨by decide, by decide⟩⟩ (fun x hx => by cases hx) (by decide)).mono ?_
  rintro e w2 ⟨v2, rfl, hr2, hB2⟩
  obtain ⟨A2, c2, he2⟩ := Kd.R_slice hr2
  subst he2
  rw [hlen]
  have HB2 := Lib.hid ((below_alloc HB.out _).trans (hB2.mono (below_alloc HB.out _).size))
  clear hr2 hB2
  go_wp2
  go_ret
  exact ⟨by simp, HB2.out⟩

set_option maxRecDepth 20000 in
set_option maxHeartbeats 4000000 in
theorem limits_4_true (w : World) : Calls Try.prog 4 #[.int .i64 4, .bool true] w fun e w' => e = .returned (.bool true) ∧ Below w.heap.size w w' := by
  have hlen : (encP ⟨9, 0, 0, ⟨⟨0, 0⟩, 0⟩, ⟨0, 0⟩, 0, []⟩).length = 0 := by kernel_rfl
  go_enter Try.func4, Try.ntmps4
  go_wp2_with fail
  refine (alive_is w).mono ?_
  rintro e w1 ⟨rfl, hB⟩
  have HB := Lib.hid hB
  clear hB
  go_wp2_with fail
  refine (bytes_is _ 9 0 0 0 0 0 0 0 0 none 0 [] (Kd.C_nil _ _) ⟨⟨⟨by decide, by decide⟩, ⟨by decide, by decide⟩⟩, ⟨by decide, by decide⟩, ⟨by decide, by decide⟩, ⟨by decide, by decide⟩⟩ (fun x hx => by cases hx) (by decide)).mono ?_
  rintro e w2 ⟨v2, rfl, hr2, hB2⟩
  obtain ⟨A2, c2, he2⟩ := Kd.R_slice hr2
  subst he2
  rw [hlen]
  have HB2 := Lib.hid ((below_alloc HB.out _).trans (hB2.mono (below_alloc HB.out _).size))
  clear hr2 hB2
  go_wp2
  go_ret
  exact ⟨by simp, HB2.out⟩

set_option maxRecDepth 20000 in
set_option maxHeartbeats 4000000 in
theorem limits_5_false (w : World) : Calls Try.prog 4 #[.int .i64 5, .bool false] w fun e w' => e = .returned (.bool true) ∧ Below w.heap.size w w' := by
  have hlen : (encP ⟨1, 0, 0, ⟨⟨0, 0⟩, 0⟩, ⟨0, 0⟩, 0, []⟩).length = 22 := by kernel_rfl
  go_enter Try.func4, Try.ntmps4
  go_wp2_with fail
  refine (alive_is w).mono ?_
  rintro e w1 ⟨rfl, hB⟩
  have HB := Lib.hid hB
  clear hB
  go_wp2_with fail
  refine (bytes_is _ 1 0 0 0 0 0 0 0 0 none 0 [] (Kd.C_nil _ _) ⟨⟨⟨by decide, by decide⟩, ⟨by decide, by decide⟩⟩, ⟨by decide, by decide⟩, ⟨by decide, by decide⟩, ⟨by decide, by decide⟩⟩ (fun x hx => by cases hx) (by decide)).mono ?_
  rintro e w2 ⟨v2, rfl, hr2, hB2⟩
  obtain ⟨A2, c2, he2⟩ := Kd.R_slice hr2
  subst he2
  rw [hlen]
  have HB2 := Lib.hid ((below_alloc HB.out _).trans (hB2.mono (below_alloc HB.out _).size))
  clear hr2 hB2
  go_wp2
  go_ret
  exact ⟨by simp, HB2.out⟩

set_option maxRecDepth 20000 in
set_option maxHeartbeats 4000000 in
theorem limits_5_true (w : World) : Calls Try.prog 4 #[.int .i64 5, .bool true] w fun e w' => e = .returned (.bool true) ∧ Below w.heap.size w w' := by
  have hlen : (encP ⟨0, 0, 0, ⟨⟨0, 0⟩, 0⟩, ⟨0, 0⟩, 0, []⟩).length = 0 := by kernel_rfl
  go_enter Try.func4, Try.ntmps4
  go_wp2_with fail
  refine (alive_is w).mono ?_
  rintro e w1 ⟨rfl, hB⟩
  have HB := Lib.hid hB
  clear hB
  go_wp2_with fail
  refine (bytes_is _ 0 0 0 0 0 0 0 0 0 none 0 [] (Kd.C_nil _ _) ⟨⟨⟨by decide, by decide⟩, ⟨by decide, by decide⟩⟩, ⟨by decide, by decide⟩, ⟨by decide, by decide⟩, ⟨by decide, by decide⟩⟩ (fun x hx => by cases hx) (by decide)).mono ?_
  rintro e w2 ⟨v2, rfl, hr2, hB2⟩
  obtain ⟨A2, c2, he2⟩ := Kd.R_slice hr2
  subst he2
  rw [hlen]
  have HB2 := Lib.hid ((below_alloc HB.out _).trans (hB2.mono (below_alloc HB.out _).size))
  clear hr2 hB2
  go_wp2
  go_ret
  exact ⟨by simp, HB2.out⟩
end Go.Proofs.Ytliighhedmfgjaa.Cmd
