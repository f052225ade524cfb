/- The laws of chapter 2: their example. -/
import Derived.Test.YtjhlgfafjjmooaaDoorShow
namespace Go.Proofs.YtjhlgfafjjmooaaDoor.Dot
open Go.RowKit Go.Proofs.YtjhlgfafjjmooaaDoor.PCidrTells Go.Proofs.YtjhlgfafjjmooaaDoorW.PrintWords Go.Proofs.YtjhlgfafjjmooaaDoorW.PrintLast Go.Proofs.YtjhlgfafjjmooaaDoorW.PrintMore

def exB : ByteArray := ⟨#[49, 48, 46, 48, 46, 48, 46, 48, 47, 56]⟩
theorem ex_read : readP exB = some (720575940379279360, 0, 8, 0) := by kernel_rfl
theorem ex_right : addr_Right.f 720575940379279360 0 8 = some true := by kernel_rfl
theorem ex_show : showB 720575940379279360 8 = exB := by kernel_rfl

set_option maxRecDepth 20000 in
set_option maxHeartbeats 4000000 in
theorem alive_is (w : World) (hE : Env w) : Calls Tryd.prog 10 #[] w fun e w' => e = .returned (.bool true) ∧ Below w.heap.size w w' := by
  have H0 := Lib.hid hE
  clear hE
  go_enter Tryd.func10, Tryd.ntmps10
  go_wp2_with fail
  refine (read_is exB 720575940379279360 0 8 0 w H0.out (by decide) ex_read).mono ?_
  rintro e w1 ⟨rfl, b1⟩
  obtain ⟨w2, hw2⟩ : ∃ w2, w2 = w1.alloc (.cells #[.int .u64 720575940379279360, .int .u64 0, .int .i64 8] 26 (0, 0)) := ⟨_, rfl⟩
  have k2 : w2.heap[w1.heap.size]? = some (.cells #[.int .u64 720575940379279360, .int .u64 0, .int .i64 8] 26 (0, 0)) := by rw [hw2]; exact blk_new _ _
  have B2 := Lib.hid (show Below w.heap.size w w2 by rw [hw2]; exact below_alloc b1 _)
  go_upto_region 2 with (fail)
  rw [← hw2]
  clear hw2 b1
  have q0 := blk_cell k2 0
  have q1 := blk_cell k2 1
  have q2 := blk_cell k2 2
  simp only [List.getElem?_toArray, List.getElem?_cons_zero, List.getElem?_cons_succ] at q0 q1 q2
  have K2 := Lib.hid k2
  clear k2
  go_wp2_with fail
  refine (flocculuslaw2_num.calls 0 0 w2 rfl).mono ?_
  rintro e w3 ⟨rfl, ⟨n3, rfl⟩⟩
  have B3 := Lib.hid (pw_below_drewN B2.out n3)
  go_wp2_with fail
  refine (show_is 720575940379279360 0 8 true _ (H0.out.below B3.out) ⟨by decide, by decide⟩ ⟨by decide, by decide⟩ ex_right).mono ?_
  rintro e w4 ⟨rfl, b4⟩
  have hs : (if (true && decide ((8 : Int) ≤ 32)) = true then showB 720575940379279360 8 else ByteArray.empty) = ⟨#[49, 48, 46, 48, 46, 48, 46, 48, 47, 56]⟩ := ex_show
  rw [hs]
  have B4 := Lib.hid (B3.out.trans (b4.mono B3.out.size))
  clear hs b4
  go_wp2
  go_ret
  exact ⟨rfl, B4.out⟩
end Go.Proofs.YtjhlgfafjjmooaaDoor.Dot
