/- The laws of chapter 3: their example. -/
import Derived.Test.YtjhlgfafjjmooaaDoorCread
import Derived.Test.YtjhlgfafjjmooaaDoorCshow
import Derived.Test.YtjhlgfafjjmooaaDoorPlWords
namespace Go.Proofs.YtjhlgfafjjmooaaDoor.Dot
open Go.RowKit Go.Proofs.YtjhlgfafjjmooaaDoor.PCidrTells Go.Proofs.YtjhlgfafjjmooaaDoorW.PrintWords Go.Proofs.YtjhlgfafjjmooaaDoorW.PrintLast Go.Proofs.YtjhlgfafjjmooaaDoorW.PrintMore

/-- What Show answers of a right prefix. -/
def showCB (hi lo : Nat) (n : Int) : ByteArray := showCT (wordsN hi lo) (bestZ (wordsN hi lo) 0 0 0).1 (bestZ (wordsN hi lo) 0 0 0).2 n
theorem showC_at (hi lo : Nat) (n : Int) (b : Bool) (w : World) (hE : Env2 w) (hh : hi < 18446744073709551616) (hl : lo < 18446744073709551616) (hn : -9223372036854775808 ≤ n ∧ n ≤ 9223372036854775807) (hb : addr_Right.f hi lo n = some b) :
    Calls Tryd.prog 21 #[.agg #[.int .u64 hi, .int .u64 lo, .int .i64 n]] w fun e w' => e = .returned (.string (if b = true then showCB hi lo n else ByteArray.empty)) ∧ Below w.heap.size w w' := by
  have hz := best_all (wordsN hi lo)
  exact showC_is hi lo n b (wordsN hi lo) _ _ 200 w hE hb (split_is hi lo 200 hh hl (by omega)) (zeros_is (wordsN hi lo) rfl 200 (by omega)) hz.1 hz.2.1 rfl (words_lt hi lo) hn
def exC : ByteArray := ⟨#[49, 58, 58, 47, 49, 54]⟩
theorem exC_read : readC exC = some (281474976710656, 0, 16, 0) := by kernel_rfl
theorem exC_right : addr_Right.f (281474976710656 : Nat) (0 : Nat) 16 = some true := by kernel_rfl
theorem exC_show : showCB 281474976710656 0 16 = exC := by kernel_rfl
theorem exZ_right : addr_Right.f (0 : Nat) (0 : Nat) 0 = some true := by kernel_rfl
theorem exZ_show : showCB 0 0 0 = ⟨#[58, 58, 47, 48]⟩ := by kernel_rfl

set_option maxRecDepth 20000 in
set_option maxHeartbeats 4000000 in
theorem aliveC_is (w : World) (hE : Env2 w) : Calls Tryd.prog 17 #[] w fun e w' => e = .returned (.bool true) ∧ Below w.heap.size w w' := by
  have H0 := Lib.hid hE
  clear hE
  go_enter Tryd.func17, Tryd.ntmps17
  go_wp2_with fail
  refine (readC_is exC 281474976710656 0 16 0 w H0.out.e (by decide) exC_read).mono ?_
  rintro e w1 ⟨rfl, b1⟩
  obtain ⟨w2, hw2⟩ : ∃ w2, w2 = w1.alloc (.cells #[.int .u64 281474976710656, .int .u64 0, .int .i64 16] 26 (0, 0)) := ⟨_, rfl⟩
  have k2 : w2.heap[w1.heap.size]? = some (.cells #[.int .u64 281474976710656, .int .u64 0, .int .i64 16] 26 (0, 0)) := by rw [hw2]; exact blk_new _ _
  have B2 := Lib.hid (show Below w.heap.size w w2 by rw [hw2]; exact below_alloc b1 _)
  go_upto_region 2 with (fail)
  rw [← hw2]
  clear hw2 b1
  have K2 := Lib.hid k2
  clear k2
  go_wp2_with fail
  refine (showC_at 0 0 0 true _ (H0.out.below B2.out) (by decide) (by decide) ⟨by decide, by decide⟩ exZ_right).mono ?_
  rw [if_pos rfl, exZ_show]
  rintro e w3 ⟨rfl, b3⟩
  have B3 := Lib.hid (B2.out.trans (b3.mono B2.out.size))
  have K3 := Lib.hid (blk_below K2.out b3)
  clear b3 B2 K2
  go_wp2_with fail
  refine (flocculuslaw3_num.calls 0 0 w3 rfl).mono ?_
  rintro e w4 ⟨rfl, ⟨n4, hw4⟩⟩
  have b4 : Below w3.heap.size w3 w4 := by rw [hw4]; exact pw_below_drewN (Below.refl _ _) n4
  have B4 := Lib.hid (B3.out.trans (b4.mono B3.out.size))
  have K4 := Lib.hid (blk_below K3.out b4)
  clear hw4 b4 B3 K3
  have q0 := blk_cell K4.out 0
  have q1 := blk_cell K4.out 1
  have q2 := blk_cell K4.out 2
  simp only [List.getElem?_toArray, List.getElem?_cons_zero, List.getElem?_cons_succ] at q0 q1 q2
  go_wp2_with fail
  refine (showC_at 281474976710656 0 16 true w4 (H0.out.below B4.out) (by decide) (by decide) ⟨by decide, by decide⟩ exC_right).mono ?_
  rw [if_pos rfl, exC_show]
  rintro e w5 ⟨rfl, b5⟩
  have B5 := Lib.hid (B4.out.trans (b5.mono B4.out.size))
  unfold exC
  clear b5
  go_wp2
  go_ret
  exact ⟨rfl, B5.out⟩
end Go.Proofs.YtjhlgfafjjmooaaDoor.Dot
