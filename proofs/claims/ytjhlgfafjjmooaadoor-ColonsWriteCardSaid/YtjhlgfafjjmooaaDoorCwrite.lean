/- The law ColonsWrite: it answers true, whatever comes in. -/
import Derived.Test.YtjhlgfafjjmooaaDoorCalive
import Derived.Deep.RegionHeld3
namespace Go.Proofs.YtjhlgfafjjmooaaDoor.Dot
open Go.RowKit Go.Proofs.YtjhlgfafjjmooaaDoor.PCidrTells Go.Proofs.YtjhlgfafjjmooaaDoorW.PrintWords Go.Proofs.YtjhlgfafjjmooaaDoorW.PrintLast Go.Proofs.YtjhlgfafjjmooaaDoorW.PrintMore

def rI : List ByteArray := [⟨#[48, 58, 48, 58, 48, 58, 48, 58, 48, 58, 48, 58, 48, 58, 48, 47, 48]⟩, ⟨#[49, 58, 48, 58, 48, 58, 48, 58, 48, 58, 48, 58, 48, 58, 49, 47, 49, 50, 56]⟩, ⟨#[49, 58, 48, 58, 48, 58, 50, 58, 48, 58, 48, 58, 48, 58, 51, 47, 49, 50, 56]⟩, ⟨#[48, 58, 48, 58, 49, 58, 48, 58, 48, 58, 50, 58, 51, 58, 52, 47, 49, 50, 56]⟩, ⟨#[49, 58, 48, 58, 50, 58, 48, 58, 51, 58, 48, 58, 52, 58, 48, 47, 49, 50, 56]⟩, ⟨#[48, 58, 49, 58, 50, 58, 51, 58, 52, 58, 53, 58, 54, 58, 55, 47, 49, 50, 56]⟩, ⟨#[65, 66, 67, 68, 58, 48, 48, 101, 102, 58, 48, 58, 58, 47, 52, 56]⟩, ⟨#[58, 58, 102, 102, 102, 102, 47, 49, 50, 56]⟩, ⟨#[49, 58, 50, 58, 51, 58, 52, 58, 53, 58, 54, 58, 55, 58, 58, 47, 49, 50, 56]⟩, ⟨#[48, 58, 48, 58, 48, 58, 49, 58, 48, 58, 48, 58, 48, 58, 48, 47, 54, 52]⟩]
def rO : List ByteArray := [⟨#[58, 58, 47, 48]⟩, ⟨#[49, 58, 58, 49, 47, 49, 50, 56]⟩, ⟨#[49, 58, 48, 58, 48, 58, 50, 58, 58, 51, 47, 49, 50, 56]⟩, ⟨#[58, 58, 49, 58, 48, 58, 48, 58, 50, 58, 51, 58, 52, 47, 49, 50, 56]⟩, ⟨#[49, 58, 48, 58, 50, 58, 48, 58, 51, 58, 48, 58, 52, 58, 48, 47, 49, 50, 56]⟩, ⟨#[48, 58, 49, 58, 50, 58, 51, 58, 52, 58, 53, 58, 54, 58, 55, 47, 49, 50, 56]⟩, ⟨#[97, 98, 99, 100, 58, 101, 102, 58, 58, 47, 52, 56]⟩, ⟨#[58, 58, 102, 102, 102, 102, 47, 49, 50, 56]⟩, ⟨#[49, 58, 50, 58, 51, 58, 52, 58, 53, 58, 54, 58, 55, 58, 48, 47, 49, 50, 56]⟩, ⟨#[48, 58, 48, 58, 48, 58, 49, 58, 58, 47, 54, 52]⟩]
def rV : List (Nat × Nat × Nat) := [(0, 0, 0), (281474976710656, 1, 128), (281474976710658, 3, 128), (65536, 8590131204, 128), (281474976841728, 844424930394112, 128), (4295098371, 1125921382072327, 128), (12379551977208545280, 0, 48), (0, 65535, 128), (281483566841860, 1407400653815808, 128), (1, 0, 64)]
def iAt (i : Nat) : ByteArray := rI.getD i ByteArray.empty
def oAt (i : Nat) : ByteArray := rO.getD i ByteArray.empty
def vAt (i : Nat) : Nat × Nat × Nat := rV.getD i (0, 0, 0)
def rOk (i : Nat) : Bool :=
  (readC (iAt i) == some (((vAt i).1 : Int), ((vAt i).2.1 : Int), ((vAt i).2.2 : Int), 0)) && ((readC (oAt i) == some (((vAt i).1 : Int), ((vAt i).2.1 : Int), ((vAt i).2.2 : Int), 0)) && ((addr_Right.f ((vAt i).1 : Int) ((vAt i).2.1 : Int) ((vAt i).2.2 : Int) == some true) && (((showCB (vAt i).1 (vAt i).2.1 ((vAt i).2.2 : Int)).data.toList == (oAt i).data.toList) && (decide ((iAt i).size < 900000) && (decide ((oAt i).size < 900000) && (decide ((vAt i).1 < 18446744073709551616) && (decide ((vAt i).2.1 < 18446744073709551616) && decide ((vAt i).2.2 ≤ 128))))))))
theorem rAll : (List.range 10).all rOk = true := by kernel_rfl
theorem r_facts (i : Nat) (h : i < 10) : readC (iAt i) = some (((vAt i).1 : Int), ((vAt i).2.1 : Int), ((vAt i).2.2 : Int), 0) ∧ readC (oAt i) = some (((vAt i).1 : Int), ((vAt i).2.1 : Int), ((vAt i).2.2 : Int), 0) ∧ addr_Right.f ((vAt i).1 : Int) ((vAt i).2.1 : Int) ((vAt i).2.2 : Int) = some true ∧ showCB (vAt i).1 (vAt i).2.1 ((vAt i).2.2 : Int) = oAt i ∧ (iAt i).size < 900000 ∧ (oAt i).size < 900000 ∧ (vAt i).1 < 18446744073709551616 ∧ (vAt i).2.1 < 18446744073709551616 ∧ (vAt i).2.2 ≤ 128 := by
  have h1 := List.all_eq_true.mp rAll i (List.mem_range.mpr h)
  unfold rOk at h1
  simp only [Bool.and_eq_true, beq_iff_eq, decide_eq_true_eq] at h1
  obtain ⟨a, b, c, d, e⟩ := h1
  exact ⟨a, b, c, ba_ext d, e⟩
theorem i_cell {W : World} {g : Nat} (h : W.heap[g]? = some (.cells #[.string ⟨#[48, 58, 48, 58, 48, 58, 48, 58, 48, 58, 48, 58, 48, 58, 48, 47, 48]⟩, .string ⟨#[49, 58, 48, 58, 48, 58, 48, 58, 48, 58, 48, 58, 48, 58, 49, 47, 49, 50, 56]⟩, .string ⟨#[49, 58, 48, 58, 48, 58, 50, 58, 48, 58, 48, 58, 48, 58, 51, 47, 49, 50, 56]⟩, .string ⟨#[48, 58, 48, 58, 49, 58, 48, 58, 48, 58, 50, 58, 51, 58, 52, 47, 49, 50, 56]⟩, .string ⟨#[49, 58, 48, 58, 50, 58, 48, 58, 51, 58, 48, 58, 52, 58, 48, 47, 49, 50, 56]⟩, .string ⟨#[48, 58, 49, 58, 50, 58, 51, 58, 52, 58, 53, 58, 54, 58, 55, 47, 49, 50, 56]⟩, .string ⟨#[65, 66, 67, 68, 58, 48, 48, 101, 102, 58, 48, 58, 58, 47, 52, 56]⟩, .string ⟨#[58, 58, 102, 102, 102, 102, 47, 49, 50, 56]⟩, .string ⟨#[49, 58, 50, 58, 51, 58, 52, 58, 53, 58, 54, 58, 55, 58, 58, 47, 49, 50, 56]⟩, .string ⟨#[48, 58, 48, 58, 48, 58, 49, 58, 48, 58, 48, 58, 48, 58, 48, 47, 54, 52]⟩] 9 (0, 0))) (i : Nat) (hi : i < 10) : W.cell? ⟨g, i, none⟩ = some (.string (iAt i)) := by
  have h' : W.heap[g]? = some (.cells (rI.map Value.string).toArray 9 (0, 0)) := h
  have hl : rI.length = 10 := rfl
  have hc := blk_cell h' i
  rw [List.getElem?_toArray, List.getElem?_map, List.getElem?_eq_getElem (by omega), Option.map_some] at hc
  rw [hc]
  unfold iAt
  rw [List.getD_eq_getElem?_getD, List.getElem?_eq_getElem (by omega)]
  rfl
theorem o_cell {W : World} {g : Nat} (h : W.heap[g]? = some (.cells #[.string ⟨#[58, 58, 47, 48]⟩, .string ⟨#[49, 58, 58, 49, 47, 49, 50, 56]⟩, .string ⟨#[49, 58, 48, 58, 48, 58, 50, 58, 58, 51, 47, 49, 50, 56]⟩, .string ⟨#[58, 58, 49, 58, 48, 58, 48, 58, 50, 58, 51, 58, 52, 47, 49, 50, 56]⟩, .string ⟨#[49, 58, 48, 58, 50, 58, 48, 58, 51, 58, 48, 58, 52, 58, 48, 47, 49, 50, 56]⟩, .string ⟨#[48, 58, 49, 58, 50, 58, 51, 58, 52, 58, 53, 58, 54, 58, 55, 47, 49, 50, 56]⟩, .string ⟨#[97, 98, 99, 100, 58, 101, 102, 58, 58, 47, 52, 56]⟩, .string ⟨#[58, 58, 102, 102, 102, 102, 47, 49, 50, 56]⟩, .string ⟨#[49, 58, 50, 58, 51, 58, 52, 58, 53, 58, 54, 58, 55, 58, 48, 47, 49, 50, 56]⟩, .string ⟨#[48, 58, 48, 58, 48, 58, 49, 58, 58, 47, 54, 52]⟩] 9 (0, 0))) (i : Nat) (hi : i < 10) : W.cell? ⟨g, i, none⟩ = some (.string (oAt i)) := by
  have h' : W.heap[g]? = some (.cells (rO.map Value.string).toArray 9 (0, 0)) := h
  have hl : rO.length = 10 := rfl
  have hc := blk_cell h' i
  rw [List.getElem?_toArray, List.getElem?_map, List.getElem?_eq_getElem (by omega), Option.map_some] at hc
  rw [hc]
  unfold oAt
  rw [List.getD_eq_getElem?_getD, List.getElem?_eq_getElem (by omega)]
  rfl

set_option maxRecDepth 20000 in
set_option maxHeartbeats 4000000 in
theorem Write_walk (n : Int) (_ : (Lit.int .i64 n).wf = true) (w : World) (hE : Env2 w) : Calls Tryd.prog 8 #[.int .i64 n] w fun e w' => e = .returned (.bool true) ∧ Below w.heap.size w w' := by
  have H0 := Lib.hid hE
  clear hE
  go_enter Tryd.func8, Tryd.ntmps8
  go_wp2_with fail
  refine (aliveC_is w H0.out).mono ?_
  rintro e w1 ⟨rfl, b1⟩
  have B1 := Lib.hid b1
  clear b1
  go_upto_region 4 with (fail)
  obtain ⟨w2, hw2⟩ : ∃ w2, w2 = (w1.alloc (.cells #[.string ⟨#[48, 58, 48, 58, 48, 58, 48, 58, 48, 58, 48, 58, 48, 58, 48, 47, 48]⟩, .string ⟨#[49, 58, 48, 58, 48, 58, 48, 58, 48, 58, 48, 58, 48, 58, 49, 47, 49, 50, 56]⟩, .string ⟨#[49, 58, 48, 58, 48, 58, 50, 58, 48, 58, 48, 58, 48, 58, 51, 47, 49, 50, 56]⟩, .string ⟨#[48, 58, 48, 58, 49, 58, 48, 58, 48, 58, 50, 58, 51, 58, 52, 47, 49, 50, 56]⟩, .string ⟨#[49, 58, 48, 58, 50, 58, 48, 58, 51, 58, 48, 58, 52, 58, 48, 47, 49, 50, 56]⟩, .string ⟨#[48, 58, 49, 58, 50, 58, 51, 58, 52, 58, 53, 58, 54, 58, 55, 47, 49, 50, 56]⟩, .string ⟨#[65, 66, 67, 68, 58, 48, 48, 101, 102, 58, 48, 58, 58, 47, 52, 56]⟩, .string ⟨#[58, 58, 102, 102, 102, 102, 47, 49, 50, 56]⟩, .string ⟨#[49, 58, 50, 58, 51, 58, 52, 58, 53, 58, 54, 58, 55, 58, 58, 47, 49, 50, 56]⟩, .string ⟨#[48, 58, 48, 58, 48, 58, 49, 58, 48, 58, 48, 58, 48, 58, 48, 47, 54, 52]⟩] 9 (0, 0))).alloc (.cells #[.string ⟨#[58, 58, 47, 48]⟩, .string ⟨#[49, 58, 58, 49, 47, 49, 50, 56]⟩, .string ⟨#[49, 58, 48, 58, 48, 58, 50, 58, 58, 51, 47, 49, 50, 56]⟩, .string ⟨#[58, 58, 49, 58, 48, 58, 48, 58, 50, 58, 51, 58, 52, 47, 49, 50, 56]⟩, .string ⟨#[49, 58, 48, 58, 50, 58, 48, 58, 51, 58, 48, 58, 52, 58, 48, 47, 49, 50, 56]⟩, .string ⟨#[48, 58, 49, 58, 50, 58, 51, 58, 52, 58, 53, 58, 54, 58, 55, 47, 49, 50, 56]⟩, .string ⟨#[97, 98, 99, 100, 58, 101, 102, 58, 58, 47, 52, 56]⟩, .string ⟨#[58, 58, 102, 102, 102, 102, 47, 49, 50, 56]⟩, .string ⟨#[49, 58, 50, 58, 51, 58, 52, 58, 53, 58, 54, 58, 55, 58, 48, 47, 49, 50, 56]⟩, .string ⟨#[48, 58, 48, 58, 48, 58, 49, 58, 58, 47, 54, 52]⟩] 9 (0, 0)) := ⟨_, rfl⟩
  have k1 : w2.heap[w1.heap.size]? = some (.cells #[.string ⟨#[48, 58, 48, 58, 48, 58, 48, 58, 48, 58, 48, 58, 48, 58, 48, 47, 48]⟩, .string ⟨#[49, 58, 48, 58, 48, 58, 48, 58, 48, 58, 48, 58, 48, 58, 49, 47, 49, 50, 56]⟩, .string ⟨#[49, 58, 48, 58, 48, 58, 50, 58, 48, 58, 48, 58, 48, 58, 51, 47, 49, 50, 56]⟩, .string ⟨#[48, 58, 48, 58, 49, 58, 48, 58, 48, 58, 50, 58, 51, 58, 52, 47, 49, 50, 56]⟩, .string ⟨#[49, 58, 48, 58, 50, 58, 48, 58, 51, 58, 48, 58, 52, 58, 48, 47, 49, 50, 56]⟩, .string ⟨#[48, 58, 49, 58, 50, 58, 51, 58, 52, 58, 53, 58, 54, 58, 55, 47, 49, 50, 56]⟩, .string ⟨#[65, 66, 67, 68, 58, 48, 48, 101, 102, 58, 48, 58, 58, 47, 52, 56]⟩, .string ⟨#[58, 58, 102, 102, 102, 102, 47, 49, 50, 56]⟩, .string ⟨#[49, 58, 50, 58, 51, 58, 52, 58, 53, 58, 54, 58, 55, 58, 58, 47, 49, 50, 56]⟩, .string ⟨#[48, 58, 48, 58, 48, 58, 49, 58, 48, 58, 48, 58, 48, 58, 48, 47, 54, 52]⟩] 9 (0, 0)) := by rw [hw2]; exact blk_alloc (blk_new _ _) _
  have k2 : w2.heap[w1.heap.size + 1]? = some (.cells #[.string ⟨#[58, 58, 47, 48]⟩, .string ⟨#[49, 58, 58, 49, 47, 49, 50, 56]⟩, .string ⟨#[49, 58, 48, 58, 48, 58, 50, 58, 58, 51, 47, 49, 50, 56]⟩, .string ⟨#[58, 58, 49, 58, 48, 58, 48, 58, 50, 58, 51, 58, 52, 47, 49, 50, 56]⟩, .string ⟨#[49, 58, 48, 58, 50, 58, 48, 58, 51, 58, 48, 58, 52, 58, 48, 47, 49, 50, 56]⟩, .string ⟨#[48, 58, 49, 58, 50, 58, 51, 58, 52, 58, 53, 58, 54, 58, 55, 47, 49, 50, 56]⟩, .string ⟨#[97, 98, 99, 100, 58, 101, 102, 58, 58, 47, 52, 56]⟩, .string ⟨#[58, 58, 102, 102, 102, 102, 47, 49, 50, 56]⟩, .string ⟨#[49, 58, 50, 58, 51, 58, 52, 58, 53, 58, 54, 58, 55, 58, 48, 47, 49, 50, 56]⟩, .string ⟨#[48, 58, 48, 58, 48, 58, 49, 58, 58, 47, 54, 52]⟩] 9 (0, 0)) := by
    have e : (w1.alloc (.cells #[.string ⟨#[48, 58, 48, 58, 48, 58, 48, 58, 48, 58, 48, 58, 48, 58, 48, 47, 48]⟩, .string ⟨#[49, 58, 48, 58, 48, 58, 48, 58, 48, 58, 48, 58, 48, 58, 49, 47, 49, 50, 56]⟩, .string ⟨#[49, 58, 48, 58, 48, 58, 50, 58, 48, 58, 48, 58, 48, 58, 51, 47, 49, 50, 56]⟩, .string ⟨#[48, 58, 48, 58, 49, 58, 48, 58, 48, 58, 50, 58, 51, 58, 52, 47, 49, 50, 56]⟩, .string ⟨#[49, 58, 48, 58, 50, 58, 48, 58, 51, 58, 48, 58, 52, 58, 48, 47, 49, 50, 56]⟩, .string ⟨#[48, 58, 49, 58, 50, 58, 51, 58, 52, 58, 53, 58, 54, 58, 55, 47, 49, 50, 56]⟩, .string ⟨#[65, 66, 67, 68, 58, 48, 48, 101, 102, 58, 48, 58, 58, 47, 52, 56]⟩, .string ⟨#[58, 58, 102, 102, 102, 102, 47, 49, 50, 56]⟩, .string ⟨#[49, 58, 50, 58, 51, 58, 52, 58, 53, 58, 54, 58, 55, 58, 58, 47, 49, 50, 56]⟩, .string ⟨#[48, 58, 48, 58, 48, 58, 49, 58, 48, 58, 48, 58, 48, 58, 48, 47, 54, 52]⟩] 9 (0, 0))).heap.size = w1.heap.size + 1 := by simp
    rw [hw2, ← e]; exact blk_new _ _
  have B2 := Lib.hid (show Below w.heap.size w w2 by rw [hw2]; exact below_alloc (below_alloc B1.out _) _)
  rw [← hw2]
  clear hw2
  have K1 := Lib.hid k1
  have K2 := Lib.hid k2
  clear k1 k2
  by_cases hn0 : n < 0
  · go_wp2
    go_ret
    exact ⟨rfl, B2.out⟩
  by_cases hn1 : 10 ≤ n
  · go_wp2
    go_ret
    exact ⟨rfl, B2.out⟩
  obtain ⟨i, rfl⟩ := Int.eq_ofNat_of_zero_le (show 0 ≤ n by omega)
  have hi : i < 10 := by omega
  obtain ⟨f1, f2, f3, f4, f5, f6, f7, f8, f9⟩ := r_facts i hi
  have cx := i_cell K1.out i hi
  obtain ⟨si, hsi⟩ : ∃ s, s = iAt i := ⟨_, rfl⟩
  obtain ⟨so, hso⟩ : ∃ s, s = oAt i := ⟨_, rfl⟩
  obtain ⟨a, ha⟩ : ∃ a, a = (vAt i).1 := ⟨_, rfl⟩
  obtain ⟨c, hc⟩ : ∃ a, a = (vAt i).2.1 := ⟨_, rfl⟩
  obtain ⟨p, hp⟩ : ∃ a, a = (vAt i).2.2 := ⟨_, rfl⟩
  have HSO := Lib.hid hso
  rw [← hsi] at cx f1 f5
  rw [← hso] at f2 f4 f6
  rw [← ha] at f1 f2 f3 f4 f7
  rw [← hc] at f1 f2 f3 f4 f8
  rw [← hp] at f1 f2 f3 f4 f9
  have F1 := Lib.hid f1
  have F2 := Lib.hid f2
  have F3 := Lib.hid f3
  have F4 := Lib.hid f4
  clear hsi hso ha hc hp f1 f2 f3 f4
  go_wp2_with fail
  refine (readC_is si a c p 0 w2 (H0.out.below B2.out).e f5 F1.out).mono ?_
  rintro e w3 ⟨rfl, b3⟩
  obtain ⟨w4, hw4⟩ : ∃ w4, w4 = w3.alloc (.cells #[.int .u64 a, .int .u64 c, .int .i64 p] 26 (0, 0)) := ⟨_, rfl⟩
  have b4 : Below w2.heap.size w2 w4 := by rw [hw4]; exact below_alloc b3 _
  have p4 : w4.heap[w3.heap.size]? = some (.cells #[.int .u64 a, .int .u64 c, .int .i64 p] 26 (0, 0)) := by rw [hw4]; exact blk_new _ _
  have B4 := Lib.hid (B2.out.trans (b4.mono B2.out.size))
  have K4 := Lib.hid (blk_below K2.out b4)
  have P4 := Lib.hid p4
  clear b3 b4 p4 cx B2 K1 K2
  go_upto_region 7 with (fail)
  rw [← hw4]
  clear hw4
  have cy := o_cell K4.out i hi
  rw [← HSO.out] at cy
  go_wp2_with fail
  refine (readC_is so a c p 0 w4 (H0.out.below B4.out).e f6 F2.out).mono ?_
  rintro e w5 ⟨rfl, b5⟩
  obtain ⟨w6, hw6⟩ : ∃ w6, w6 = w5.alloc (.cells #[.int .u64 a, .int .u64 c, .int .i64 p] 26 (0, 0)) := ⟨_, rfl⟩
  have b6 : Below w4.heap.size w4 w6 := by rw [hw6]; exact below_alloc b5 _
  have q6 : w6.heap[w5.heap.size]? = some (.cells #[.int .u64 a, .int .u64 c, .int .i64 p] 26 (0, 0)) := by rw [hw6]; exact blk_new _ _
  have B6 := Lib.hid (B4.out.trans (b6.mono B4.out.size))
  have K6 := Lib.hid (blk_below K4.out b6)
  have P6 := Lib.hid (blk_below P4.out b6)
  have Q6 := Lib.hid q6
  clear b5 b6 q6 cy B4 K4 P4
  go_upto_region 8 with (fail)
  rw [← hw6]
  clear hw6
  have p0 := blk_cell P6.out 0
  have p1 := blk_cell P6.out 1
  have p2 := blk_cell P6.out 2
  have q0 := blk_cell Q6.out 0
  have q1 := blk_cell Q6.out 1
  have q2 := blk_cell Q6.out 2
  have cz := o_cell K6.out i hi
  rw [← HSO.out] at cz
  simp only [List.getElem?_toArray, List.getElem?_cons_zero, List.getElem?_cons_succ] at p0 p1 p2 q0 q1 q2
  have S3 := Lib.hid (show ∀ (W : World) (_ : Env2 W), Calls Tryd.prog 21 #[.agg #[.int .u64 a, .int .u64 c, .int .i64 p]] W fun e W' => e = .returned (.string so) ∧ Below W.heap.size W W' from fun W hE =>
    (showC_at a c (p : Int) true W hE f7 f8 (by omega) F3.out).mono fun e W' h => ⟨by rw [h.1, if_pos rfl, F4.out], h.2⟩)
  clear F1 F2 F3 f5 f6 f7 f8
  go_region_held3 (fun w' => w'.cell? ⟨w3.heap.size, 0, none⟩ = some (.int .u64 a) ∧ w'.cell? ⟨w3.heap.size, 1, none⟩ = some (.int .u64 c) ∧ w'.cell? ⟨w3.heap.size, 2, none⟩ = some (.int .i64 p) ∧ w'.cell? ⟨w5.heap.size, 0, none⟩ = some (.int .u64 a) ∧ w'.cell? ⟨w5.heap.size, 1, none⟩ = some (.int .u64 c) ∧ w'.cell? ⟨w5.heap.size, 2, none⟩ = some (.int .i64 p) ∧ w'.cell? ⟨w1.heap.size + 1, i, none⟩ = some (.string so)) (go_keep)
    (first
      | (go_at_call 20; (with_reducible refine (flocculuslaw3_num.calls 0 0 _ rfl).mono ?_); rintro e w9 ⟨rfl, ⟨n9, rfl⟩⟩)
      | (go_at_call 21; (with_reducible refine (S3.out _ (H0.out.below (by repeat (first | exact B6.out | apply pw_below_drewN | apply below_drew)))).mono ?_); rintro e w10 ⟨rfl, b10⟩; have b11 : Below w6.heap.size w6 w10 := (pw_below_drewN (Below.refl _ _) _).trans b10; have p0 := (b11.cell (p := ⟨w3.heap.size, 0, none⟩) (blk_lt P6.out)).trans p0; have p1 := (b11.cell (p := ⟨w3.heap.size, 1, none⟩) (blk_lt P6.out)).trans p1; have p2 := (b11.cell (p := ⟨w3.heap.size, 2, none⟩) (blk_lt P6.out)).trans p2; have q0 := (b11.cell (p := ⟨w5.heap.size, 0, none⟩) (blk_lt Q6.out)).trans q0; have q1 := (b11.cell (p := ⟨w5.heap.size, 1, none⟩) (blk_lt Q6.out)).trans q1; have q2 := (b11.cell (p := ⟨w5.heap.size, 2, none⟩) (blk_lt Q6.out)).trans q2; have cz := (b11.cell (p := ⟨w1.heap.size + 1, i, none⟩) (blk_lt K6.out)).trans cz; have B11 := Lib.hid (B6.out.trans (b11.mono B6.out.size)); clear b10 b11))
  all_goals go_wp2
  all_goals go_ret
  all_goals exact ⟨rfl, B11.out⟩
end Go.Proofs.YtjhlgfafjjmooaaDoor.Dot
