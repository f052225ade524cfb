/- The law ColonsWrong: it answers true, whatever comes in. -/
import Derived.Test.YtjhlgfafjjmooaaDoorCalive
namespace Go.Proofs.YtjhlgfafjjmooaaDoor.Dot
open Go.RowKit Go.Proofs.YtjhlgfafjjmooaaDoor.PCidrTells Go.Proofs.YtjhlgfafjjmooaaDoorW.PrintWords Go.Proofs.YtjhlgfafjjmooaaDoorW.PrintLast Go.Proofs.YtjhlgfafjjmooaaDoorW.PrintMore

def cwL : List ByteArray := [⟨#[58, 58, 47, 48]⟩, ⟨#[58, 47, 48]⟩, ⟨#[58, 58, 58, 47, 48]⟩, ⟨#[58, 58, 49, 58, 58, 47, 49, 50, 56]⟩, ⟨#[49, 58, 50, 58, 51, 58, 52, 58, 53, 58, 54, 58, 55, 58, 56, 47, 49, 50, 56]⟩, ⟨#[49, 58, 50, 58, 51, 58, 52, 58, 53, 58, 54, 58, 55, 58, 56, 58, 57, 47, 49, 50, 56]⟩, ⟨#[49, 58, 50, 58, 51, 58, 52, 58, 53, 58, 54, 58, 55, 47, 49, 50, 56]⟩, ⟨#[49, 58, 50, 58, 51, 58, 52, 58, 53, 58, 54, 58, 55, 58, 56, 58, 58, 47, 49, 50, 56]⟩, ⟨#[58, 58, 49, 58, 50, 58, 51, 58, 52, 58, 53, 58, 54, 58, 55, 58, 56, 47, 49, 50, 56]⟩, ⟨#[49, 58, 58, 50, 47, 49, 50, 55]⟩, ⟨#[49, 58, 58, 50, 47, 49, 50, 56]⟩, ⟨#[49, 50, 51, 52, 53, 58, 58, 47, 49, 54]⟩, ⟨#[103, 58, 58, 47, 49, 54]⟩, ⟨#[58, 58, 47, 49, 50, 57]⟩, ⟨#[58, 58, 47, 48, 48]⟩, ⟨#[58, 58]⟩, ⟨#[49, 58, 47, 49, 54]⟩, ⟨#[58, 49, 58, 58, 47, 49, 50, 56]⟩, ⟨#[58, 58, 47]⟩, ⟨#[49, 58, 58, 47, 49, 53]⟩]
def cwE : List Int := [0, 2, 2, 2, 0, 2, 2, 2, 2, 0, 0, 2, 2, 2, 2, 2, 2, 2, 2, 3]
def cwAt (i : Nat) : ByteArray := cwL.getD i ByteArray.empty
def ceAt (i : Nat) : Int := cwE.getD i 0
def cwOk (i : Nat) : Bool := match readC (cwAt i) with | some (_, _, _, e) => e == ceAt i | none => false
theorem cwAll : (List.range 20).all cwOk = true := by kernel_rfl
theorem cwSize : (List.range 20).all (fun i => decide ((cwAt i).size < 900000)) = true := by kernel_rfl
theorem cw_read (i : Nat) (h : i < 20) : (∃ r1 r2 r3, readC (cwAt i) = some (r1, r2, r3, ceAt i)) ∧ (cwAt i).size < 900000 := by
  have h1 := List.all_eq_true.mp cwAll i (List.mem_range.mpr h)
  have h2 := of_decide_eq_true (List.all_eq_true.mp cwSize i (List.mem_range.mpr h))
  refine ⟨?_, h2⟩
  unfold cwOk at h1
  cases hr : readC (cwAt i) with
  | none => rw [hr] at h1; simp at h1
  | some p =>
    obtain ⟨a, b, c, e⟩ := p
    rw [hr] at h1
    have he : e = ceAt i := by simpa using h1
    exact ⟨a, b, c, by rw [he]⟩
theorem cw_cell {W : World} {g : Nat} (h : W.heap[g]? = some (.cells #[.string ⟨#[58, 58, 47, 48]⟩, .string ⟨#[58, 47, 48]⟩, .string ⟨#[58, 58, 58, 47, 48]⟩, .string ⟨#[58, 58, 49, 58, 58, 47, 49, 50, 56]⟩, .string ⟨#[49, 58, 50, 58, 51, 58, 52, 58, 53, 58, 54, 58, 55, 58, 56, 47, 49, 50, 56]⟩, .string ⟨#[49, 58, 50, 58, 51, 58, 52, 58, 53, 58, 54, 58, 55, 58, 56, 58, 57, 47, 49, 50, 56]⟩, .string ⟨#[49, 58, 50, 58, 51, 58, 52, 58, 53, 58, 54, 58, 55, 47, 49, 50, 56]⟩, .string ⟨#[49, 58, 50, 58, 51, 58, 52, 58, 53, 58, 54, 58, 55, 58, 56, 58, 58, 47, 49, 50, 56]⟩, .string ⟨#[58, 58, 49, 58, 50, 58, 51, 58, 52, 58, 53, 58, 54, 58, 55, 58, 56, 47, 49, 50, 56]⟩, .string ⟨#[49, 58, 58, 50, 47, 49, 50, 55]⟩, .string ⟨#[49, 58, 58, 50, 47, 49, 50, 56]⟩, .string ⟨#[49, 50, 51, 52, 53, 58, 58, 47, 49, 54]⟩, .string ⟨#[103, 58, 58, 47, 49, 54]⟩, .string ⟨#[58, 58, 47, 49, 50, 57]⟩, .string ⟨#[58, 58, 47, 48, 48]⟩, .string ⟨#[58, 58]⟩, .string ⟨#[49, 58, 47, 49, 54]⟩, .string ⟨#[58, 49, 58, 58, 47, 49, 50, 56]⟩, .string ⟨#[58, 58, 47]⟩, .string ⟨#[49, 58, 58, 47, 49, 53]⟩] 9 (0, 0))) (i : Nat) (hi : i < 20) : W.cell? ⟨g, i, none⟩ = some (.string (cwAt i)) := by
  have h' : W.heap[g]? = some (.cells (cwL.map Value.string).toArray 9 (0, 0)) := h
  have hl : cwL.length = 20 := rfl
  have hc := blk_cell h' i
  rw [List.getElem?_toArray, List.getElem?_map, List.getElem?_eq_getElem (by omega), Option.map_some] at hc
  rw [hc]
  unfold cwAt
  rw [List.getD_eq_getElem?_getD, List.getElem?_eq_getElem (by omega)]
  rfl
theorem ce_cell {W : World} {g : Nat} (h : W.heap[g]? = some (.cells #[.int .i64 0, .int .i64 2, .int .i64 2, .int .i64 2, .int .i64 0, .int .i64 2, .int .i64 2, .int .i64 2, .int .i64 2, .int .i64 0, .int .i64 0, .int .i64 2, .int .i64 2, .int .i64 2, .int .i64 2, .int .i64 2, .int .i64 2, .int .i64 2, .int .i64 2, .int .i64 3] 3 (0, 0))) (i : Nat) (hi : i < 20) : W.cell? ⟨g, i, none⟩ = some (.int .i64 (ceAt i)) := by
  have h' : W.heap[g]? = some (.cells (cwE.map (Value.int .i64)).toArray 3 (0, 0)) := h
  have hl : cwE.length = 20 := rfl
  have hc := blk_cell h' i
  rw [List.getElem?_toArray, List.getElem?_map, List.getElem?_eq_getElem (by omega), Option.map_some] at hc
  rw [hc]
  unfold ceAt
  rw [List.getD_eq_getElem?_getD, List.getElem?_eq_getElem (by omega)]
  rfl

set_option maxRecDepth 20000 in
set_option maxHeartbeats 4000000 in
theorem cWrong_walk (n : Int) (_ : (Lit.int .i64 n).wf = true) (w : World) (hE : Env2 w) : Calls Tryd.prog 9 #[.int .i64 n] w fun e w' => e = .returned (.bool true) ∧ Below w.heap.size w w' := by
  have H0 := Lib.hid hE
  clear hE
  go_enter Tryd.func9, Tryd.ntmps9
  go_wp2_with fail
  refine (aliveC_is w H0.out).mono ?_
  rintro e w1 ⟨rfl, b1⟩
  have B1 := Lib.hid b1
  clear b1
  go_upto_region 4 with (fail)
  obtain ⟨w2, hw2⟩ : ∃ w2, w2 = (w1.alloc (.cells #[.string ⟨#[58, 58, 47, 48]⟩, .string ⟨#[58, 47, 48]⟩, .string ⟨#[58, 58, 58, 47, 48]⟩, .string ⟨#[58, 58, 49, 58, 58, 47, 49, 50, 56]⟩, .string ⟨#[49, 58, 50, 58, 51, 58, 52, 58, 53, 58, 54, 58, 55, 58, 56, 47, 49, 50, 56]⟩, .string ⟨#[49, 58, 50, 58, 51, 58, 52, 58, 53, 58, 54, 58, 55, 58, 56, 58, 57, 47, 49, 50, 56]⟩, .string ⟨#[49, 58, 50, 58, 51, 58, 52, 58, 53, 58, 54, 58, 55, 47, 49, 50, 56]⟩, .string ⟨#[49, 58, 50, 58, 51, 58, 52, 58, 53, 58, 54, 58, 55, 58, 56, 58, 58, 47, 49, 50, 56]⟩, .string ⟨#[58, 58, 49, 58, 50, 58, 51, 58, 52, 58, 53, 58, 54, 58, 55, 58, 56, 47, 49, 50, 56]⟩, .string ⟨#[49, 58, 58, 50, 47, 49, 50, 55]⟩, .string ⟨#[49, 58, 58, 50, 47, 49, 50, 56]⟩, .string ⟨#[49, 50, 51, 52, 53, 58, 58, 47, 49, 54]⟩, .string ⟨#[103, 58, 58, 47, 49, 54]⟩, .string ⟨#[58, 58, 47, 49, 50, 57]⟩, .string ⟨#[58, 58, 47, 48, 48]⟩, .string ⟨#[58, 58]⟩, .string ⟨#[49, 58, 47, 49, 54]⟩, .string ⟨#[58, 49, 58, 58, 47, 49, 50, 56]⟩, .string ⟨#[58, 58, 47]⟩, .string ⟨#[49, 58, 58, 47, 49, 53]⟩] 9 (0, 0))).alloc (.cells #[.int .i64 0, .int .i64 2, .int .i64 2, .int .i64 2, .int .i64 0, .int .i64 2, .int .i64 2, .int .i64 2, .int .i64 2, .int .i64 0, .int .i64 0, .int .i64 2, .int .i64 2, .int .i64 2, .int .i64 2, .int .i64 2, .int .i64 2, .int .i64 2, .int .i64 2, .int .i64 3] 3 (0, 0)) := ⟨_, rfl⟩
  have k1 : w2.heap[w1.heap.size]? = some (.cells #[.string ⟨#[58, 58, 47, 48]⟩, .string ⟨#[58, 47, 48]⟩, .string ⟨#[58, 58, 58, 47, 48]⟩, .string ⟨#[58, 58, 49, 58, 58, 47, 49, 50, 56]⟩, .string ⟨#[49, 58, 50, 58, 51, 58, 52, 58, 53, 58, 54, 58, 55, 58, 56, 47, 49, 50, 56]⟩, .string ⟨#[49, 58, 50, 58, 51, 58, 52, 58, 53, 58, 54, 58, 55, 58, 56, 58, 57, 47, 49, 50, 56]⟩, .string ⟨#[49, 58, 50, 58, 51, 58, 52, 58, 53, 58, 54, 58, 55, 47, 49, 50, 56]⟩, .string ⟨#[49, 58, 50, 58, 51, 58, 52, 58, 53, 58, 54, 58, 55, 58, 56, 58, 58, 47, 49, 50, 56]⟩, .string ⟨#[58, 58, 49, 58, 50, 58, 51, 58, 52, 58, 53, 58, 54, 58, 55, 58, 56, 47, 49, 50, 56]⟩, .string ⟨#[49, 58, 58, 50, 47, 49, 50, 55]⟩, .string ⟨#[49, 58, 58, 50, 47, 49, 50, 56]⟩, .string ⟨#[49, 50, 51, 52, 53, 58, 58, 47, 49, 54]⟩, .string ⟨#[103, 58, 58, 47, 49, 54]⟩, .string ⟨#[58, 58, 47, 49, 50, 57]⟩, .string ⟨#[58, 58, 47, 48, 48]⟩, .string ⟨#[58, 58]⟩, .string ⟨#[49, 58, 47, 49, 54]⟩, .string ⟨#[58, 49, 58, 58, 47, 49, 50, 56]⟩, .string ⟨#[58, 58, 47]⟩, .string ⟨#[49, 58, 58, 47, 49, 53]⟩] 9 (0, 0)) := by rw [hw2]; exact blk_alloc (blk_new _ _) _
  have k2 : w2.heap[w1.heap.size + 1]? = some (.cells #[.int .i64 0, .int .i64 2, .int .i64 2, .int .i64 2, .int .i64 0, .int .i64 2, .int .i64 2, .int .i64 2, .int .i64 2, .int .i64 0, .int .i64 0, .int .i64 2, .int .i64 2, .int .i64 2, .int .i64 2, .int .i64 2, .int .i64 2, .int .i64 2, .int .i64 2, .int .i64 3] 3 (0, 0)) := by
    have e : (w1.alloc (.cells #[.string ⟨#[58, 58, 47, 48]⟩, .string ⟨#[58, 47, 48]⟩, .string ⟨#[58, 58, 58, 47, 48]⟩, .string ⟨#[58, 58, 49, 58, 58, 47, 49, 50, 56]⟩, .string ⟨#[49, 58, 50, 58, 51, 58, 52, 58, 53, 58, 54, 58, 55, 58, 56, 47, 49, 50, 56]⟩, .string ⟨#[49, 58, 50, 58, 51, 58, 52, 58, 53, 58, 54, 58, 55, 58, 56, 58, 57, 47, 49, 50, 56]⟩, .string ⟨#[49, 58, 50, 58, 51, 58, 52, 58, 53, 58, 54, 58, 55, 47, 49, 50, 56]⟩, .string ⟨#[49, 58, 50, 58, 51, 58, 52, 58, 53, 58, 54, 58, 55, 58, 56, 58, 58, 47, 49, 50, 56]⟩, .string ⟨#[58, 58, 49, 58, 50, 58, 51, 58, 52, 58, 53, 58, 54, 58, 55, 58, 56, 47, 49, 50, 56]⟩, .string ⟨#[49, 58, 58, 50, 47, 49, 50, 55]⟩, .string ⟨#[49, 58, 58, 50, 47, 49, 50, 56]⟩, .string ⟨#[49, 50, 51, 52, 53, 58, 58, 47, 49, 54]⟩, .string ⟨#[103, 58, 58, 47, 49, 54]⟩, .string ⟨#[58, 58, 47, 49, 50, 57]⟩, .string ⟨#[58, 58, 47, 48, 48]⟩, .string ⟨#[58, 58]⟩, .string ⟨#[49, 58, 47, 49, 54]⟩, .string ⟨#[58, 49, 58, 58, 47, 49, 50, 56]⟩, .string ⟨#[58, 58, 47]⟩, .string ⟨#[49, 58, 58, 47, 49, 53]⟩] 9 (0, 0))).heap.size = w1.heap.size + 1 := by simp
    rw [hw2, ← e]; exact blk_new _ _
  have B2 := Lib.hid (show Below w.heap.size w w2 by rw [hw2]; exact below_alloc (below_alloc B1.out _) _)
  rw [← hw2]
  clear hw2
  have K1 := Lib.hid k1
  have K2 := Lib.hid k2
  clear k1 k2
  by_cases hn0 : n < 0
  · go_wp2
    go_ret
    exact ⟨rfl, B2.out⟩
  by_cases hn1 : 20 ≤ n
  · go_wp2
    go_ret
    exact ⟨rfl, B2.out⟩
  obtain ⟨i, rfl⟩ := Int.eq_ofNat_of_zero_le (show 0 ≤ n by omega)
  have hi : i < 20 := by omega
  obtain ⟨⟨r1, r2, r3, hr⟩, hsz⟩ := cw_read i hi
  have cx := cw_cell K1.out i hi
  have HR := Lib.hid hr
  have HSZ := Lib.hid hsz
  clear hr hsz
  obtain ⟨s, hs⟩ : ∃ s, s = cwAt i := ⟨_, rfl⟩
  rw [← hs] at cx
  have HS := Lib.hid hs
  clear hs
  go_wp2_with fail
  refine (readC_is s r1 r2 r3 (ceAt i) w2 (H0.out.below B2.out).e (by rw [HS.out]; exact HSZ.out) (by rw [HS.out]; exact HR.out)).mono ?_
  rintro e w3 ⟨rfl, b3⟩
  obtain ⟨v, hv⟩ : ∃ v, v = ceAt i := ⟨_, rfl⟩
  rw [← hv]
  obtain ⟨w4, hw4⟩ : ∃ w4, w4 = w3.alloc (.cells #[.int .u64 r1, .int .u64 r2, .int .i64 r3] 26 (0, 0)) := ⟨_, rfl⟩
  have b4 : Below w2.heap.size w2 w4 := by rw [hw4]; exact below_alloc b3 _
  have k4 := blk_below K2.out b4
  have ce := ce_cell k4 i hi
  rw [← hv] at ce
  have B4 := Lib.hid (B2.out.trans (b4.mono B2.out.size))
  have K4 := Lib.hid k4
  have HV := Lib.hid hv
  clear b3 b4 k4 hv cx
  go_upto_region 7 with (fail)
  rw [← hw4]
  clear hw4
  go_region_law (go_simp; go_at_call 20; refine (flocculuslaw3_num.calls v v _ rfl).mono ?_; rintro e w5 ⟨rfl, ⟨n5, rfl⟩⟩)
  all_goals go_wp2
  all_goals go_ret
  all_goals exact ⟨rfl, by repeat (first | exact B4.out | apply pw_below_drewN | apply below_drew)⟩
end Go.Proofs.YtjhlgfafjjmooaaDoor.Dot
