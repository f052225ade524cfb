/- The law CidrWrong: it answers true, whatever comes in. -/
import Derived.Test.YtjhlgfafjjmooaaDoorAlive
namespace Go.Proofs.YtjhlgfafjjmooaaDoor.Dot
open Go.RowKit Go.Proofs.YtjhlgfafjjmooaaDoor.PCidrTells Go.Proofs.YtjhlgfafjjmooaaDoorW.PrintWords Go.Proofs.YtjhlgfafjjmooaaDoorW.PrintLast Go.Proofs.YtjhlgfafjjmooaaDoorW.PrintMore

def wL : List ByteArray := [⟨#[48, 46, 48, 46, 48, 46, 48, 47, 48]⟩, ⟨#[50, 53, 53, 46, 50, 53, 53, 46, 50, 53, 53, 46, 50, 53, 53, 47, 51, 50]⟩, ⟨#[49, 46, 50, 46, 51, 46, 52, 47, 51, 49]⟩, ⟨#[49, 46, 50, 46, 51, 46, 53, 47, 51, 49]⟩, ⟨#[49, 46, 50, 46, 51, 46, 52, 47, 51, 51]⟩, ⟨#[49, 46, 50, 46, 51, 47, 56]⟩, ⟨#[49, 46, 50, 46, 51, 46, 52, 46, 53, 47, 56]⟩, ⟨#[48, 49, 46, 48, 46, 48, 46, 48, 47, 56]⟩, ⟨#[49, 46, 48, 46, 48, 46, 48, 47, 48, 56]⟩, ⟨#[50, 53, 54, 46, 48, 46, 48, 46, 48, 47, 56]⟩, ⟨#[49, 46, 48, 46, 48, 46, 48]⟩, ⟨#[49, 46, 48, 46, 48, 46, 48, 47]⟩, ⟨#[47, 56]⟩, ⟨#[]⟩, ⟨#[32, 49, 46, 48, 46, 48, 46, 48, 47, 56]⟩, ⟨#[49, 46, 48, 46, 48, 46, 48, 47, 56, 47, 56]⟩, ⟨#[49, 46, 46, 48, 46, 48, 47, 56]⟩, ⟨#[49, 50, 56, 46, 48, 46, 48, 46, 48, 47, 48]⟩, ⟨#[49, 48, 46, 48, 46, 48, 46, 48, 47, 55]⟩, ⟨#[97, 46, 48, 46, 48, 46, 48, 47, 56]⟩]
def wE : List Int := [0, 0, 0, 3, 2, 2, 2, 2, 2, 2, 2, 2, 2, 2, 2, 2, 2, 3, 0, 2]
def wAt (i : Nat) : ByteArray := wL.getD i ByteArray.empty
def eAt (i : Nat) : Int := wE.getD i 0
def wOk (i : Nat) : Bool := match readP (wAt i) with | some (_, _, _, e) => e == eAt i | none => false
theorem wAll : (List.range 20).all wOk = true := by kernel_rfl
theorem wSize : (List.range 20).all (fun i => decide ((wAt i).size < 1000000)) = true := by kernel_rfl
theorem w_read (i : Nat) (h : i < 20) : (∃ r1 r2 r3, readP (wAt i) = some (r1, r2, r3, eAt i)) ∧ (wAt i).size < 1000000 := by
  have h1 := List.all_eq_true.mp wAll i (List.mem_range.mpr h)
  have h2 := of_decide_eq_true (List.all_eq_true.mp wSize i (List.mem_range.mpr h))
  refine ⟨?_, h2⟩
  unfold wOk at h1
  cases hr : readP (wAt i) with
  | none => rw [hr] at h1; simp at h1
  | some p =>
    obtain ⟨a, b, c, e⟩ := p
    rw [hr] at h1
    have he : e = eAt i := by simpa using h1
    exact ⟨a, b, c, by rw [he]⟩
theorem w_cell {W : World} {g : Nat} (h : W.heap[g]? = some (.cells #[.string ⟨#[48, 46, 48, 46, 48, 46, 48, 47, 48]⟩, .string ⟨#[50, 53, 53, 46, 50, 53, 53, 46, 50, 53, 53, 46, 50, 53, 53, 47, 51, 50]⟩, .string ⟨#[49, 46, 50, 46, 51, 46, 52, 47, 51, 49]⟩, .string ⟨#[49, 46, 50, 46, 51, 46, 53, 47, 51, 49]⟩, .string ⟨#[49, 46, 50, 46, 51, 46, 52, 47, 51, 51]⟩, .string ⟨#[49, 46, 50, 46, 51, 47, 56]⟩, .string ⟨#[49, 46, 50, 46, 51, 46, 52, 46, 53, 47, 56]⟩, .string ⟨#[48, 49, 46, 48, 46, 48, 46, 48, 47, 56]⟩, .string ⟨#[49, 46, 48, 46, 48, 46, 48, 47, 48, 56]⟩, .string ⟨#[50, 53, 54, 46, 48, 46, 48, 46, 48, 47, 56]⟩, .string ⟨#[49, 46, 48, 46, 48, 46, 48]⟩, .string ⟨#[49, 46, 48, 46, 48, 46, 48, 47]⟩, .string ⟨#[47, 56]⟩, .string ⟨#[]⟩, .string ⟨#[32, 49, 46, 48, 46, 48, 46, 48, 47, 56]⟩, .string ⟨#[49, 46, 48, 46, 48, 46, 48, 47, 56, 47, 56]⟩, .string ⟨#[49, 46, 46, 48, 46, 48, 47, 56]⟩, .string ⟨#[49, 50, 56, 46, 48, 46, 48, 46, 48, 47, 48]⟩, .string ⟨#[49, 48, 46, 48, 46, 48, 46, 48, 47, 55]⟩, .string ⟨#[97, 46, 48, 46, 48, 46, 48, 47, 56]⟩] 9 (0, 0))) (i : Nat) (hi : i < 20) : W.cell? ⟨g, i, none⟩ = some (.string (wAt i)) := by
  have h' : W.heap[g]? = some (.cells (wL.map Value.string).toArray 9 (0, 0)) := h
  have hl : wL.length = 20 := rfl
  have hc := blk_cell h' i
  rw [List.getElem?_toArray, List.getElem?_map, List.getElem?_eq_getElem (by omega), Option.map_some] at hc
  rw [hc]
  unfold wAt
  rw [List.getD_eq_getElem?_getD, List.getElem?_eq_getElem (by omega)]
  rfl
theorem e_cell {W : World} {g : Nat} (h : W.heap[g]? = some (.cells #[.int .i64 0, .int .i64 0, .int .i64 0, .int .i64 3, .int .i64 2, .int .i64 2, .int .i64 2, .int .i64 2, .int .i64 2, .int .i64 2, .int .i64 2, .int .i64 2, .int .i64 2, .int .i64 2, .int .i64 2, .int .i64 2, .int .i64 2, .int .i64 3, .int .i64 0, .int .i64 2] 3 (0, 0))) (i : Nat) (hi : i < 20) : W.cell? ⟨g, i, none⟩ = some (.int .i64 (eAt i)) := by
  have h' : W.heap[g]? = some (.cells (wE.map (Value.int .i64)).toArray 3 (0, 0)) := h
  have hl : wE.length = 20 := rfl
  have hc := blk_cell h' i
  rw [List.getElem?_toArray, List.getElem?_map, List.getElem?_eq_getElem (by omega), Option.map_some] at hc
  rw [hc]
  unfold eAt
  rw [List.getD_eq_getElem?_getD, List.getElem?_eq_getElem (by omega)]
  rfl

set_option maxRecDepth 20000 in
set_option maxHeartbeats 4000000 in
theorem Wrong_walk (n : Int) (_ : (Lit.int .i64 n).wf = true) (w : World) (hE : Env w) : Calls Tryd.prog 5 #[.int .i64 n] w fun e w' => e = .returned (.bool true) ∧ Below w.heap.size w w' := by
  have H0 := Lib.hid hE
  clear hE
  go_enter Tryd.func5, Tryd.ntmps5
  go_wp2_with fail
  refine (alive_is w H0.out).mono ?_
  rintro e w1 ⟨rfl, b1⟩
  have B1 := Lib.hid b1
  clear b1
  go_upto_region 4 with (fail)
  obtain ⟨w2, hw2⟩ : ∃ w2, w2 = (w1.alloc (.cells #[.string ⟨#[48, 46, 48, 46, 48, 46, 48, 47, 48]⟩, .string ⟨#[50, 53, 53, 46, 50, 53, 53, 46, 50, 53, 53, 46, 50, 53, 53, 47, 51, 50]⟩, .string ⟨#[49, 46, 50, 46, 51, 46, 52, 47, 51, 49]⟩, .string ⟨#[49, 46, 50, 46, 51, 46, 53, 47, 51, 49]⟩, .string ⟨#[49, 46, 50, 46, 51, 46, 52, 47, 51, 51]⟩, .string ⟨#[49, 46, 50, 46, 51, 47, 56]⟩, .string ⟨#[49, 46, 50, 46, 51, 46, 52, 46, 53, 47, 56]⟩, .string ⟨#[48, 49, 46, 48, 46, 48, 46, 48, 47, 56]⟩, .string ⟨#[49, 46, 48, 46, 48, 46, 48, 47, 48, 56]⟩, .string ⟨#[50, 53, 54, 46, 48, 46, 48, 46, 48, 47, 56]⟩, .string ⟨#[49, 46, 48, 46, 48, 46, 48]⟩, .string ⟨#[49, 46, 48, 46, 48, 46, 48, 47]⟩, .string ⟨#[47, 56]⟩, .string ⟨#[]⟩, .string ⟨#[32, 49, 46, 48, 46, 48, 46, 48, 47, 56]⟩, .string ⟨#[49, 46, 48, 46, 48, 46, 48, 47, 56, 47, 56]⟩, .string ⟨#[49, 46, 46, 48, 46, 48, 47, 56]⟩, .string ⟨#[49, 50, 56, 46, 48, 46, 48, 46, 48, 47, 48]⟩, .string ⟨#[49, 48, 46, 48, 46, 48, 46, 48, 47, 55]⟩, .string ⟨#[97, 46, 48, 46, 48, 46, 48, 47, 56]⟩] 9 (0, 0))).alloc (.cells #[.int .i64 0, .int .i64 0, .int .i64 0, .int .i64 3, .int .i64 2, .int .i64 2, .int .i64 2, .int .i64 2, .int .i64 2, .int .i64 2, .int .i64 2, .int .i64 2, .int .i64 2, .int .i64 2, .int .i64 2, .int .i64 2, .int .i64 2, .int .i64 3, .int .i64 0, .int .i64 2] 3 (0, 0)) := ⟨_, rfl⟩
  have k1 : w2.heap[w1.heap.size]? = some (.cells #[.string ⟨#[48, 46, 48, 46, 48, 46, 48, 47, 48]⟩, .string ⟨#[50, 53, 53, 46, 50, 53, 53, 46, 50, 53, 53, 46, 50, 53, 53, 47, 51, 50]⟩, .string ⟨#[49, 46, 50, 46, 51, 46, 52, 47, 51, 49]⟩, .string ⟨#[49, 46, 50, 46, 51, 46, 53, 47, 51, 49]⟩, .string ⟨#[49, 46, 50, 46, 51, 46, 52, 47, 51, 51]⟩, .string ⟨#[49, 46, 50, 46, 51, 47, 56]⟩, .string ⟨#[49, 46, 50, 46, 51, 46, 52, 46, 53, 47, 56]⟩, .string ⟨#[48, 49, 46, 48, 46, 48, 46, 48, 47, 56]⟩, .string ⟨#[49, 46, 48, 46, 48, 46, 48, 47, 48, 56]⟩, .string ⟨#[50, 53, 54, 46, 48, 46, 48, 46, 48, 47, 56]⟩, .string ⟨#[49, 46, 48, 46, 48, 46, 48]⟩, .string ⟨#[49, 46, 48, 46, 48, 46, 48, 47]⟩, .string ⟨#[47, 56]⟩, .string ⟨#[]⟩, .string ⟨#[32, 49, 46, 48, 46, 48, 46, 48, 47, 56]⟩, .string ⟨#[49, 46, 48, 46, 48, 46, 48, 47, 56, 47, 56]⟩, .string ⟨#[49, 46, 46, 48, 46, 48, 47, 56]⟩, .string ⟨#[49, 50, 56, 46, 48, 46, 48, 46, 48, 47, 48]⟩, .string ⟨#[49, 48, 46, 48, 46, 48, 46, 48, 47, 55]⟩, .string ⟨#[97, 46, 48, 46, 48, 46, 48, 47, 56]⟩] 9 (0, 0)) := by rw [hw2]; exact blk_alloc (blk_new _ _) _
  have k2 : w2.heap[w1.heap.size + 1]? = some (.cells #[.int .i64 0, .int .i64 0, .int .i64 0, .int .i64 3, .int .i64 2, .int .i64 2, .int .i64 2, .int .i64 2, .int .i64 2, .int .i64 2, .int .i64 2, .int .i64 2, .int .i64 2, .int .i64 2, .int .i64 2, .int .i64 2, .int .i64 2, .int .i64 3, .int .i64 0, .int .i64 2] 3 (0, 0)) := by
    have e : (w1.alloc (.cells #[.string ⟨#[48, 46, 48, 46, 48, 46, 48, 47, 48]⟩, .string ⟨#[50, 53, 53, 46, 50, 53, 53, 46, 50, 53, 53, 46, 50, 53, 53, 47, 51, 50]⟩, .string ⟨#[49, 46, 50, 46, 51, 46, 52, 47, 51, 49]⟩, .string ⟨#[49, 46, 50, 46, 51, 46, 53, 47, 51, 49]⟩, .string ⟨#[49, 46, 50, 46, 51, 46, 52, 47, 51, 51]⟩, .string ⟨#[49, 46, 50, 46, 51, 47, 56]⟩, .string ⟨#[49, 46, 50, 46, 51, 46, 52, 46, 53, 47, 56]⟩, .string ⟨#[48, 49, 46, 48, 46, 48, 46, 48, 47, 56]⟩, .string ⟨#[49, 46, 48, 46, 48, 46, 48, 47, 48, 56]⟩, .string ⟨#[50, 53, 54, 46, 48, 46, 48, 46, 48, 47, 56]⟩, .string ⟨#[49, 46, 48, 46, 48, 46, 48]⟩, .string ⟨#[49, 46, 48, 46, 48, 46, 48, 47]⟩, .string ⟨#[47, 56]⟩, .string ⟨#[]⟩, .string ⟨#[32, 49, 46, 48, 46, 48, 46, 48, 47, 56]⟩, .string ⟨#[49, 46, 48, 46, 48, 46, 48, 47, 56, 47, 56]⟩, .string ⟨#[49, 46, 46, 48, 46, 48, 47, 56]⟩, .string ⟨#[49, 50, 56, 46, 48, 46, 48, 46, 48, 47, 48]⟩, .string ⟨#[49, 48, 46, 48, 46, 48, 46, 48, 47, 55]⟩, .string ⟨#[97, 46, 48, 46, 48, 46, 48, 47, 56]⟩] 9 (0, 0))).heap.size = w1.heap.size + 1 := by simp
    rw [hw2, ← e]; exact blk_new _ _
  have B2 := Lib.hid (show Below w.heap.size w w2 by rw [hw2]; exact below_alloc (below_alloc B1.out _) _)
  rw [← hw2]
  clear hw2
  have K1 := Lib.hid k1
  have K2 := Lib.hid k2
  clear k1 k2
  by_cases hn0 : n < 0
  · go_wp2
    go_ret
    exact ⟨rfl, B2.out⟩
  by_cases hn1 : 20 ≤ n
  · go_wp2
    go_ret
    exact ⟨rfl, B2.out⟩
  obtain ⟨i, rfl⟩ := Int.eq_ofNat_of_zero_le (show 0 ≤ n by omega)
  have hi : i < 20 := by omega
  obtain ⟨⟨r1, r2, r3, hr⟩, hsz⟩ := w_read i hi
  have cx := w_cell K1.out i hi
  have HR := Lib.hid hr
  have HSZ := Lib.hid hsz
  clear hr hsz
  obtain ⟨s, hs⟩ : ∃ s, s = wAt i := ⟨_, rfl⟩
  rw [← hs] at cx
  have HS := Lib.hid hs
  clear hs
  go_wp2_with fail
  refine (read_is s r1 r2 r3 (eAt i) w2 (H0.out.below B2.out) (by rw [HS.out]; exact HSZ.out) (by rw [HS.out]; exact HR.out)).mono ?_
  rintro e w3 ⟨rfl, b3⟩
  obtain ⟨v, hv⟩ : ∃ v, v = eAt i := ⟨_, rfl⟩
  rw [← hv]
  obtain ⟨w4, hw4⟩ : ∃ w4, w4 = w3.alloc (.cells #[.int .u64 r1, .int .u64 r2, .int .i64 r3] 26 (0, 0)) := ⟨_, rfl⟩
  have b4 : Below w2.heap.size w2 w4 := by rw [hw4]; exact below_alloc b3 _
  have k4 := blk_below K2.out b4
  have ce := e_cell k4 i hi
  rw [← hv] at ce
  have B4 := Lib.hid (B2.out.trans (b4.mono B2.out.size))
  have K4 := Lib.hid k4
  have HV := Lib.hid hv
  clear b3 b4 k4 hv cx
  go_upto_region 7 with (fail)
  rw [← hw4]
  clear hw4
  go_region_law (go_simp; go_at_call 13; refine (flocculuslaw2_num.calls v v _ rfl).mono ?_; rintro e w5 ⟨rfl, ⟨n5, rfl⟩⟩)
  all_goals go_wp2
  all_goals go_ret
  all_goals exact ⟨rfl, by repeat (first | exact B4.out | apply pw_below_drewN | apply below_drew)⟩
end Go.Proofs.YtjhlgfafjjmooaaDoor.Dot
