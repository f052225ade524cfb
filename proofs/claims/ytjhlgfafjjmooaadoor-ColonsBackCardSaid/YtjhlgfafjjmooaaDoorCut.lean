/- Package addr: the first bits of an address, and which prefixes may be. -/
import Derived.Test.YtjhlgfafjjmooaaDoorDot
namespace Go.Proofs.YtjhlgfafjjmooaaDoor.Dot
open Go.RowKit Go.Proofs.YtjhlgfafjjmooaaDoorW.PrintWords Go.Proofs.YtjhlgfafjjmooaaDoorW.PrintLast Go.Proofs.YtjhlgfafjjmooaaDoorW.PrintMore

theorem wrap_of {n : Int} (h0 : -9223372036854775808 ≤ n) (h1 : n < 9223372036854775808) : wrap64 n = n := by unfold wrap64; omega
theorem i64_of {n : Int} (h0 : -9223372036854775808 ≤ n) (h1 : n < 9223372036854775808) : IntKind.i64.wrap n = n := by
  unfold IntKind.wrap
  simp only [IntKind.signed, IntKind.bits, Bool.true_and]
  split
  · rename_i h
    have := of_decide_eq_true h
    omega
  · rename_i h
    have := of_decide_eq_false (Bool.eq_false_iff.mpr h)
    omega
theorem results_one {P : Program} {fn : Func} {p : Tmp} {ty : TypeId} (h : fn.results = #[.cell p ty]) (tmps : Array Value) (w : World) (g : Nat) (t : TypeId) (cs : Array Value) (fr : Nat × Nat) (d : TypeDesc)
    (hp : tmps.getD p undef = .pointer (some ⟨g, 0, none⟩)) (hg : w.heap[g]? = some (.cells cs t fr))
    (hu : P.underlying ty = some d) (hd : (match d with | .struct _ | .array _ _ => true | _ => false) = true) (hi : (P.info? ty).map (·.size) = some cs.size) :
    (results fn tmps).run P w = .ok (.agg cs) w := by
  have hp' : tmps[p]?.getD undef = .pointer (some ⟨g, 0, none⟩) := by simpa using hp
  simp [results, h, hp', asAddr, run_loadVar_row w g t ty cs fr d hg hu hd hi]
theorem results_ct {P : Program} {fn : Func} {p q : Tmp} {ty : TypeId} (h : fn.results = #[.cell p ty, .tmp q]) (tmps : Array Value) (w : World) (g : Nat) (t : TypeId) (cs : Array Value) (fr : Nat × Nat) (d : TypeDesc) (u : Value)
    (hp : tmps.getD p undef = .pointer (some ⟨g, 0, none⟩)) (hq : tmps.getD q undef = u) (hg : w.heap[g]? = some (.cells cs t fr))
    (hu : P.underlying ty = some d) (hd : (match d with | .struct _ | .array _ _ => true | _ => false) = true) (hi : (P.info? ty).map (·.size) = some cs.size) :
    (results fn tmps).run P w = .ok (.tuple #[.agg cs, u]) w := by
  have hp' : tmps[p]?.getD undef = .pointer (some ⟨g, 0, none⟩) := by simpa using hp
  have hq' : tmps[q]?.getD undef = u := by simpa using hq
  simp [results, h, hp', hq', asAddr, run_loadVar_row w g t ty cs fr d hg hu hd hi]
def capN (n : Int) : Int := if 0 < if 128 < n then 128 else n then if 128 < n then 128 else n else 0
def cutHi (hi n : Int) : Int := bits .andNot .u64 hi (18446744073709551615 / 2 ^ (if 64 < capN n then 64 else capN n).toNat)
def cutLo (lo n : Int) : Int := bits .andNot .u64 lo (18446744073709551615 / 2 ^ (if 64 < capN n then capN n - 64 else 0).toNat)
attribute [local go_sem] max2_int min2_int max_two min_two
set_option maxRecDepth 20000 in
set_option maxHeartbeats 1000000 in
theorem cut_is (hi lo n : Int) (w : World) :
    Calls Tryd.prog 48 #[.agg #[.int .u64 hi, .int .u64 lo], .int .i64 n] w fun e w' => e = .returned (.agg #[.int .u64 (cutHi hi n), .int .u64 (cutLo lo n)]) ∧ Below w.heap.size w w' := by
  obtain ⟨k, hk⟩ : ∃ k, k = capN n := ⟨_, rfl⟩
  have k0 : 0 ≤ k := by rw [hk]; unfold capN; repeat (first | omega | split)
  have k1 : k ≤ 128 := by rw [hk]; unfold capN; repeat (first | omega | split)
  obtain ⟨c1, hc1⟩ : ∃ c, c = cutHi hi n := ⟨_, rfl⟩
  obtain ⟨c2, hc2⟩ : ∃ c, c = cutLo lo n := ⟨_, rfl⟩
  have e1 : bits .andNot .u64 hi (18446744073709551615 / 2 ^ (if 64 < k then 64 else k).toNat) = c1 := by rw [hc1, hk]; rfl
  have e2 : bits .andNot .u64 lo (18446744073709551615 / 2 ^ (if 64 < k then k - 64 else 0).toNat) = c2 := by rw [hc2, hk]; rfl
  rw [← hc1, ← hc2]
  have E1 := Lib.hid e1
  have E2 := Lib.hid e2
  have HK := Lib.hid (show k = (if 0 < if 128 < n then 128 else n then if 128 < n then 128 else n else 0) from hk)
  clear hk hc1 hc2 e1 e2
  go_enter Tryd.func48, Tryd.ntmps48
  go_upto_region 2 with (fail)
  rw [← HK.out]
  obtain ⟨w1, hw1⟩ : ∃ w1, w1 = (w.alloc (.cells #[.int .u64 hi, .int .u64 lo] 24 (0, 0))).alloc (.cells #[.int .u64 0, .int .u64 0] 24 (0, 0)) := ⟨_, rfl⟩
  have b1 : w1.heap[w.heap.size]? = some (.cells #[.int .u64 hi, .int .u64 lo] 24 (0, 0)) := by rw [hw1]; exact blk_alloc (blk_new _ _) _
  have b2 : w1.heap[w.heap.size + 1]? = some (.cells #[.int .u64 0, .int .u64 0] 24 (0, 0)) := by
    have e : (w.alloc (.cells #[.int .u64 hi, .int .u64 lo] 24 (0, 0))).heap.size = w.heap.size + 1 := by simp
    rw [hw1, ← e]; exact blk_new _ _
  have bb : Below w.heap.size w w1 := by rw [hw1]; exact below_alloc (below_alloc (Below.refl _ _) _) _
  rw [← hw1]
  clear hw1
  have B1 := Lib.hid b1
  have B2 := Lib.hid b2
  have BB := Lib.hid bb
  have q0 := blk_cell B1.out 0
  have q1 := blk_cell B1.out 1
  simp only [List.getElem?_toArray, List.getElem?_cons_zero, List.getElem?_cons_succ] at q0 q1
  have f1 := fun i => blk_frozen B1.out i
  have m0 : 0 ≤ (if 64 < k then 64 else k) := by split <;> omega
  clear b1 b2 bb
  go_region_law fail
  all_goals
    rw [E1.out]
    generalize (18446744073709551615 : Int) / 2 ^ (if 64 < k then 64 else k).toNat = z3
    generalize (if 64 < k then 64 else k) = z2
    generalize (if 128 < n then 128 else n) = z1
    obtain ⟨w2, hw2⟩ : ∃ w2, w2 = (w1.setCell ⟨w.heap.size, 0, none⟩ (.int .u64 c1)).drew := ⟨_, rfl⟩
    have b1 := blk_set B1.out 0 (.int .u64 c1)
    have b2 := (Below.heap_setCell w1 ⟨w.heap.size, 0, none⟩ (.int .u64 c1) (w.heap.size + 1) (by simp)).trans B2.out
    have bb := BB.out.setCell (p := ⟨w.heap.size, 0, none⟩) (Nat.le_refl _) (.int .u64 c1)
    simp only [List.setIfInBounds_toArray, List.set_cons_zero, List.set_cons_succ] at b1
    have b1' : w2.heap[w.heap.size]? = some (.cells #[.int .u64 c1, .int .u64 lo] 24 (0, 0)) := by rw [hw2]; exact blk_drew b1
    have b2' : w2.heap[w.heap.size + 1]? = some (.cells #[.int .u64 0, .int .u64 0] 24 (0, 0)) := by rw [hw2]; exact blk_drew b2
    have bb' : Below w.heap.size w w2 := by rw [hw2]; exact below_drew bb
    rw [← hw2]
    clear hw2 b1 b2 bb B1 B2 BB q0 q1 f1 m0 w1 E1 HK
    have B1 := Lib.hid b1'
    have B2 := Lib.hid b2'
    have BB := Lib.hid bb'
    clear b1' b2' bb'
    go_wp2_with fail
    have q0 := blk_cell B1.out 0
    have q1 := blk_cell B1.out 1
    simp only [List.getElem?_toArray, List.getElem?_cons_zero, List.getElem?_cons_succ] at q0 q1
    have f1 := fun i => blk_frozen B1.out i
    have hkw : IntKind.i64.wrap (k - 64) = k - 64 := i64_of (by omega) (by omega)
    have m0 : 0 ≤ (if 64 < k then k - 64 else 0) := by split <;> omega
    go_region_law fail
    all_goals
      rw [E2.out]
      generalize (18446744073709551615 : Int) / 2 ^ (if 64 < k then k - 64 else 0).toNat = z4
      generalize (if 64 < k then k - 64 else 0) = z5
      obtain ⟨w3, hw3⟩ : ∃ w3, w3 = (w2.setCell ⟨w.heap.size, 1, none⟩ (.int .u64 c2)).drew := ⟨_, rfl⟩
      have b1 := blk_set B1.out 1 (.int .u64 c2)
      have b2 := (Below.heap_setCell w2 ⟨w.heap.size, 1, none⟩ (.int .u64 c2) (w.heap.size + 1) (by simp)).trans B2.out
      have bb := BB.out.setCell (p := ⟨w.heap.size, 1, none⟩) (Nat.le_refl _) (.int .u64 c2)
      simp only [List.setIfInBounds_toArray, List.set_cons_zero, List.set_cons_succ] at b1
      have b1' : w3.heap[w.heap.size]? = some (.cells #[.int .u64 c1, .int .u64 c2] 24 (0, 0)) := by rw [hw3]; exact blk_drew b1
      have b2' : w3.heap[w.heap.size + 1]? = some (.cells #[.int .u64 0, .int .u64 0] 24 (0, 0)) := by rw [hw3]; exact blk_drew b2
      have bb' : Below w.heap.size w w3 := by rw [hw3]; exact below_drew bb
      rw [← hw3]
      clear hw3 b1 b2 bb B1 B2 BB q0 q1 f1 m0 w2 E2 hkw
      have q0 := blk_cell b1' 0
      have q1 := blk_cell b1' 1
      have t0 := blk_cell b2' 0
      have t1 := blk_cell b2' 1
      simp only [List.getElem?_toArray, List.getElem?_cons_zero, List.getElem?_cons_succ] at q0 q1 t0 t1
      have f2 := fun i => blk_frozen b2' i
      have B2 := Lib.hid b2'
      have BB := Lib.hid bb'
      clear b1' b2' bb'
      go_wp2
      (try simp only [Exit.inBlock, Exit.then])
      have h1 := blk_set B2.out 0 (.int .u64 c1)
      simp only [List.setIfInBounds_toArray, List.set_cons_zero, List.set_cons_succ] at h1
      have h2 := blk_set h1 1 (.int .u64 c2)
      simp only [List.setIfInBounds_toArray, List.set_cons_zero, List.set_cons_succ] at h2
      refine bodyPost_ret (v := .agg #[.int .u64 c1, .int .u64 c2]) (results_one (fn := Tryd.f48) rfl _ _ (w.heap.size + 1) 24 _ (0, 0) _ rfl h2 Tryd.underlying24 rfl (by kernel_rfl)) rfl ?_
      exact ⟨rfl, (BB.out.setCell (p := ⟨w.heap.size + 1, 0, none⟩) (Nat.le_succ _) _).setCell (p := ⟨w.heap.size + 1, 1, none⟩) (Nat.le_succ _) _⟩
end Go.Proofs.YtjhlgfafjjmooaaDoor.Dot
