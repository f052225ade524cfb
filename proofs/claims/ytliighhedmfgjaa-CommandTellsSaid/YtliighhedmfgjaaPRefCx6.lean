-- Text of this claim, written by a program.
import Derived.Test.YtliighhedmfgjaaPRefCx0
import Derived.Test.YtliighhedmfgjaaPRefCx1
import Derived.Test.YtliighhedmfgjaaPRefCx2
namespace Go.Proofs.Ytliighhedmfgjaa.PRefC
open Go.RowKit Go.Proofs.YtliighhedmfgjaaW.PrintWords Go.Proofs.YtliighhedmfgjaaW.PrintLast Go.Proofs.YtliighhedmfgjaaW.PrintMore
attribute [local go_sem] max2_int min2_int max_two min_two max_three min_three max_four min_four   -- for this text's walks alone
set_option linter.unusedVariables false
set_option linter.unusedSimpArgs false

attribute [local go_sem high] eqA24 eqA26
/-! ### flocculusref21_SameCommand: function 11 -/
mutual
def flocculusref21_SameCommand.j0 : Nat → Bool → Int → Int → Int → Int → Int → Int → Int → Int → Int → List (S29) → Int → Int → Int → Int → Int → Int → Int → Int → Int → List (S29) → Option (Bool)
  | 0, _, _, _, _, _, _, _, _, _, _, _, _, _, _, _, _, _, _, _, _, _ => none
  | k + 1, x54, x173000, x173001, x173002, x173003, x173004, x173005, x173006, x173007, x173008, x173009, x174000, x174001, x174002, x174003, x174004, x174005, x174006, x174007, x174008, x174009 => if x54 = true then (some false) else (flocculusref21_SameCommand.l0 k 0 x173000 x173001 x173002 x173003 x173004 x173005 x173006 x173007 x173008 x173009 x174000 x174001 x174002 x174003 x174004 x174005 x174006 x174007 x174008 x174009)
def flocculusref21_SameCommand.l0 : Nat → Int → Int → Int → Int → Int → Int → Int → Int → Int → Int → List (S29) → Int → Int → Int → Int → Int → Int → Int → Int → Int → List (S29) → Option (Bool)
  | 0, _, _, _, _, _, _, _, _, _, _, _, _, _, _, _, _, _, _, _, _, _ => none
  | k + 1, x5, x173000, x173001, x173002, x173003, x173004, x173005, x173006, x173007, x173008, x173009, x174000, x174001, x174002, x174003, x174004, x174005, x174006, x174007, x174008, x174009 => if x5 < (x173009.length : Int) then (if 0 ≤ x5 then (if x5 < (x174009.length : Int) then ((flocculusref21_SameCommand.f k ((rd_T29 x173009 x5).f0) ((rd_T29 x173009 x5).f1) ((rd_T29 x173009 x5).f2) ((rd_T29 x173009 x5).f3.f0.f0) ((rd_T29 x173009 x5).f3.f0.f1) ((rd_T29 x173009 x5).f3.f1) ((rd_T29 x173009 x5).f4.f0) ((rd_T29 x173009 x5).f4.f1) ((rd_T29 x173009 x5).f5) ((rd_T29 x173009 x5).f6) ((rd_T29 x174009 x5).f0) ((rd_T29 x174009 x5).f1) ((rd_T29 x174009 x5).f2) ((rd_T29 x174009 x5).f3.f0.f0) ((rd_T29 x174009 x5).f3.f0.f1) ((rd_T29 x174009 x5).f3.f1) ((rd_T29 x174009 x5).f4.f0) ((rd_T29 x174009 x5).f4.f1) ((rd_T29 x174009 x5).f5) ((rd_T29 x174009 x5).f6)).bind fun t176 => (if t176 = true then (flocculusref21_SameCommand.l0 k (wrap64 (x5 + 1)) x173000 x173001 x173002 x173003 x173004 x173005 x173006 x173007 x173008 x173009 x174000 x174001 x174002 x174003 x174004 x174005 x174006 x174007 x174008 x174009) else (some false))) else (none)) else (none)) else (some true)
def flocculusref21_SameCommand.f : Nat → Int → Int → Int → Int → Int → Int → Int → Int → Int → List (S29) → Int → Int → Int → Int → Int → Int → Int → Int → Int → List (S29) → Option (Bool)
  | 0, _, _, _, _, _, _, _, _, _, _, _, _, _, _, _, _, _, _, _, _ => none
  | k + 1, a0_0, a0_1, a0_2, a0_3, a0_4, a0_5, a0_6, a0_7, a0_8, l0_9, a1_0, a1_1, a1_2, a1_3, a1_4, a1_5, a1_6, a1_7, a1_8, l1_9 => if a0_0 = a1_0 then (if a0_1 = a1_1 then (if a0_2 = a1_2 then (if ((!(a0_3 == a1_3) || (!(a0_4 == a1_4))) || (!(a0_5 == a1_5))) = true then (flocculusref21_SameCommand.j0 k true a0_0 a0_1 a0_2 a0_3 a0_4 a0_5 a0_6 a0_7 a0_8 l0_9 a1_0 a1_1 a1_2 a1_3 a1_4 a1_5 a1_6 a1_7 a1_8 l1_9) else (if (!(a0_6 == a1_6) || (!(a0_7 == a1_7))) = true then (flocculusref21_SameCommand.j0 k true a0_0 a0_1 a0_2 a0_3 a0_4 a0_5 a0_6 a0_7 a0_8 l0_9 a1_0 a1_1 a1_2 a1_3 a1_4 a1_5 a1_6 a1_7 a1_8 l1_9) else (if a0_8 = a1_8 then (flocculusref21_SameCommand.j0 k ((l0_9.length : Int) != (l1_9.length : Int)) a0_0 a0_1 a0_2 a0_3 a0_4 a0_5 a0_6 a0_7 a0_8 l0_9 a1_0 a1_1 a1_2 a1_3 a1_4 a1_5 a1_6 a1_7 a1_8 l1_9) else (flocculusref21_SameCommand.j0 k true a0_0 a0_1 a0_2 a0_3 a0_4 a0_5 a0_6 a0_7 a0_8 l0_9 a1_0 a1_1 a1_2 a1_3 a1_4 a1_5 a1_6 a1_7 a1_8 l1_9)))) else (flocculusref21_SameCommand.j0 k true a0_0 a0_1 a0_2 a0_3 a0_4 a0_5 a0_6 a0_7 a0_8 l0_9 a1_0 a1_1 a1_2 a1_3 a1_4 a1_5 a1_6 a1_7 a1_8 l1_9)) else (flocculusref21_SameCommand.j0 k true a0_0 a0_1 a0_2 a0_3 a0_4 a0_5 a0_6 a0_7 a0_8 l0_9 a1_0 a1_1 a1_2 a1_3 a1_4 a1_5 a1_6 a1_7 a1_8 l1_9)) else (flocculusref21_SameCommand.j0 k true a0_0 a0_1 a0_2 a0_3 a0_4 a0_5 a0_6 a0_7 a0_8 l0_9 a1_0 a1_1 a1_2 a1_3 a1_4 a1_5 a1_6 a1_7 a1_8 l1_9)
end
theorem flocculusref21_SameCommand.mono_l : ∀ k, (∀ y0 y1 y2 y3 y4 y5 y6 y7 y8 y9 y10 y11 y12 y13 y14 y15 y16 y17 y18 y19, LeO (flocculusref21_SameCommand.f k y0 y1 y2 y3 y4 y5 y6 y7 y8 y9 y10 y11 y12 y13 y14 y15 y16 y17 y18 y19) (flocculusref21_SameCommand.f (k + 1) y0 y1 y2 y3 y4 y5 y6 y7 y8 y9 y10 y11 y12 y13 y14 y15 y16 y17 y18 y19)) ∧ (∀ y0 y1 y2 y3 y4 y5 y6 y7 y8 y9 y10 y11 y12 y13 y14 y15 y16 y17 y18 y19 y20, LeO (flocculusref21_SameCommand.j0 k y0 y1 y2 y3 y4 y5 y6 y7 y8 y9 y10 y11 y12 y13 y14 y15 y16 y17 y18 y19 y20) (flocculusref21_SameCommand.j0 (k + 1) y0 y1 y2 y3 y4 y5 y6 y7 y8 y9 y10 y11 y12 y13 y14 y15 y16 y17 y18 y19 y20)) ∧ (∀ y0 y1 y2 y3 y4 y5 y6 y7 y8 y9 y10 y11 y12 y13 y14 y15 y16 y17 y18 y19 y20, LeO (flocculusref21_SameCommand.l0 k y0 y1 y2 y3 y4 y5 y6 y7 y8 y9 y10 y11 y12 y13 y14 y15 y16 y17 y18 y19 y20) (flocculusref21_SameCommand.l0 (k + 1) y0 y1 y2 y3 y4 y5 y6 y7 y8 y9 y10 y11 y12 y13 y14 y15 y16 y17 y18 y19 y20))
  | 0 => ⟨fun _ _ _ _ _ _ _ _ _ _ _ _ _ _ _ _ _ _ _ _ r h => by simp [flocculusref21_SameCommand.f] at h, fun _ _ _ _ _ _ _ _ _ _ _ _ _ _ _ _ _ _ _ _ _ r h => by simp [flocculusref21_SameCommand.j0] at h, fun _ _ _ _ _ _ _ _ _ _ _ _ _ _ _ _ _ _ _ _ _ r h => by simp [flocculusref21_SameCommand.l0] at h⟩
  | k + 1 => by
    obtain ⟨ih0, ih1, ih2⟩ := flocculusref21_SameCommand.mono_l k
    refine ⟨?_, ?_, ?_⟩
    · intro y0 y1 y2 y3 y4 y5 y6 y7 y8 y9 y10 y11 y12 y13 y14 y15 y16 y17 y18 y19
      unfold flocculusref21_SameCommand.f
      repeat' first
      | (with_reducible exact ih0 _ _ _ _ _ _ _ _ _ _ _ _ _ _ _ _ _ _ _ _)
      | (with_reducible exact ih1 _ _ _ _ _ _ _ _ _ _ _ _ _ _ _ _ _ _ _ _ _)
      | (with_reducible exact ih2 _ _ _ _ _ _ _ _ _ _ _ _ _ _ _ _ _ _ _ _ _)
      | (with_reducible exact LeO.refl _)
      | (with_reducible exact LeO.none _)
      | (with_reducible refine LeO.ite ?_ ?_)
      | (with_reducible refine LeO.bind ?_ (fun _ => ?_))
      | exact ih0 _ _ _ _ _ _ _ _ _ _ _ _ _ _ _ _ _ _ _ _
      | exact ih1 _ _ _ _ _ _ _ _ _ _ _ _ _ _ _ _ _ _ _ _ _
      | exact ih2 _ _ _ _ _ _ _ _ _ _ _ _ _ _ _ _ _ _ _ _ _
      | exact LeO.none _
      | refine LeO.ite ?_ ?_
      | refine LeO.bind ?_ (fun _ => ?_)
    · intro y0 y1 y2 y3 y4 y5 y6 y7 y8 y9 y10 y11 y12 y13 y14 y15 y16 y17 y18 y19 y20
      unfold flocculusref21_SameCommand.j0
      repeat' first
      | (with_reducible exact ih0 _ _ _ _ _ _ _ _ _ _ _ _ _ _ _ _ _ _ _ _)
      | (with_reducible exact ih1 _ _ _ _ _ _ _ _ _ _ _ _ _ _ _ _ _ _ _ _ _)
      | (with_reducible exact ih2 _ _ _ _ _ _ _ _ _ _ _ _ _ _ _ _ _ _ _ _ _)
      | (with_reducible exact LeO.refl _)
      | (with_reducible exact LeO.none _)
      | (with_reducible refine LeO.ite ?_ ?_)
      | (with_reducible refine LeO.bind ?_ (fun _ => ?_))
      | exact ih0 _ _ _ _ _ _ _ _ _ _ _ _ _ _ _ _ _ _ _ _
      | exact ih1 _ _ _ _ _ _ _ _ _ _ _ _ _ _ _ _ _ _ _ _ _
      | exact ih2 _ _ _ _ _ _ _ _ _ _ _ _ _ _ _ _ _ _ _ _ _
      | exact LeO.none _
      | refine LeO.ite ?_ ?_
      | refine LeO.bind ?_ (fun _ => ?_)
    · intro y0 y1 y2 y3 y4 y5 y6 y7 y8 y9 y10 y11 y12 y13 y14 y15 y16 y17 y18 y19 y20
      unfold flocculusref21_SameCommand.l0
      repeat' first
      | (with_reducible exact ih0 _ _ _ _ _ _ _ _ _ _ _ _ _ _ _ _ _ _ _ _)
      | (with_reducible exact ih1 _ _ _ _ _ _ _ _ _ _ _ _ _ _ _ _ _ _ _ _ _)
      | (with_reducible exact ih2 _ _ _ _ _ _ _ _ _ _ _ _ _ _ _ _ _ _ _ _ _)
      | (with_reducible exact LeO.refl _)
      | (with_reducible exact LeO.none _)
      | (with_reducible refine LeO.ite ?_ ?_)
      | (with_reducible refine LeO.bind ?_ (fun _ => ?_))
      | exact ih0 _ _ _ _ _ _ _ _ _ _ _ _ _ _ _ _ _ _ _ _
      | exact ih1 _ _ _ _ _ _ _ _ _ _ _ _ _ _ _ _ _ _ _ _ _
      | exact ih2 _ _ _ _ _ _ _ _ _ _ _ _ _ _ _ _ _ _ _ _ _
      | exact LeO.none _
      | refine LeO.ite ?_ ?_
      | refine LeO.bind ?_ (fun _ => ?_)
theorem flocculusref21_SameCommand.mono : ∀ a0 a1 a2 a3 a4 a5 a6 a7 a8 a9 a10 a11 a12 a13 a14 a15 a16 a17 a18 a19 k, LeO (flocculusref21_SameCommand.f k a0 a1 a2 a3 a4 a5 a6 a7 a8 a9 a10 a11 a12 a13 a14 a15 a16 a17 a18 a19) (flocculusref21_SameCommand.f (k + 1) a0 a1 a2 a3 a4 a5 a6 a7 a8 a9 a10 a11 a12 a13 a14 a15 a16 a17 a18 a19) := by
  intro a0 a1 a2 a3 a4 a5 a6 a7 a8 a9 a10 a11 a12 a13 a14 a15 a16 a17 a18 a19 k
  obtain ⟨ih0, ih1, ih2⟩ := flocculusref21_SameCommand.mono_l k
  exact ih0 a0 a1 a2 a3 a4 a5 a6 a7 a8 a9 a10 a11 a12 a13 a14 a15 a16 a17 a18 a19
def flocculusref21_SameCommand.T6 : Bool × List (List Nat × List Nat) := (true, [([], []), ([0], [0]), ([], []), ([1, 2], [1, 2]), ([3], [3]), ([], []), ([5], [5]), ([], []), ([6, 7], [6, 7]), ([8], [8]), ([4, 9], [4, 9]), ([10], [10])])
def flocculusref21_SameCommand.B6 : List Nat := [0, 1, 0, 7, 15, 0, 32, 0, 224, 480, 1023, 2047]
theorem flocculusref21_SameCommand.tab6 : rtab .any (opsOf Try.f11 6) = flocculusref21_SameCommand.T6 := by kernel_rfl
theorem flocculusref21_SameCommand.bits6 : waitsOk flocculusref21_SameCommand.T6.2 flocculusref21_SameCommand.B6 = true := by kernel_rfl
set_option maxHeartbeats 8000000 in
set_option maxRecDepth 100000 in
theorem flocculusref21_SameCommand.calls (k : Nat) : ∀ (a0_0 : Int) (a0_1 : Int) (a0_2 : Int) (a0_3 : Int) (a0_4 : Int) (a0_5 : Int) (a0_6 : Int) (a0_7 : Int) (a0_8 : Int) (A0_9 : Option Addr) (c0_9 : Nat) (l0_9 : List (S29)) (a1_0 : Int) (a1_1 : Int) (a1_2 : Int) (a1_3 : Int) (a1_4 : Int) (a1_5 : Int) (a1_6 : Int) (a1_7 : Int) (a1_8 : Int) (A1_9 : Option Addr) (c1_9 : Nat) (l1_9 : List (S29)) (r : Bool) (w : World) (hr0_9 : Kd.C k29 w A0_9 l0_9.length l0_9) (hc0_9 : l0_9.length ≤ c0_9) (hr1_9 : Kd.C k29 w A1_9 l1_9.length l1_9) (hc1_9 : l1_9.length ≤ c1_9) (h : flocculusref21_SameCommand.f k a0_0 a0_1 a0_2 a0_3 a0_4 a0_5 a0_6 a0_7 a0_8 l0_9 a1_0 a1_1 a1_2 a1_3 a1_4 a1_5 a1_6 a1_7 a1_8 l1_9 = some r),
    Calls Try.prog 11 #[.agg #[.int .i64 a0_0, .int .i64 a0_1, .int .i64 a0_2, .int .u64 a0_3, .int .u64 a0_4, .int .i64 a0_5, .int .u64 a0_6, .int .u64 a0_7, .int .u64 a0_8, .slice A0_9 l0_9.length c0_9], .agg #[.int .i64 a1_0, .int .i64 a1_1, .int .i64 a1_2, .int .u64 a1_3, .int .u64 a1_4, .int .i64 a1_5, .int .u64 a1_6, .int .u64 a1_7, .int .u64 a1_8, .slice A1_9 l1_9.length c1_9]] w fun e w' => e = .returned (.bool r) ∧ Below w.heap.size w w' := by
  induction k using Nat.strongRecOn with
  | _ k ih =>
  intro a0_0 a0_1 a0_2 a0_3 a0_4 a0_5 a0_6 a0_7 a0_8 A0_9 c0_9 l0_9 a1_0 a1_1 a1_2 a1_3 a1_4 a1_5 a1_6 a1_7 a1_8 A1_9 c1_9 l1_9 r w hr0_9 hc0_9 hr1_9 hc1_9 h
  cases k with
  | zero => exact absurd h (by simp [flocculusref21_SameCommand.f])
  | succ k =>
  simp only [flocculusref21_SameCommand.f] at h
  have hu29 := Try.underlying29
  have hu26 := Try.underlying26
  have hu24 := Try.underlying24
  have HR0_9 := Aside0.mk hr0_9
  have HC0_9 := Aside0.mk hc0_9
  clear hr0_9 hc0_9
  have HR1_9 := Aside0.mk hr1_9
  have HC1_9 := Aside0.mk hc1_9
  clear hr1_9 hc1_9
  have HB := Aside0.mk (Below.refl w.heap.size w)
  have H : (if a0_0 = a1_0 then (if a0_1 = a1_1 then (if a0_2 = a1_2 then (if ((!(a0_3 == a1_3) || (!(a0_4 == a1_4))) || (!(a0_5 == a1_5))) = true then (flocculusref21_SameCommand.j0 k true a0_0 a0_1 a0_2 a0_3 a0_4 a0_5 a0_6 a0_7 a0_8 l0_9 a1_0 a1_1 a1_2 a1_3 a1_4 a1_5 a1_6 a1_7 a1_8 l1_9) else (if (!(a0_6 == a1_6) || (!(a0_7 == a1_7))) = true then (flocculusref21_SameCommand.j0 k true a0_0 a0_1 a0_2 a0_3 a0_4 a0_5 a0_6 a0_7 a0_8 l0_9 a1_0 a1_1 a1_2 a1_3 a1_4 a1_5 a1_6 a1_7 a1_8 l1_9) else (if a0_8 = a1_8 then (flocculusref21_SameCommand.j0 k ((l0_9.length : Int) != (l1_9.length : Int)) a0_0 a0_1 a0_2 a0_3 a0_4 a0_5 a0_6 a0_7 a0_8 l0_9 a1_0 a1_1 a1_2 a1_3 a1_4 a1_5 a1_6 a1_7 a1_8 l1_9) else (flocculusref21_SameCommand.j0 k true a0_0 a0_1 a0_2 a0_3 a0_4 a0_5 a0_6 a0_7 a0_8 l0_9 a1_0 a1_1 a1_2 a1_3 a1_4 a1_5 a1_6 a1_7 a1_8 l1_9)))) else (flocculusref21_SameCommand.j0 k true a0_0 a0_1 a0_2 a0_3 a0_4 a0_5 a0_6 a0_7 a0_8 l0_9 a1_0 a1_1 a1_2 a1_3 a1_4 a1_5 a1_6 a1_7 a1_8 l1_9)) else (flocculusref21_SameCommand.j0 k true a0_0 a0_1 a0_2 a0_3 a0_4 a0_5 a0_6 a0_7 a0_8 l0_9 a1_0 a1_1 a1_2 a1_3 a1_4 a1_5 a1_6 a1_7 a1_8 l1_9)) else (flocculusref21_SameCommand.j0 k true a0_0 a0_1 a0_2 a0_3 a0_4 a0_5 a0_6 a0_7 a0_8 l0_9 a1_0 a1_1 a1_2 a1_3 a1_4 a1_5 a1_6 a1_7 a1_8 l1_9)) = some r := h
  clear h
  have HC3 := Aside0.mk H
  clear H
  go_enter Try.func11, Try.ntmps11
  go_upto_region 1 with (first | ((with_reducible refine gate_dst (N := 2) rfl ?_); (try (refine gate_guard (by rfl) ?_; dsimp only)); refine box_event ?hg (N := 2) ?hd (cs := #[.int .i64 a0_0, .int .i64 a0_1, .int .i64 a0_2, .int .u64 a0_3, .int .u64 a0_4, .int .i64 a0_5, .int .u64 a0_6, .int .u64 a0_7, .int .u64 a0_8, .slice A0_9 l0_9.length c0_9]) (t := 29) ?hr ?_; (case hd => rfl); (case hg => rfl); (case hr => first | (go_simp; done) | (go_simp; rfl)); intro gb172 hg w4 hbox hb; have n0_ := Aside0.mk (below_step (by repeat (first | (with_reducible first | exact HB.out | apply below_alloc | apply pw_below_drewN | apply below_drew1) | exact HB.out)) hb); have n1_ := Aside0.mk (hbox); have n2_ := Aside0.mk ((by rw [hg]; exact (below_size (by repeat (first | (with_reducible first | exact HB.out | apply below_alloc | apply pw_below_drewN | apply below_drew1) | exact HB.out))) : w.heap.size ≤ gb172)); have n3_ := Aside0.mk ((by rw [hg]; exact (below_size (by repeat (first | (with_reducible first | exact HB.out | apply below_alloc | apply pw_below_drewN | apply below_drew1) | exact HB.out))) : w.heap.size ≤ gb172)); clear HB; have HB := n0_; have BK172 := n1_; have GW172 := n2_; have GE172 := n3_; clear n0_ n1_ n2_ n3_; clear hb hbox hg) | ((with_reducible refine gate_dst (N := 3) rfl ?_); (try (refine gate_guard (by rfl) ?_; dsimp only)); refine box_event ?hg (N := 3) ?hd (cs := #[.int .i64 a1_0, .int .i64 a1_1, .int .i64 a1_2, .int .u64 a1_3, .int .u64 a1_4, .int .i64 a1_5, .int .u64 a1_6, .int .u64 a1_7, .int .u64 a1_8, .slice A1_9 l1_9.length c1_9]) (t := 29) ?hr ?_; (case hd => rfl); (case hg => rfl); (case hr => first | (go_simp; done) | (go_simp; rfl)); intro gb173 hg w5 hbox hb; have n0_ := Aside0.mk (blk_below (g := gb172) (o := .cells #[.int .i64 a0_0, .int .i64 a0_1, .int .i64 a0_2, .int .u64 a0_3, .int .u64 a0_4, .int .i64 a0_5, .int .u64 a0_6, .int .u64 a0_7, .int .u64 a0_8, .slice A0_9 l0_9.length c0_9] 29 (0, 0)) (by (with_reducible repeat (first | refine blk_drewN ?_ _ | refine blk_drew ?_ | refine blk_alloc ?_ _)); exact BK172.out) hb); have n1_ := Aside0.mk (below_step (by repeat (first | (with_reducible first | exact HB.out | apply below_alloc | apply pw_below_drewN | apply below_drew1 | refine below_set ?_ GE172.out) | exact HB.out)) hb); have n2_ := Aside0.mk (hbox); have n3_ := Aside0.mk ((by rw [hg]; exact (below_size (by repeat (first | (with_reducible first | exact HB.out | apply below_alloc | apply pw_below_drewN | apply below_drew1 | refine below_set ?_ GE172.out) | exact HB.out))) : w.heap.size ≤ gb173)); have n4_ := Aside0.mk ((by rw [hg]; exact (below_size (by repeat (first | (with_reducible first | exact HB.out | apply below_alloc | apply pw_below_drewN | apply below_drew1 | refine below_set ?_ GE172.out) | exact HB.out))) : w.heap.size ≤ gb173)); have n5_ := Aside0.mk ((by rw [hg]; exact Nat.ne_of_lt (blk_lt (g := gb172) (o := .cells #[.int .i64 a0_0, .int .i64 a0_1, .int .i64 a0_2, .int .u64 a0_3, .int .u64 a0_4, .int .i64 a0_5, .int .u64 a0_6, .int .u64 a0_7, .int .u64 a0_8, .slice A0_9 l0_9.length c0_9] 29 (0, 0)) (by (with_reducible repeat (first | refine blk_drewN ?_ _ | refine blk_drew ?_ | refine blk_alloc ?_ _)); exact BK172.out)) : gb172 ≠ gb173)); have n6_ := Aside0.mk ((by rw [hg]; exact Nat.ne_of_gt (blk_lt (g := gb172) (o := .cells #[.int .i64 a0_0, .int .i64 a0_1, .int .i64 a0_2, .int .u64 a0_3, .int .u64 a0_4, .int .i64 a0_5, .int .u64 a0_6, .int .u64 a0_7, .int .u64 a0_8, .slice A0_9 l0_9.length c0_9] 29 (0, 0)) (by (with_reducible repeat (first | refine blk_drewN ?_ _ | refine blk_drew ?_ | refine blk_alloc ?_ _)); exact BK172.out)) : gb173 ≠ gb172)); clear BK172; clear HB; have BK172 := n0_; have HB := n1_; have BK173 := n2_; have GW173 := n3_; have GE173 := n4_; have NB172_173 := n5_; have NB173_172 := n6_; clear n0_ n1_ n2_ n3_ n4_ n5_ n6_; clear hb hbox hg))
  (try simp only [Act.put, List.setIfInBounds_toArray, List.set_cons_zero, List.set_cons_succ])
  go_cut [54] (fun v54 wc => ∃ (kq : Nat) (x54_2 : Bool), v54 = .bool x54_2 ∧ Aside0 (flocculusref21_SameCommand.j0 kq x54_2 a0_0 a0_1 a0_2 a0_3 a0_4 a0_5 a0_6 a0_7 a0_8 l0_9 a1_0 a1_1 a1_2 a1_3 a1_4 a1_5 a1_6 a1_7 a1_8 l1_9 = some r) ∧ Aside0 (kq ≤ k) ∧ Aside0 (wc.heap[gb172]? = some (.cells #[.int .i64 a0_0, .int .i64 a0_1, .int .i64 a0_2, .int .u64 a0_3, .int .u64 a0_4, .int .i64 a0_5, .int .u64 a0_6, .int .u64 a0_7, .int .u64 a0_8, (.slice A0_9 l0_9.length c0_9)] 29 (0, 0))) ∧ Aside0 (wc.heap[gb173]? = some (.cells #[.int .i64 a1_0, .int .i64 a1_1, .int .i64 a1_2, .int .u64 a1_3, .int .u64 a1_4, .int .i64 a1_5, .int .u64 a1_6, .int .u64 a1_7, .int .u64 a1_8, (.slice A1_9 l1_9.length c1_9)] 29 (0, 0))) ∧ Aside0 (Below w.heap.size w wc))
  case first =>
    have H := HC3.out
    clear HC3
    by_cases c6 : a0_0 = a1_0
    · rw [if_pos c6] at H
      have c6b0 : (a0_0 == a1_0) = true := beq_iff_eq.mpr c6
      have c6b1 : (a0_0 != a1_0) = false := bne_eq_false_iff_eq.mpr c6
      clear c6
      (first | rw [c6b0] | (simp only [i64_w, i32_w]; rw [c6b0]) | skip)
      by_cases c7 : a0_1 = a1_1
      · rw [if_pos c7] at H
        have c7b0 : (a0_1 == a1_1) = true := beq_iff_eq.mpr c7
        have c7b1 : (a0_1 != a1_1) = false := bne_eq_false_iff_eq.mpr c7
        clear c7
        by_cases c8 : a0_2 = a1_2
        · rw [if_pos c8] at H
          have c8b0 : (a0_2 == a1_2) = true := beq_iff_eq.mpr c8
          have c8b1 : (a0_2 != a1_2) = false := bne_eq_false_iff_eq.mpr c8
          clear c8
          by_cases c9 : ((!(a0_3 == a1_3) || (!(a0_4 == a1_4))) || (!(a0_5 == a1_5))) = true
          · rw [if_pos c9] at H
            have c9b0 : ((!(a0_3 == a1_3) || (!(a0_4 == a1_4))) || (!(a0_5 == a1_5))) = true := c9
            clear c9
            have H' := Aside0.mk H
            clear H
            have hnb10 := NB172_173.out
            have hnc10 := NB173_172.out
            have hcz11_0 : w5.cell? ⟨gb172, 0, none⟩ = some (.int .i64 a0_0) := (blk_cell BK172.out 0).trans rfl
            have hcz11_1 : w5.cell? ⟨gb172, 1, none⟩ = some (.int .i64 a0_1) := (blk_cell BK172.out 1).trans rfl
            have hcz11_2 : w5.cell? ⟨gb172, 2, none⟩ = some (.int .i64 a0_2) := (blk_cell BK172.out 2).trans rfl
            have hcz11_3 : w5.cell? ⟨gb172, 3, none⟩ = some (.int .u64 a0_3) := (blk_cell BK172.out 3).trans rfl
            have hcz11_4 : w5.cell? ⟨gb172, 4, none⟩ = some (.int .u64 a0_4) := (blk_cell BK172.out 4).trans rfl
            have hcz11_5 : w5.cell? ⟨gb172, 5, none⟩ = some (.int .i64 a0_5) := (blk_cell BK172.out 5).trans rfl
            have hcz11_6 : w5.cell? ⟨gb172, 6, none⟩ = some (.int .u64 a0_6) := (blk_cell BK172.out 6).trans rfl
            have hcz11_7 : w5.cell? ⟨gb172, 7, none⟩ = some (.int .u64 a0_7) := (blk_cell BK172.out 7).trans rfl
            have hcz11_8 : w5.cell? ⟨gb172, 8, none⟩ = some (.int .u64 a0_8) := (blk_cell BK172.out 8).trans rfl
            have hcz11_9 : w5.cell? ⟨gb172, 9, none⟩ = some (.slice A0_9 l0_9.length c0_9) := (blk_cell BK172.out 9).trans rfl
            have hfz11_0 := blk_frozen BK172.out 0
            have hfz11_1 := blk_frozen BK172.out 1
            have hfz11_2 := blk_frozen BK172.out 2
            have hfz11_3 := blk_frozen BK172.out 3
            have hfz11_4 := blk_frozen BK172.out 4
            have hfz11_5 := blk_frozen BK172.out 5
            have hfz11_6 := blk_frozen BK172.out 6
            have hfz11_7 := blk_frozen BK172.out 7
            have hfz11_8 := blk_frozen BK172.out 8
            have hfz11_9 := blk_frozen BK172.out 9
            have hcz12_0 : w5.cell? ⟨gb173, 0, none⟩ = some (.int .i64 a1_0) := (blk_cell BK173.out 0).trans rfl
            have hcz12_1 : w5.cell? ⟨gb173, 1, none⟩ = some (.int .i64 a1_1) := (blk_cell BK173.out 1).trans rfl
            have hcz12_2 : w5.cell? ⟨gb173, 2, none⟩ = some (.int .i64 a1_2) := (blk_cell BK173.out 2).trans rfl
            have hcz12_3 : w5.cell? ⟨gb173, 3, none⟩ = some (.int .u64 a1_3) := (blk_cell BK173.out 3).trans rfl
            have hcz12_4 : w5.cell? ⟨gb173, 4, none⟩ = some (.int .u64 a1_4) := (blk_cell BK173.out 4).trans rfl
            have hcz12_5 : w5.cell? ⟨gb173, 5, none⟩ = some (.int .i64 a1_5) := (blk_cell BK173.out 5).trans rfl
            have hcz12_6 : w5.cell? ⟨gb173, 6, none⟩ = some (.int .u64 a1_6) := (blk_cell BK173.out 6).trans rfl
            have hcz12_7 : w5.cell? ⟨gb173, 7, none⟩ = some (.int .u64 a1_7) := (blk_cell BK173.out 7).trans rfl
            have hcz12_8 : w5.cell? ⟨gb173, 8, none⟩ = some (.int .u64 a1_8) := (blk_cell BK173.out 8).trans rfl
            have hcz12_9 : w5.cell? ⟨gb173, 9, none⟩ = some (.slice A1_9 l1_9.length c1_9) := (blk_cell BK173.out 9).trans rfl
            have hfz12_0 := blk_frozen BK173.out 0
            have hfz12_1 := blk_frozen BK173.out 1
            have hfz12_2 := blk_frozen BK173.out 2
            have hfz12_3 := blk_frozen BK173.out 3
            have hfz12_4 := blk_frozen BK173.out 4
            have hfz12_5 := blk_frozen BK173.out 5
            have hfz12_6 := blk_frozen BK173.out 6
            have hfz12_7 := blk_frozen BK173.out 7
            have hfz12_8 := blk_frozen BK173.out 8
            have hfz12_9 := blk_frozen BK173.out 9
            go_wp2
            go_meet
            case rel => exact ⟨_, (true), (by first | rfl | (simp; done) | (simp [*]; done)), H', ⟨by first | omega | exact Nat.le_refl _⟩, ⟨by (with_reducible repeat (first | refine blk_drewN ?_ _ | refine blk_drew ?_ | refine blk_alloc ?_ _)); exact BK172.out⟩, ⟨by (with_reducible repeat (first | refine blk_drewN ?_ _ | refine blk_drew ?_ | refine blk_alloc ?_ _)); exact BK173.out⟩, ⟨by repeat (first | (with_reducible first | exact HB.out | apply below_alloc | apply pw_below_drewN | apply below_drew1 | refine below_set ?_ GE172.out | refine below_set ?_ GE173.out) | exact HB.out)⟩⟩
          · rw [if_neg c9] at H
            have c9b0 : ((!(a0_3 == a1_3) || (!(a0_4 == a1_4))) || (!(a0_5 == a1_5))) = false := by simpa using c9
            clear c9
            by_cases c13 : (!(a0_6 == a1_6) || (!(a0_7 == a1_7))) = true
            · rw [if_pos c13] at H
              have c13b0 : (!(a0_6 == a1_6) || (!(a0_7 == a1_7))) = true := c13
              clear c13
              have H' := Aside0.mk H
              clear H
              have hnb14 := NB172_173.out
              have hnc14 := NB173_172.out
              have hcz15_0 : w5.cell? ⟨gb172, 0, none⟩ = some (.int .i64 a0_0) := (blk_cell BK172.out 0).trans rfl
              have hcz15_1 : w5.cell? ⟨gb172, 1, none⟩ = some (.int .i64 a0_1) := (blk_cell BK172.out 1).trans rfl
              have hcz15_2 : w5.cell? ⟨gb172, 2, none⟩ = some (.int .i64 a0_2) := (blk_cell BK172.out 2).trans rfl
              have hcz15_3 : w5.cell? ⟨gb172, 3, none⟩ = some (.int .u64 a0_3) := (blk_cell BK172.out 3).trans rfl
              have hcz15_4 : w5.cell? ⟨gb172, 4, none⟩ = some (.int .u64 a0_4) := (blk_cell BK172.out 4).trans rfl
              have hcz15_5 : w5.cell? ⟨gb172, 5, none⟩ = some (.int .i64 a0_5) := (blk_cell BK172.out 5).trans rfl
              have hcz15_6 : w5.cell? ⟨gb172, 6, none⟩ = some (.int .u64 a0_6) := (blk_cell BK172.out 6).trans rfl
              have hcz15_7 : w5.cell? ⟨gb172, 7, none⟩ = some (.int .u64 a0_7) := (blk_cell BK172.out 7).trans rfl
              have hcz15_8 : w5.cell? ⟨gb172, 8, none⟩ = some (.int .u64 a0_8) := (blk_cell BK172.out 8).trans rfl
              have hcz15_9 : w5.cell? ⟨gb172, 9, none⟩ = some (.slice A0_9 l0_9.length c0_9) := (blk_cell BK172.out 9).trans rfl
              have hfz15_0 := blk_frozen BK172.out 0
              have hfz15_1 := blk_frozen BK172.out 1
              have hfz15_2 := blk_frozen BK172.out 2
              have hfz15_3 := blk_frozen BK172.out 3
              have hfz15_4 := blk_frozen BK172.out 4
              have hfz15_5 := blk_frozen BK172.out 5
              have hfz15_6 := blk_frozen BK172.out 6
              have hfz15_7 := blk_frozen BK172.out 7
              have hfz15_8 := blk_frozen BK172.out 8
              have hfz15_9 := blk_frozen BK172.out 9
              have hcz16_0 : w5.cell? ⟨gb173, 0, none⟩ = some (.int .i64 a1_0) := (blk_cell BK173.out 0).trans rfl
              have hcz16_1 : w5.cell? ⟨gb173, 1, none⟩ = some (.int .i64 a1_1) := (blk_cell BK173.out 1).trans rfl
              have hcz16_2 : w5.cell? ⟨gb173, 2, none⟩ = some (.int .i64 a1_2) := (blk_cell BK173.out 2).trans rfl
              have hcz16_3 : w5.cell? ⟨gb173, 3, none⟩ = some (.int .u64 a1_3) := (blk_cell BK173.out 3).trans rfl
              have hcz16_4 : w5.cell? ⟨gb173, 4, none⟩ = some (.int .u64 a1_4) := (blk_cell BK173.out 4).trans rfl
              have hcz16_5 : w5.cell? ⟨gb173, 5, none⟩ = some (.int .i64 a1_5) := (blk_cell BK173.out 5).trans rfl
              have hcz16_6 : w5.cell? ⟨gb173, 6, none⟩ = some (.int .u64 a1_6) := (blk_cell BK173.out 6).trans rfl
              have hcz16_7 : w5.cell? ⟨gb173, 7, none⟩ = some (.int .u64 a1_7) := (blk_cell BK173.out 7).trans rfl
              have hcz16_8 : w5.cell? ⟨gb173, 8, none⟩ = some (.int .u64 a1_8) := (blk_cell BK173.out 8).trans rfl
              have hcz16_9 : w5.cell? ⟨gb173, 9, none⟩ = some (.slice A1_9 l1_9.length c1_9) := (blk_cell BK173.out 9).trans rfl
              have hfz16_0 := blk_frozen BK173.out 0
              have hfz16_1 := blk_frozen BK173.out 1
              have hfz16_2 := blk_frozen BK173.out 2
              have hfz16_3 := blk_frozen BK173.out 3
              have hfz16_4 := blk_frozen BK173.out 4
              have hfz16_5 := blk_frozen BK173.out 5
              have hfz16_6 := blk_frozen BK173.out 6
              have hfz16_7 := blk_frozen BK173.out 7
              have hfz16_8 := blk_frozen BK173.out 8
              have hfz16_9 := blk_frozen BK173.out 9
              go_wp2
              go_meet
              case rel => exact ⟨_, (true), (by first | rfl | (simp; done) | (simp [*]; done)), H', ⟨by first | omega | exact Nat.le_refl _⟩, ⟨by (with_reducible repeat (first | refine blk_drewN ?_ _ | refine blk_drew ?_ | refine blk_alloc ?_ _)); exact BK172.out⟩, ⟨by (with_reducible repeat (first | refine blk_drewN ?_ _ | refine blk_drew ?_ | refine blk_alloc ?_ _)); exact BK173.out⟩, ⟨by repeat (first | (with_reducible first | exact HB.out | apply below_alloc | apply pw_below_drewN | apply below_drew1 | refine below_set ?_ GE172.out | refine below_set ?_ GE173.out) | exact HB.out)⟩⟩
            · rw [if_neg c13] at H
              have c13b0 : (!(a0_6 == a1_6) || (!(a0_7 == a1_7))) = false := by simpa using c13
              clear c13
              by_cases c17 : a0_8 = a1_8
              · rw [if_pos c17] at H
                have c17b0 : (a0_8 == a1_8) = true := beq_iff_eq.mpr c17
                have c17b1 : (a0_8 != a1_8) = false := bne_eq_false_iff_eq.mpr c17
                clear c17
                have H' := Aside0.mk H
                clear H
                have hnb18 := NB172_173.out
                have hnc18 := NB173_172.out
                have hcz19_0 : w5.cell? ⟨gb172, 0, none⟩ = some (.int .i64 a0_0) := (blk_cell BK172.out 0).trans rfl
                have hcz19_1 : w5.cell? ⟨gb172, 1, none⟩ = some (.int .i64 a0_1) := (blk_cell BK172.out 1).trans rfl
                have hcz19_2 : w5.cell? ⟨gb172, 2, none⟩ = some (.int .i64 a0_2) := (blk_cell BK172.out 2).trans rfl
                have hcz19_3 : w5.cell? ⟨gb172, 3, none⟩ = some (.int .u64 a0_3) := (blk_cell BK172.out 3).trans rfl
                have hcz19_4 : w5.cell? ⟨gb172, 4, none⟩ = some (.int .u64 a0_4) := (blk_cell BK172.out 4).trans rfl
                have hcz19_5 : w5.cell? ⟨gb172, 5, none⟩ = some (.int .i64 a0_5) := (blk_cell BK172.out 5).trans rfl
                have hcz19_6 : w5.cell? ⟨gb172, 6, none⟩ = some (.int .u64 a0_6) := (blk_cell BK172.out 6).trans rfl
                have hcz19_7 : w5.cell? ⟨gb172, 7, none⟩ = some (.int .u64 a0_7) := (blk_cell BK172.out 7).trans rfl
                have hcz19_8 : w5.cell? ⟨gb172, 8, none⟩ = some (.int .u64 a0_8) := (blk_cell BK172.out 8).trans rfl
                have hcz19_9 : w5.cell? ⟨gb172, 9, none⟩ = some (.slice A0_9 l0_9.length c0_9) := (blk_cell BK172.out 9).trans rfl
                have hfz19_0 := blk_frozen BK172.out 0
                have hfz19_1 := blk_frozen BK172.out 1
                have hfz19_2 := blk_frozen BK172.out 2
                have hfz19_3 := blk_frozen BK172.out 3
                have hfz19_4 := blk_frozen BK172.out 4
                have hfz19_5 := blk_frozen BK172.out 5
                have hfz19_6 := blk_frozen BK172.out 6
                have hfz19_7 := blk_frozen BK172.out 7
                have hfz19_8 := blk_frozen BK172.out 8
                have hfz19_9 := blk_frozen BK172.out 9
                have hcz20_0 : w5.cell? ⟨gb173, 0, none⟩ = some (.int .i64 a1_0) := (blk_cell BK173.out 0).trans rfl
                have hcz20_1 : w5.cell? ⟨gb173, 1, none⟩ = some (.int .i64 a1_1) := (blk_cell BK173.out 1).trans rfl
                have hcz20_2 : w5.cell? ⟨gb173, 2, none⟩ = some (.int .i64 a1_2) := (blk_cell BK173.out 2).trans rfl
                have hcz20_3 : w5.cell? ⟨gb173, 3, none⟩ = some (.int .u64 a1_3) := (blk_cell BK173.out 3).trans rfl
                have hcz20_4 : w5.cell? ⟨gb173, 4, none⟩ = some (.int .u64 a1_4) := (blk_cell BK173.out 4).trans rfl
                have hcz20_5 : w5.cell? ⟨gb173, 5, none⟩ = some (.int .i64 a1_5) := (blk_cell BK173.out 5).trans rfl
                have hcz20_6 : w5.cell? ⟨gb173, 6, none⟩ = some (.int .u64 a1_6) := (blk_cell BK173.out 6).trans rfl
                have hcz20_7 : w5.cell? ⟨gb173, 7, none⟩ = some (.int .u64 a1_7) := (blk_cell BK173.out 7).trans rfl
                have hcz20_8 : w5.cell? ⟨gb173, 8, none⟩ = some (.int .u64 a1_8) := (blk_cell BK173.out 8).trans rfl
                have hcz20_9 : w5.cell? ⟨gb173, 9, none⟩ = some (.slice A1_9 l1_9.length c1_9) := (blk_cell BK173.out 9).trans rfl
                have hfz20_0 := blk_frozen BK173.out 0
                have hfz20_1 := blk_frozen BK173.out 1
                have hfz20_2 := blk_frozen BK173.out 2
                have hfz20_3 := blk_frozen BK173.out 3
                have hfz20_4 := blk_frozen BK173.out 4
                have hfz20_5 := blk_frozen BK173.out 5
                have hfz20_6 := blk_frozen BK173.out 6
                have hfz20_7 := blk_frozen BK173.out 7
                have hfz20_8 := blk_frozen BK173.out 8
                have hfz20_9 := blk_frozen BK173.out 9
                go_wp2
                go_meet
                case rel => exact ⟨_, (((l0_9.length : Int) != (l1_9.length : Int))), (by first | rfl | (simp; done) | (simp [*]; done)), H', ⟨by first | omega | exact Nat.le_refl _⟩, ⟨by (with_reducible repeat (first | refine blk_drewN ?_ _ | refine blk_drew ?_ | refine blk_alloc ?_ _)); exact BK172.out⟩, ⟨by (with_reducible repeat (first | refine blk_drewN ?_ _ | refine blk_drew ?_ | refine blk_alloc ?_ _)); exact BK173.out⟩, ⟨by repeat (first | (with_reducible first | exact HB.out | apply below_alloc | apply pw_below_drewN | apply below_drew1 | refine below_set ?_ GE172.out | refine below_set ?_ GE173.out) | exact HB.out)⟩⟩
              · rw [if_neg c17] at H
                have c17b0 : (a0_8 == a1_8) = false := beq_eq_false_iff_ne.mpr c17
                have c17b1 : (a0_8 != a1_8) = true := bne_iff_ne.mpr c17
                have H' := Aside0.mk H
                clear H
                have hnb21 := NB172_173.out
                have hnc21 := NB173_172.out
                have hcz22_0 : w5.cell? ⟨gb172, 0, none⟩ = some (.int .i64 a0_0) := (blk_cell BK172.out 0).trans rfl
                have hcz22_1 : w5.cell? ⟨gb172, 1, none⟩ = some (.int .i64 a0_1) := (blk_cell BK172.out 1).trans rfl
                have hcz22_2 : w5.cell? ⟨gb172, 2, none⟩ = some (.int .i64 a0_2) := (blk_cell BK172.out 2).trans rfl
                have hcz22_3 : w5.cell? ⟨gb172, 3, none⟩ = some (.int .u64 a0_3) := (blk_cell BK172.out 3).trans rfl
                have hcz22_4 : w5.cell? ⟨gb172, 4, none⟩ = some (.int .u64 a0_4) := (blk_cell BK172.out 4).trans rfl
                have hcz22_5 : w5.cell? ⟨gb172, 5, none⟩ = some (.int .i64 a0_5) := (blk_cell BK172.out 5).trans rfl
                have hcz22_6 : w5.cell? ⟨gb172, 6, none⟩ = some (.int .u64 a0_6) := (blk_cell BK172.out 6).trans rfl
                have hcz22_7 : w5.cell? ⟨gb172, 7, none⟩ = some (.int .u64 a0_7) := (blk_cell BK172.out 7).trans rfl
                have hcz22_8 : w5.cell? ⟨gb172, 8, none⟩ = some (.int .u64 a0_8) := (blk_cell BK172.out 8).trans rfl
                have hcz22_9 : w5.cell? ⟨gb172, 9, none⟩ = some (.slice A0_9 l0_9.length c0_9) := (blk_cell BK172.out 9).trans rfl
                have hfz22_0 := blk_frozen BK172.out 0
                have hfz22_1 := blk_frozen BK172.out 1
                have hfz22_2 := blk_frozen BK172.out 2
                have hfz22_3 := blk_frozen BK172.out 3
                have hfz22_4 := blk_frozen BK172.out 4
                have hfz22_5 := blk_frozen BK172.out 5
                have hfz22_6 := blk_frozen BK172.out 6
                have hfz22_7 := blk_frozen BK172.out 7
                have hfz22_8 := blk_frozen BK172.out 8
                have hfz22_9 := blk_frozen BK172.out 9
                have hcz23_0 : w5.cell? ⟨gb173, 0, none⟩ = some (.int .i64 a1_0) := (blk_cell BK173.out 0).trans rfl
                have hcz23_1 : w5.cell? ⟨gb173, 1, none⟩ = some (.int .i64 a1_1) := (blk_cell BK173.out 1).trans rfl
                have hcz23_2 : w5.cell? ⟨gb173, 2, none⟩ = some (.int .i64 a1_2) := (blk_cell BK173.out 2).trans rfl
                have hcz23_3 : w5.cell? ⟨gb173, 3, none⟩ = some (.int .u64 a1_3) := (blk_cell BK173.out 3).trans rfl
                have hcz23_4 : w5.cell? ⟨gb173, 4, none⟩ = some (.int .u64 a1_4) := (blk_cell BK173.out 4).trans rfl
                have hcz23_5 : w5.cell? ⟨gb173, 5, none⟩ = some (.int .i64 a1_5) := (blk_cell BK173.out 5).trans rfl
                have hcz23_6 : w5.cell? ⟨gb173, 6, none⟩ = some (.int .u64 a1_6) := (blk_cell BK173.out 6).trans rfl
                have hcz23_7 : w5.cell? ⟨gb173, 7, none⟩ = some (.int .u64 a1_7) := (blk_cell BK173.out 7).trans rfl
                have hcz23_8 : w5.cell? ⟨gb173, 8, none⟩ = some (.int .u64 a1_8) := (blk_cell BK173.out 8).trans rfl
                have hcz23_9 : w5.cell? ⟨gb173, 9, none⟩ = some (.slice A1_9 l1_9.length c1_9) := (blk_cell BK173.out 9).trans rfl
                have hfz23_0 := blk_frozen BK173.out 0
                have hfz23_1 := blk_frozen BK173.out 1
                have hfz23_2 := blk_frozen BK173.out 2
                have hfz23_3 := blk_frozen BK173.out 3
                have hfz23_4 := blk_frozen BK173.out 4
                have hfz23_5 := blk_frozen BK173.out 5
                have hfz23_6 := blk_frozen BK173.out 6
                have hfz23_7 := blk_frozen BK173.out 7
                have hfz23_8 := blk_frozen BK173.out 8
                have hfz23_9 := blk_frozen BK173.out 9
                go_wp2
                go_meet
                case rel => exact ⟨_, (true), (by first | rfl | (simp; done) | (simp [*]; done)), H', ⟨by first | omega | exact Nat.le_refl _⟩, ⟨by (with_reducible repeat (first | refine blk_drewN ?_ _ | refine blk_drew ?_ | refine blk_alloc ?_ _)); exact BK172.out⟩, ⟨by (with_reducible repeat (first | refine blk_drewN ?_ _ | refine blk_drew ?_ | refine blk_alloc ?_ _)); exact BK173.out⟩, ⟨by repeat (first | (with_reducible first | exact HB.out | apply below_alloc | apply pw_below_drewN | apply below_drew1 | refine below_set ?_ GE172.out | refine below_set ?_ GE173.out) | exact HB.out)⟩⟩
        · rw [if_neg c8] at H
          have c8b0 : (a0_2 == a1_2) = false := beq_eq_false_iff_ne.mpr c8
          have c8b1 : (a0_2 != a1_2) = true := bne_iff_ne.mpr c8
          have H' := Aside0.mk H
          clear H
          have hnb24 := NB172_173.out
          have hnc24 := NB173_172.out
          have hcz25_0 : w5.cell? ⟨gb172, 0, none⟩ = some (.int .i64 a0_0) := (blk_cell BK172.out 0).trans rfl
          have hcz25_1 : w5.cell? ⟨gb172, 1, none⟩ = some (.int .i64 a0_1) := (blk_cell BK172.out 1).trans rfl
          have hcz25_2 : w5.cell? ⟨gb172, 2, none⟩ = some (.int .i64 a0_2) := (blk_cell BK172.out 2).trans rfl
          have hcz25_3 : w5.cell? ⟨gb172, 3, none⟩ = some (.int .u64 a0_3) := (blk_cell BK172.out 3).trans rfl
          have hcz25_4 : w5.cell? ⟨gb172, 4, none⟩ = some (.int .u64 a0_4) := (blk_cell BK172.out 4).trans rfl
          have hcz25_5 : w5.cell? ⟨gb172, 5, none⟩ = some (.int .i64 a0_5) := (blk_cell BK172.out 5).trans rfl
          have hcz25_6 : w5.cell? ⟨gb172, 6, none⟩ = some (.int .u64 a0_6) := (blk_cell BK172.out 6).trans rfl
          have hcz25_7 : w5.cell? ⟨gb172, 7, none⟩ = some (.int .u64 a0_7) := (blk_cell BK172.out 7).trans rfl
          have hcz25_8 : w5.cell? ⟨gb172, 8, none⟩ = some (.int .u64 a0_8) := (blk_cell BK172.out 8).trans rfl
          have hcz25_9 : w5.cell? ⟨gb172, 9, none⟩ = some (.slice A0_9 l0_9.length c0_9) := (blk_cell BK172.out 9).trans rfl
          have hfz25_0 := blk_frozen BK172.out 0
          have hfz25_1 := blk_frozen BK172.out 1
          have hfz25_2 := blk_frozen BK172.out 2
          have hfz25_3 := blk_frozen BK172.out 3
          have hfz25_4 := blk_frozen BK172.out 4
          have hfz25_5 := blk_frozen BK172.out 5
          have hfz25_6 := blk_frozen BK172.out 6
          have hfz25_7 := blk_frozen BK172.out 7
          have hfz25_8 := blk_frozen BK172.out 8
          have hfz25_9 := blk_frozen BK172.out 9
          have hcz26_0 : w5.cell? ⟨gb173, 0, none⟩ = some (.int .i64 a1_0) := (blk_cell BK173.out 0).trans rfl
          have hcz26_1 : w5.cell? ⟨gb173, 1, none⟩ = some (.int .i64 a1_1) := (blk_cell BK173.out 1).trans rfl
          have hcz26_2 : w5.cell? ⟨gb173, 2, none⟩ = some (.int .i64 a1_2) := (blk_cell BK173.out 2).trans rfl
          have hcz26_3 : w5.cell? ⟨gb173, 3, none⟩ = some (.int .u64 a1_3) := (blk_cell BK173.out 3).trans rfl
          have hcz26_4 : w5.cell? ⟨gb173, 4, none⟩ = some (.int .u64 a1_4) := (blk_cell BK173.out 4).trans rfl
          have hcz26_5 : w5.cell? ⟨gb173, 5, none⟩ = some (.int .i64 a1_5) := (blk_cell BK173.out 5).trans rfl
          have hcz26_6 : w5.cell? ⟨gb173, 6, none⟩ = some (.int .u64 a1_6) := (blk_cell BK173.out 6).trans rfl
          have hcz26_7 : w5.cell? ⟨gb173, 7, none⟩ = some (.int .u64 a1_7) := (blk_cell BK173.out 7).trans rfl
          have hcz26_8 : w5.cell? ⟨gb173, 8, none⟩ = some (.int .u64 a1_8) := (blk_cell BK173.out 8).trans rfl
          have hcz26_9 : w5.cell? ⟨gb173, 9, none⟩ = some (.slice A1_9 l1_9.length c1_9) := (blk_cell BK173.out 9).trans rfl
          have hfz26_0 := blk_frozen BK173.out 0
          have hfz26_1 := blk_frozen BK173.out 1
          have hfz26_2 := blk_frozen BK173.out 2
          have hfz26_3 := blk_frozen BK173.out 3
          have hfz26_4 := blk_frozen BK173.out 4
          have hfz26_5 := blk_frozen BK173.out 5
          have hfz26_6 := blk_frozen BK173.out 6
          have hfz26_7 := blk_frozen BK173.out 7
          have hfz26_8 := blk_frozen BK173.out 8
          have hfz26_9 := blk_frozen BK173.out 9
          go_wp2
          go_meet
          case rel => exact ⟨_, (true), (by first | rfl | (simp; done) | (simp [*]; done)), H', ⟨by first | omega | exact Nat.le_refl _⟩, ⟨by (with_reducible repeat (first | refine blk_drewN ?_ _ | refine blk_drew ?_ | refine blk_alloc ?_ _)); exact BK172.out⟩, ⟨by (with_reducible repeat (first | refine blk_drewN ?_ _ | refine blk_drew ?_ | refine blk_alloc ?_ _)); exact BK173.out⟩, ⟨by repeat (first | (with_reducible first | exact HB.out | apply below_alloc | apply pw_below_drewN | apply below_drew1 | refine below_set ?_ GE172.out | refine below_set ?_ GE173.out) | exact HB.out)⟩⟩
      · rw [if_neg c7] at H
        have c7b0 : (a0_1 == a1_1) = false := beq_eq_false_iff_ne.mpr c7
        have c7b1 : (a0_1 != a1_1) = true := bne_iff_ne.mpr c7
        have H' := Aside0.mk H
        clear H
        have hnb27 := NB172_173.out
        have hnc27 := NB173_172.out
        have hcz28_0 : w5.cell? ⟨gb172, 0, none⟩ = some (.int .i64 a0_0) := (blk_cell BK172.out 0).trans rfl
        have hcz28_1 : w5.cell? ⟨gb172, 1, none⟩ = some (.int .i64 a0_1) := (blk_cell BK172.out 1).trans rfl
        have hcz28_2 : w5.cell? ⟨gb172, 2, none⟩ = some (.int .i64 a0_2) := (blk_cell BK172.out 2).trans rfl
        have hcz28_3 : w5.cell? ⟨gb172, 3, none⟩ = some (.int .u64 a0_3) := (blk_cell BK172.out 3).trans rfl
        have hcz28_4 : w5.cell? ⟨gb172, 4, none⟩ = some (.int .u64 a0_4) := (blk_cell BK172.out 4).trans rfl
        have hcz28_5 : w5.cell? ⟨gb172, 5, none⟩ = some (.int .i64 a0_5) := (blk_cell BK172.out 5).trans rfl
        have hcz28_6 : w5.cell? ⟨gb172, 6, none⟩ = some (.int .u64 a0_6) := (blk_cell BK172.out 6).trans rfl
        have hcz28_7 : w5.cell? ⟨gb172, 7, none⟩ = some (.int .u64 a0_7) := (blk_cell BK172.out 7).trans rfl
        have hcz28_8 : w5.cell? ⟨gb172, 8, none⟩ = some (.int .u64 a0_8) := (blk_cell BK172.out 8).trans rfl
        have hcz28_9 : w5.cell? ⟨gb172, 9, none⟩ = some (.slice A0_9 l0_9.length c0_9) := (blk_cell BK172.out 9).trans rfl
        have hfz28_0 := blk_frozen BK172.out 0
        have hfz28_1 := blk_frozen BK172.out 1
        have hfz28_2 := blk_frozen BK172.out 2
        have hfz28_3 := blk_frozen BK172.out 3
        have hfz28_4 := blk_frozen BK172.out 4
        have hfz28_5 := blk_frozen BK172.out 5
        have hfz28_6 := blk_frozen BK172.out 6
        have hfz28_7 := blk_frozen BK172.out 7
        have hfz28_8 := blk_frozen BK172.out 8
        have hfz28_9 := blk_frozen BK172.out 9
        have hcz29_0 : w5.cell? ⟨gb173, 0, none⟩ = some (.int .i64 a1_0) := (blk_cell BK173.out 0).trans rfl
        have hcz29_1 : w5.cell? ⟨gb173, 1, none⟩ = some (.int .i64 a1_1) := (blk_cell BK173.out 1).trans rfl
        have hcz29_2 : w5.cell? ⟨gb173, 2, none⟩ = some (.int .i64 a1_2) := (blk_cell BK173.out 2).trans rfl
        have hcz29_3 : w5.cell? ⟨gb173, 3, none⟩ = some (.int .u64 a1_3) := (blk_cell BK173.out 3).trans rfl
        have hcz29_4 : w5.cell? ⟨gb173, 4, none⟩ = some (.int .u64 a1_4) := (blk_cell BK173.out 4).trans rfl
        have hcz29_5 : w5.cell? ⟨gb173, 5, none⟩ = some (.int .i64 a1_5) := (blk_cell BK173.out 5).trans rfl
        have hcz29_6 : w5.cell? ⟨gb173, 6, none⟩ = some (.int .u64 a1_6) := (blk_cell BK173.out 6).trans rfl
        have hcz29_7 : w5.cell? ⟨gb173, 7, none⟩ = some (.int .u64 a1_7) := (blk_cell BK173.out 7).trans rfl
        have hcz29_8 : w5.cell? ⟨gb173, 8, none⟩ = some (.int .u64 a1_8) := (blk_cell BK173.out 8).trans rfl
        have hcz29_9 : w5.cell? ⟨gb173, 9, none⟩ = some (.slice A1_9 l1_9.length c1_9) := (blk_cell BK173.out 9).trans rfl
        have hfz29_0 := blk_frozen BK173.out 0
        have hfz29_1 := blk_frozen BK173.out 1
        have hfz29_2 := blk_frozen BK173.out 2
        have hfz29_3 := blk_frozen BK173.out 3
        have hfz29_4 := blk_frozen BK173.out 4
        have hfz29_5 := blk_frozen BK173.out 5
        have hfz29_6 := blk_frozen BK173.out 6
        have hfz29_7 := blk_frozen BK173.out 7
        have hfz29_8 := blk_frozen BK173.out 8
        have hfz29_9 := blk_frozen BK173.out 9
        go_wp2
        go_meet
        case rel => exact ⟨_, (true), (by first | rfl | (simp; done) | (simp [*]; done)), H', ⟨by first | omega | exact Nat.le_refl _⟩, ⟨by (with_reducible repeat (first | refine blk_drewN ?_ _ | refine blk_drew ?_ | refine blk_alloc ?_ _)); exact BK172.out⟩, ⟨by (with_reducible repeat (first | refine blk_drewN ?_ _ | refine blk_drew ?_ | refine blk_alloc ?_ _)); exact BK173.out⟩, ⟨by repeat (first | (with_reducible first | exact HB.out | apply below_alloc | apply pw_below_drewN | apply below_drew1 | refine below_set ?_ GE172.out | refine below_set ?_ GE173.out) | exact HB.out)⟩⟩
    · rw [if_neg c6] at H
      have c6b0 : (a0_0 == a1_0) = false := beq_eq_false_iff_ne.mpr c6
      have c6b1 : (a0_0 != a1_0) = true := bne_iff_ne.mpr c6
      (first | rw [c6b0] | (simp only [i64_w, i32_w]; rw [c6b0]) | skip)
      have H' := Aside0.mk H
      clear H
      have hnb30 := NB172_173.out
      have hnc30 := NB173_172.out
      have hcz31_0 : w5.cell? ⟨gb172, 0, none⟩ = some (.int .i64 a0_0) := (blk_cell BK172.out 0).trans rfl
      have hcz31_1 : w5.cell? ⟨gb172, 1, none⟩ = some (.int .i64 a0_1) := (blk_cell BK172.out 1).trans rfl
      have hcz31_2 : w5.cell? ⟨gb172, 2, none⟩ = some (.int .i64 a0_2) := (blk_cell BK172.out 2).trans rfl
      have hcz31_3 : w5.cell? ⟨gb172, 3, none⟩ = some (.int .u64 a0_3) := (blk_cell BK172.out 3).trans rfl
      have hcz31_4 : w5.cell? ⟨gb172, 4, none⟩ = some (.int .u64 a0_4) := (blk_cell BK172.out 4).trans rfl
      have hcz31_5 : w5.cell? ⟨gb172, 5, none⟩ = some (.int .i64 a0_5) := (blk_cell BK172.out 5).trans rfl
      have hcz31_6 : w5.cell? ⟨gb172, 6, none⟩ = some (.int .u64 a0_6) := (blk_cell BK172.out 6).trans rfl
      have hcz31_7 : w5.cell? ⟨gb172, 7, none⟩ = some (.int .u64 a0_7) := (blk_cell BK172.out 7).trans rfl
      have hcz31_8 : w5.cell? ⟨gb172, 8, none⟩ = some (.int .u64 a0_8) := (blk_cell BK172.out 8).trans rfl
      have hcz31_9 : w5.cell? ⟨gb172, 9, none⟩ = some (.slice A0_9 l0_9.length c0_9) := (blk_cell BK172.out 9).trans rfl
      have hfz31_0 := blk_frozen BK172.out 0
      have hfz31_1 := blk_frozen BK172.out 1
      have hfz31_2 := blk_frozen BK172.out 2
      have hfz31_3 := blk_frozen BK172.out 3
      have hfz31_4 := blk_frozen BK172.out 4
      have hfz31_5 := blk_frozen BK172.out 5
      have hfz31_6 := blk_frozen BK172.out 6
      have hfz31_7 := blk_frozen BK172.out 7
      have hfz31_8 := blk_frozen BK172.out 8
      have hfz31_9 := blk_frozen BK172.out 9
      have hcz32_0 : w5.cell? ⟨gb173, 0, none⟩ = some (.int .i64 a1_0) := (blk_cell BK173.out 0).trans rfl
      have hcz32_1 : w5.cell? ⟨gb173, 1, none⟩ = some (.int .i64 a1_1) := (blk_cell BK173.out 1).trans rfl
      have hcz32_2 : w5.cell? ⟨gb173, 2, none⟩ = some (.int .i64 a1_2) := (blk_cell BK173.out 2).trans rfl
      have hcz32_3 : w5.cell? ⟨gb173, 3, none⟩ = some (.int .u64 a1_3) := (blk_cell BK173.out 3).trans rfl
      have hcz32_4 : w5.cell? ⟨gb173, 4, none⟩ = some (.int .u64 a1_4) := (blk_cell BK173.out 4).trans rfl
      have hcz32_5 : w5.cell? ⟨gb173, 5, none⟩ = some (.int .i64 a1_5) := (blk_cell BK173.out 5).trans rfl
      have hcz32_6 : w5.cell? ⟨gb173, 6, none⟩ = some (.int .u64 a1_6) := (blk_cell BK173.out 6).trans rfl
      have hcz32_7 : w5.cell? ⟨gb173, 7, none⟩ = some (.int .u64 a1_7) := (blk_cell BK173.out 7).trans rfl
      have hcz32_8 : w5.cell? ⟨gb173, 8, none⟩ = some (.int .u64 a1_8) := (blk_cell BK173.out 8).trans rfl
      have hcz32_9 : w5.cell? ⟨gb173, 9, none⟩ = some (.slice A1_9 l1_9.length c1_9) := (blk_cell BK173.out 9).trans rfl
      have hfz32_0 := blk_frozen BK173.out 0
      have hfz32_1 := blk_frozen BK173.out 1
      have hfz32_2 := blk_frozen BK173.out 2
      have hfz32_3 := blk_frozen BK173.out 3
      have hfz32_4 := blk_frozen BK173.out 4
      have hfz32_5 := blk_frozen BK173.out 5
      have hfz32_6 := blk_frozen BK173.out 6
      have hfz32_7 := blk_frozen BK173.out 7
      have hfz32_8 := blk_frozen BK173.out 8
      have hfz32_9 := blk_frozen BK173.out 9
      go_wp2
      go_meet
      case rel => exact ⟨_, (true), (by first | rfl | (simp; done) | (simp [*]; done)), H', ⟨by first | omega | exact Nat.le_refl _⟩, ⟨by (with_reducible repeat (first | refine blk_drewN ?_ _ | refine blk_drew ?_ | refine blk_alloc ?_ _)); exact BK172.out⟩, ⟨by (with_reducible repeat (first | refine blk_drewN ?_ _ | refine blk_drew ?_ | refine blk_alloc ?_ _)); exact BK173.out⟩, ⟨by repeat (first | (with_reducible first | exact HB.out | apply below_alloc | apply pw_below_drewN | apply below_drew1 | refine below_set ?_ GE172.out | refine below_set ?_ GE173.out) | exact HB.out)⟩⟩
  case rest =>
    clear HC3
    try clear c1
    try clear c2
    try clear p2
    try clear c3
    try clear c6
    try clear c6b0
    try clear c6b1
    try clear c7
    try clear c7b0
    try clear c7b1
    try clear c8
    try clear c8b0
    try clear c8b1
    try clear c9
    try clear c9b0
    try clear c10
    try clear c11
    try clear c13
    try clear c13b0
    try clear c14
    try clear c17
    try clear c17b0
    try clear c17b1
    try clear c18
    try clear c21
    try clear c24
    try clear c27
    try clear c30
    try clear hcz11_0
    try clear hcz11_1
    try clear hcz11_2
    try clear hcz11_3
    try clear hcz11_4
    try clear hcz11_5
    try clear hcz11_6
    try clear hcz11_7
    try clear hcz11_8
    try clear hcz11_9
    try clear hcz12_0
    try clear hcz12_1
    try clear hcz12_2
    try clear hcz12_3
    try clear hcz12_4
    try clear hcz12_5
    try clear hcz12_6
    try clear hcz12_7
    try clear hcz12_8
    try clear hcz12_9
    try clear hcz15_0
    try clear hcz15_1
    try clear hcz15_2
    try clear hcz15_3
    try clear hcz15_4
    try clear hcz15_5
    try clear hcz15_6
    try clear hcz15_7
    try clear hcz15_8
    try clear hcz15_9
    try clear hcz16_0
    try clear hcz16_1
    try clear hcz16_2
    try clear hcz16_3
    try clear hcz16_4
    try clear hcz16_5
    try clear hcz16_6
    try clear hcz16_7
    try clear hcz16_8
    try clear hcz16_9
    try clear hcz19_0
    try clear hcz19_1
    try clear hcz19_2
    try clear hcz19_3
    try clear hcz19_4
    try clear hcz19_5
    try clear hcz19_6
    try clear hcz19_7
    try clear hcz19_8
    try clear hcz19_9
    try clear hcz20_0
    try clear hcz20_1
    try clear hcz20_2
    try clear hcz20_3
    try clear hcz20_4
    try clear hcz20_5
    try clear hcz20_6
    try clear hcz20_7
    try clear hcz20_8
    try clear hcz20_9
    try clear hcz22_0
    try clear hcz22_1
    try clear hcz22_2
    try clear hcz22_3
    try clear hcz22_4
    try clear hcz22_5
    try clear hcz22_6
    try clear hcz22_7
    try clear hcz22_8
    try clear hcz22_9
    try clear hcz23_0
    try clear hcz23_1
    try clear hcz23_2
    try clear hcz23_3
    try clear hcz23_4
    try clear hcz23_5
    try clear hcz23_6
    try clear hcz23_7
    try clear hcz23_8
    try clear hcz23_9
    try clear hcz25_0
    try clear hcz25_1
    try clear hcz25_2
    try clear hcz25_3
    try clear hcz25_4
    try clear hcz25_5
    try clear hcz25_6
    try clear hcz25_7
    try clear hcz25_8
    try clear hcz25_9
    try clear hcz26_0
    try clear hcz26_1
    try clear hcz26_2
    try clear hcz26_3
    try clear hcz26_4
    try clear hcz26_5
    try clear hcz26_6
    try clear hcz26_7
    try clear hcz26_8
    try clear hcz26_9
    try clear hcz28_0
    try clear hcz28_1
    try clear hcz28_2
    try clear hcz28_3
    try clear hcz28_4
    try clear hcz28_5
    try clear hcz28_6
    try clear hcz28_7
    try clear hcz28_8
    try clear hcz28_9
    try clear hcz29_0
    try clear hcz29_1
    try clear hcz29_2
    try clear hcz29_3
    try clear hcz29_4
    try clear hcz29_5
    try clear hcz29_6
    try clear hcz29_7
    try clear hcz29_8
    try clear hcz29_9
    try clear hcz31_0
    try clear hcz31_1
    try clear hcz31_2
    try clear hcz31_3
    try clear hcz31_4
    try clear hcz31_5
    try clear hcz31_6
    try clear hcz31_7
    try clear hcz31_8
    try clear hcz31_9
    try clear hcz32_0
    try clear hcz32_1
    try clear hcz32_2
    try clear hcz32_3
    try clear hcz32_4
    try clear hcz32_5
    try clear hcz32_6
    try clear hcz32_7
    try clear hcz32_8
    try clear hcz32_9
    try clear hfz11_0
    try clear hfz11_1
    try clear hfz11_2
    try clear hfz11_3
    try clear hfz11_4
    try clear hfz11_5
    try clear hfz11_6
    try clear hfz11_7
    try clear hfz11_8
    try clear hfz11_9
    try clear hfz12_0
    try clear hfz12_1
    try clear hfz12_2
    try clear hfz12_3
    try clear hfz12_4
    try clear hfz12_5
    try clear hfz12_6
    try clear hfz12_7
    try clear hfz12_8
    try clear hfz12_9
    try clear hfz15_0
    try clear hfz15_1
    try clear hfz15_2
    try clear hfz15_3
    try clear hfz15_4
    try clear hfz15_5
    try clear hfz15_6
    try clear hfz15_7
    try clear hfz15_8
    try clear hfz15_9
    try clear hfz16_0
    try clear hfz16_1
    try clear hfz16_2
    try clear hfz16_3
    try clear hfz16_4
    try clear hfz16_5
    try clear hfz16_6
    try clear hfz16_7
    try clear hfz16_8
    try clear hfz16_9
    try clear hfz19_0
    try clear hfz19_1
    try clear hfz19_2
    try clear hfz19_3
    try clear hfz19_4
    try clear hfz19_5
    try clear hfz19_6
    try clear hfz19_7
    try clear hfz19_8
    try clear hfz19_9
    try clear hfz20_0
    try clear hfz20_1
    try clear hfz20_2
    try clear hfz20_3
    try clear hfz20_4
    try clear hfz20_5
    try clear hfz20_6
    try clear hfz20_7
    try clear hfz20_8
    try clear hfz20_9
    try clear hfz22_0
    try clear hfz22_1
    try clear hfz22_2
    try clear hfz22_3
    try clear hfz22_4
    try clear hfz22_5
    try clear hfz22_6
    try clear hfz22_7
    try clear hfz22_8
    try clear hfz22_9
    try clear hfz23_0
    try clear hfz23_1
    try clear hfz23_2
    try clear hfz23_3
    try clear hfz23_4
    try clear hfz23_5
    try clear hfz23_6
    try clear hfz23_7
    try clear hfz23_8
    try clear hfz23_9
    try clear hfz25_0
    try clear hfz25_1
    try clear hfz25_2
    try clear hfz25_3
    try clear hfz25_4
    try clear hfz25_5
    try clear hfz25_6
    try clear hfz25_7
    try clear hfz25_8
    try clear hfz25_9
    try clear hfz26_0
    try clear hfz26_1
    try clear hfz26_2
    try clear hfz26_3
    try clear hfz26_4
    try clear hfz26_5
    try clear hfz26_6
    try clear hfz26_7
    try clear hfz26_8
    try clear hfz26_9
    try clear hfz28_0
    try clear hfz28_1
    try clear hfz28_2
    try clear hfz28_3
    try clear hfz28_4
    try clear hfz28_5
    try clear hfz28_6
    try clear hfz28_7
    try clear hfz28_8
    try clear hfz28_9
    try clear hfz29_0
    try clear hfz29_1
    try clear hfz29_2
    try clear hfz29_3
    try clear hfz29_4
    try clear hfz29_5
    try clear hfz29_6
    try clear hfz29_7
    try clear hfz29_8
    try clear hfz29_9
    try clear hfz31_0
    try clear hfz31_1
    try clear hfz31_2
    try clear hfz31_3
    try clear hfz31_4
    try clear hfz31_5
    try clear hfz31_6
    try clear hfz31_7
    try clear hfz31_8
    try clear hfz31_9
    try clear hfz32_0
    try clear hfz32_1
    try clear hfz32_2
    try clear hfz32_3
    try clear hfz32_4
    try clear hfz32_5
    try clear hfz32_6
    try clear hfz32_7
    try clear hfz32_8
    try clear hfz32_9
    obtain ⟨kq, x54_2, rfl, HA, HJ2, BK172, BK173, HB⟩ := hcut
    cases kq with
    | zero => exact absurd HA.out (by simp [flocculusref21_SameCommand.j0])
    | succ kj2 =>
      have H := HA.out
      clear HA
      simp only [flocculusref21_SameCommand.j0] at H
      by_cases c33 : x54_2 = true
      · subst c33
        have H1 : (some false) = some r := by rw [if_pos rfl] at H; exact H
        clear H
        have H := H1
        clear H1
        obtain rfl := Option.some.inj H
        go_wp2
        go_ret
        exact ⟨by first | rfl | (simp [errW_none, errW_some] <;> rfl) | (simp [*, errW_none, errW_some] <;> rfl), by repeat (first | (with_reducible first | exact HB.out | apply below_alloc | apply pw_below_drewN | apply below_drew1 | refine below_set ?_ GE172.out | refine below_set ?_ GE173.out) | exact HB.out)⟩
      · replace c33 := Bool.eq_false_iff.mpr c33
        subst c33
        have H1 : (flocculusref21_SameCommand.l0 kj2 0 a0_0 a0_1 a0_2 a0_3 a0_4 a0_5 a0_6 a0_7 a0_8 l0_9 a1_0 a1_1 a1_2 a1_3 a1_4 a1_5 a1_6 a1_7 a1_8 l1_9) = some r := by rw [if_neg (show ¬ (false = true) by decide)] at H; exact H
        clear H
        have H := H1
        clear H1
        have H' := Aside0.mk H
        clear H
        go_wp2
        go_loopg [5] kj2 (fun kq v5 w' => ∃ (x5_2 : Int), v5 = .int .i64 x5_2 ∧ Aside0 (flocculusref21_SameCommand.l0 kq x5_2 a0_0 a0_1 a0_2 a0_3 a0_4 a0_5 a0_6 a0_7 a0_8 l0_9 a1_0 a1_1 a1_2 a1_3 a1_4 a1_5 a1_6 a1_7 a1_8 l1_9 = some r) ∧ Aside0 (kq ≤ kj2) ∧ Aside0 (w'.heap[gb172]? = some (.cells #[.int .i64 a0_0, .int .i64 a0_1, .int .i64 a0_2, .int .u64 a0_3, .int .u64 a0_4, .int .i64 a0_5, .int .u64 a0_6, .int .u64 a0_7, .int .u64 a0_8, (.slice A0_9 l0_9.length c0_9)] 29 (0, 0))) ∧ Aside0 (w'.heap[gb173]? = some (.cells #[.int .i64 a1_0, .int .i64 a1_1, .int .i64 a1_2, .int .u64 a1_3, .int .u64 a1_4, .int .i64 a1_5, .int .u64 a1_6, .int .u64 a1_7, .int .u64 a1_8, (.slice A1_9 l1_9.length c1_9)] 29 (0, 0))) ∧ Aside0 (Below w.heap.size w w'))
        case atStart => exact ⟨(0), (by first | rfl | (simp; done) | (simp [*]; done)), H', ⟨Nat.le_refl _⟩, ⟨by (with_reducible repeat (first | refine blk_drewN ?_ _ | refine blk_drew ?_ | refine blk_alloc ?_ _)); exact BK172.out⟩, ⟨by (with_reducible repeat (first | refine blk_drewN ?_ _ | refine blk_drew ?_ | refine blk_alloc ?_ _)); exact BK173.out⟩, ⟨by repeat (first | (with_reducible first | exact HB.out | apply below_alloc | apply pw_below_drewN | apply below_drew1 | refine below_set ?_ GE172.out | refine below_set ?_ GE173.out) | exact HB.out)⟩⟩
        case round =>
          clear H'
          try clear c1
          try clear c2
          try clear p2
          try clear c3
          try clear c6
          try clear c6b0
          try clear c6b1
          try clear c7
          try clear c7b0
          try clear c7b1
          try clear c8
          try clear c8b0
          try clear c8b1
          try clear c9
          try clear c9b0
          try clear c10
          try clear c11
          try clear c13
          try clear c13b0
          try clear c14
          try clear c17
          try clear c17b0
          try clear c17b1
          try clear c18
          try clear c21
          try clear c24
          try clear c27
          try clear c30
          try clear c33
          try clear hcz11_0
          try clear hcz11_1
          try clear hcz11_2
          try clear hcz11_3
          try clear hcz11_4
          try clear hcz11_5
          try clear hcz11_6
          try clear hcz11_7
          try clear hcz11_8
          try clear hcz11_9
          try clear hcz12_0
          try clear hcz12_1
          try clear hcz12_2
          try clear hcz12_3
          try clear hcz12_4
          try clear hcz12_5
          try clear hcz12_6
          try clear hcz12_7
          try clear hcz12_8
          try clear hcz12_9
          try clear hcz15_0
          try clear hcz15_1
          try clear hcz15_2
          try clear hcz15_3
          try clear hcz15_4
          try clear hcz15_5
          try clear hcz15_6
          try clear hcz15_7
          try clear hcz15_8
          try clear hcz15_9
          try clear hcz16_0
          try clear hcz16_1
          try clear hcz16_2
          try clear hcz16_3
          try clear hcz16_4
          try clear hcz16_5
          try clear hcz16_6
          try clear hcz16_7
          try clear hcz16_8
          try clear hcz16_9
          try clear hcz19_0
          try clear hcz19_1
          try clear hcz19_2
          try clear hcz19_3
          try clear hcz19_4
          try clear hcz19_5
          try clear hcz19_6
          try clear hcz19_7
          try clear hcz19_8
          try clear hcz19_9
          try clear hcz20_0
          try clear hcz20_1
          try clear hcz20_2
          try clear hcz20_3
          try clear hcz20_4
          try clear hcz20_5
          try clear hcz20_6
          try clear hcz20_7
          try clear hcz20_8
          try clear hcz20_9
          try clear hcz22_0
          try clear hcz22_1
          try clear hcz22_2
          try clear hcz22_3
          try clear hcz22_4
          try clear hcz22_5
          try clear hcz22_6
          try clear hcz22_7
          try clear hcz22_8
          try clear hcz22_9
          try clear hcz23_0
          try clear hcz23_1
          try clear hcz23_2
          try clear hcz23_3
          try clear hcz23_4
          try clear hcz23_5
          try clear hcz23_6
          try clear hcz23_7
          try clear hcz23_8
          try clear hcz23_9
          try clear hcz25_0
          try clear hcz25_1
          try clear hcz25_2
          try clear hcz25_3
          try clear hcz25_4
          try clear hcz25_5
          try clear hcz25_6
          try clear hcz25_7
          try clear hcz25_8
          try clear hcz25_9
          try clear hcz26_0
          try clear hcz26_1
          try clear hcz26_2
          try clear hcz26_3
          try clear hcz26_4
          try clear hcz26_5
          try clear hcz26_6
          try clear hcz26_7
          try clear hcz26_8
          try clear hcz26_9
          try clear hcz28_0
          try clear hcz28_1
          try clear hcz28_2
          try clear hcz28_3
          try clear hcz28_4
          try clear hcz28_5
          try clear hcz28_6
          try clear hcz28_7
          try clear hcz28_8
          try clear hcz28_9
          try clear hcz29_0
          try clear hcz29_1
          try clear hcz29_2
          try clear hcz29_3
          try clear hcz29_4
          try clear hcz29_5
          try clear hcz29_6
          try clear hcz29_7
          try clear hcz29_8
          try clear hcz29_9
          try clear hcz31_0
          try clear hcz31_1
          try clear hcz31_2
          try clear hcz31_3
          try clear hcz31_4
          try clear hcz31_5
          try clear hcz31_6
          try clear hcz31_7
          try clear hcz31_8
          try clear hcz31_9
          try clear hcz32_0
          try clear hcz32_1
          try clear hcz32_2
          try clear hcz32_3
          try clear hcz32_4
          try clear hcz32_5
          try clear hcz32_6
          try clear hcz32_7
          try clear hcz32_8
          try clear hcz32_9
          try clear hfz11_0
          try clear hfz11_1
          try clear hfz11_2
          try clear hfz11_3
          try clear hfz11_4
          try clear hfz11_5
          try clear hfz11_6
          try clear hfz11_7
          try clear hfz11_8
          try clear hfz11_9
          try clear hfz12_0
          try clear hfz12_1
          try clear hfz12_2
          try clear hfz12_3
          try clear hfz12_4
          try clear hfz12_5
          try clear hfz12_6
          try clear hfz12_7
          try clear hfz12_8
          try clear hfz12_9
          try clear hfz15_0
          try clear hfz15_1
          try clear hfz15_2
          try clear hfz15_3
          try clear hfz15_4
          try clear hfz15_5
          try clear hfz15_6
          try clear hfz15_7
          try clear hfz15_8
          try clear hfz15_9
          try clear hfz16_0
          try clear hfz16_1
          try clear hfz16_2
          try clear hfz16_3
          try clear hfz16_4
          try clear hfz16_5
          try clear hfz16_6
          try clear hfz16_7
          try clear hfz16_8
          try clear hfz16_9
          try clear hfz19_0
          try clear hfz19_1
          try clear hfz19_2
          try clear hfz19_3
          try clear hfz19_4
          try clear hfz19_5
          try clear hfz19_6
          try clear hfz19_7
          try clear hfz19_8
          try clear hfz19_9
          try clear hfz20_0
          try clear hfz20_1
          try clear hfz20_2
          try clear hfz20_3
          try clear hfz20_4
          try clear hfz20_5
          try clear hfz20_6
          try clear hfz20_7
          try clear hfz20_8
          try clear hfz20_9
          try clear hfz22_0
          try clear hfz22_1
          try clear hfz22_2
          try clear hfz22_3
          try clear hfz22_4
          try clear hfz22_5
          try clear hfz22_6
          try clear hfz22_7
          try clear hfz22_8
          try clear hfz22_9
          try clear hfz23_0
          try clear hfz23_1
          try clear hfz23_2
          try clear hfz23_3
          try clear hfz23_4
          try clear hfz23_5
          try clear hfz23_6
          try clear hfz23_7
          try clear hfz23_8
          try clear hfz23_9
          try clear hfz25_0
          try clear hfz25_1
          try clear hfz25_2
          try clear hfz25_3
          try clear hfz25_4
          try clear hfz25_5
          try clear hfz25_6
          try clear hfz25_7
          try clear hfz25_8
          try clear hfz25_9
          try clear hfz26_0
          try clear hfz26_1
          try clear hfz26_2
          try clear hfz26_3
          try clear hfz26_4
          try clear hfz26_5
          try clear hfz26_6
          try clear hfz26_7
          try clear hfz26_8
          try clear hfz26_9
          try clear hfz28_0
          try clear hfz28_1
          try clear hfz28_2
          try clear hfz28_3
          try clear hfz28_4
          try clear hfz28_5
          try clear hfz28_6
          try clear hfz28_7
          try clear hfz28_8
          try clear hfz28_9
          try clear hfz29_0
          try clear hfz29_1
          try clear hfz29_2
          try clear hfz29_3
          try clear hfz29_4
          try clear hfz29_5
          try clear hfz29_6
          try clear hfz29_7
          try clear hfz29_8
          try clear hfz29_9
          try clear hfz31_0
          try clear hfz31_1
          try clear hfz31_2
          try clear hfz31_3
          try clear hfz31_4
          try clear hfz31_5
          try clear hfz31_6
          try clear hfz31_7
          try clear hfz31_8
          try clear hfz31_9
          try clear hfz32_0
          try clear hfz32_1
          try clear hfz32_2
          try clear hfz32_3
          try clear hfz32_4
          try clear hfz32_5
          try clear hfz32_6
          try clear hfz32_7
          try clear hfz32_8
          try clear hfz32_9
          try clear p2
          obtain ⟨x5_2, rfl, HA, HK2, BK172, BK173, HB⟩ := hrel
          cases gk with
          | zero => exact absurd HA.out (by simp [flocculusref21_SameCommand.l0])
          | succ k2 =>
            have H := HA.out
            clear HA
            simp only [flocculusref21_SameCommand.l0] at H
            by_cases c34 : x5_2 < (l0_9.length : Int)
            · rw [if_pos c34] at H
              have c34b0 : decide (x5_2 < (l0_9.length : Int)) = true := decide_eq_true c34
              clear c34
              by_cases c35 : 0 ≤ x5_2
              · rw [if_pos c35] at H
                have c35b0 : decide (0 ≤ x5_2) = true := decide_eq_true c35
                clear c35
                by_cases c36 : x5_2 < (l1_9.length : Int)
                · rw [if_pos c36] at H
                  have c36b0 : decide (x5_2 < (l1_9.length : Int)) = true := decide_eq_true c36
                  clear c36
                  replace H := Option.bind_eq_some_iff.mp H
                  obtain ⟨t176, A370, H⟩ := H
                  replace H : (if t176 = true then (flocculusref21_SameCommand.l0 k2 (wrap64 (x5_2 + 1)) a0_0 a0_1 a0_2 a0_3 a0_4 a0_5 a0_6 a0_7 a0_8 l0_9 a1_0 a1_1 a1_2 a1_3 a1_4 a1_5 a1_6 a1_7 a1_8 l1_9) else (some false)) = some r := H
                  have A37 := Aside0.mk A370
                  clear A370
                  by_cases c38 : t176 = true
                  · subst c38
                    have H1 : (flocculusref21_SameCommand.l0 k2 (wrap64 (x5_2 + 1)) a0_0 a0_1 a0_2 a0_3 a0_4 a0_5 a0_6 a0_7 a0_8 l0_9 a1_0 a1_1 a1_2 a1_3 a1_4 a1_5 a1_6 a1_7 a1_8 l1_9) = some r := by rw [if_pos rfl] at H; exact H
                    clear H
                    have H := H1
                    clear H1
                    have H' := Aside0.mk H
                    clear H
                    have hnb39 := NB172_173.out
                    have hnc39 := NB173_172.out
                    have hcz40_0 : wr.cell? ⟨gb172, 0, none⟩ = some (.int .i64 a0_0) := (blk_cell BK172.out 0).trans rfl
                    have hcz40_1 : wr.cell? ⟨gb172, 1, none⟩ = some (.int .i64 a0_1) := (blk_cell BK172.out 1).trans rfl
                    have hcz40_2 : wr.cell? ⟨gb172, 2, none⟩ = some (.int .i64 a0_2) := (blk_cell BK172.out 2).trans rfl
                    have hcz40_3 : wr.cell? ⟨gb172, 3, none⟩ = some (.int .u64 a0_3) := (blk_cell BK172.out 3).trans rfl
                    have hcz40_4 : wr.cell? ⟨gb172, 4, none⟩ = some (.int .u64 a0_4) := (blk_cell BK172.out 4).trans rfl
                    have hcz40_5 : wr.cell? ⟨gb172, 5, none⟩ = some (.int .i64 a0_5) := (blk_cell BK172.out 5).trans rfl
                    have hcz40_6 : wr.cell? ⟨gb172, 6, none⟩ = some (.int .u64 a0_6) := (blk_cell BK172.out 6).trans rfl
                    have hcz40_7 : wr.cell? ⟨gb172, 7, none⟩ = some (.int .u64 a0_7) := (blk_cell BK172.out 7).trans rfl
                    have hcz40_8 : wr.cell? ⟨gb172, 8, none⟩ = some (.int .u64 a0_8) := (blk_cell BK172.out 8).trans rfl
                    have hcz40_9 : wr.cell? ⟨gb172, 9, none⟩ = some (.slice A0_9 l0_9.length c0_9) := (blk_cell BK172.out 9).trans rfl
                    have hfz40_0 := blk_frozen BK172.out 0
                    have hfz40_1 := blk_frozen BK172.out 1
                    have hfz40_2 := blk_frozen BK172.out 2
                    have hfz40_3 := blk_frozen BK172.out 3
                    have hfz40_4 := blk_frozen BK172.out 4
                    have hfz40_5 := blk_frozen BK172.out 5
                    have hfz40_6 := blk_frozen BK172.out 6
                    have hfz40_7 := blk_frozen BK172.out 7
                    have hfz40_8 := blk_frozen BK172.out 8
                    have hfz40_9 := blk_frozen BK172.out 9
                    try go_wp2
                    have n0_ := Aside0.mk (blk_drew BK172.out)
                    have n1_ := Aside0.mk (blk_drew BK173.out)
                    have n2_ := Aside0.mk (below_drew1 HB.out)
                    clear BK172
                    clear BK173
                    clear HB
                    have BK172 := n0_
                    have BK173 := n1_
                    have HB := n2_
                    clear n0_ n1_ n2_
                    have p174 : 0 ≤ (x5_2 : Int) := of_decide_eq_true (by first | (with_reducible assumption) | assumption)
                    have q174 : x5_2 < (l0_9.length : Int) := of_decide_eq_true (by first | (with_reducible assumption) | assumption)
                    obtain ⟨ad174, A174_9, c174_9, e174, hx174_0, hx174_1, hx174_2, hx174_3, hx174_4, hx174_5, hx174_6, hx174_7, hx174_8, hx174_9, hl174_9, hi174_9⟩ := at_T29 HR0_9.out x5_2 p174 q174
                    have hw174_9 := hx174_9
                    have hw174_8 := hx174_8
                    have hw174_7 := hx174_7
                    have hw174_6 := hx174_6
                    have hw174_5 := hx174_5
                    have hw174_4 := hx174_4
                    have hw174_3 := hx174_3
                    have hw174_2 := hx174_2
                    have hw174_1 := hx174_1
                    have hw174_0 := hx174_0
                    cases e174
                    replace hx174_0 := (HB.out.cell (World.block_lt_of_cell? w _ hx174_0)).trans hx174_0
                    replace hx174_1 := (HB.out.cell (World.block_lt_of_cell? w _ hx174_1)).trans hx174_1
                    replace hx174_2 := (HB.out.cell (World.block_lt_of_cell? w _ hx174_2)).trans hx174_2
                    replace hx174_3 := (HB.out.cell (World.block_lt_of_cell? w _ hx174_3)).trans hx174_3
                    replace hx174_4 := (HB.out.cell (World.block_lt_of_cell? w _ hx174_4)).trans hx174_4
                    replace hx174_5 := (HB.out.cell (World.block_lt_of_cell? w _ hx174_5)).trans hx174_5
                    replace hx174_6 := (HB.out.cell (World.block_lt_of_cell? w _ hx174_6)).trans hx174_6
                    replace hx174_7 := (HB.out.cell (World.block_lt_of_cell? w _ hx174_7)).trans hx174_7
                    replace hx174_8 := (HB.out.cell (World.block_lt_of_cell? w _ hx174_8)).trans hx174_8
                    replace hx174_9 := (HB.out.cell (World.block_lt_of_cell? w _ hx174_9)).trans hx174_9
                    have HR174_9 := Aside0.mk hi174_9
                    have HC174_9 := Aside0.mk hl174_9
                    clear hi174_9 hl174_9
                    replace p174 := eq_true p174
                    replace q174 := eq_true q174
                    have p175 : 0 ≤ (x5_2 : Int) := of_decide_eq_true (by first | (with_reducible assumption) | assumption)
                    have q175 : x5_2 < (l1_9.length : Int) := of_decide_eq_true (by first | (with_reducible assumption) | assumption)
                    obtain ⟨ad175, A175_9, c175_9, e175, hx175_0, hx175_1, hx175_2, hx175_3, hx175_4, hx175_5, hx175_6, hx175_7, hx175_8, hx175_9, hl175_9, hi175_9⟩ := at_T29 HR1_9.out x5_2 p175 q175
                    have hw175_9 := hx175_9
                    have hw175_8 := hx175_8
                    have hw175_7 := hx175_7
                    have hw175_6 := hx175_6
                    have hw175_5 := hx175_5
                    have hw175_4 := hx175_4
                    have hw175_3 := hx175_3
                    have hw175_2 := hx175_2
                    have hw175_1 := hx175_1
                    have hw175_0 := hx175_0
                    cases e175
                    replace hx175_0 := (HB.out.cell (World.block_lt_of_cell? w _ hx175_0)).trans hx175_0
                    replace hx175_1 := (HB.out.cell (World.block_lt_of_cell? w _ hx175_1)).trans hx175_1
                    replace hx175_2 := (HB.out.cell (World.block_lt_of_cell? w _ hx175_2)).trans hx175_2
                    replace hx175_3 := (HB.out.cell (World.block_lt_of_cell? w _ hx175_3)).trans hx175_3
                    replace hx175_4 := (HB.out.cell (World.block_lt_of_cell? w _ hx175_4)).trans hx175_4
                    replace hx175_5 := (HB.out.cell (World.block_lt_of_cell? w _ hx175_5)).trans hx175_5
                    replace hx175_6 := (HB.out.cell (World.block_lt_of_cell? w _ hx175_6)).trans hx175_6
                    replace hx175_7 := (HB.out.cell (World.block_lt_of_cell? w _ hx175_7)).trans hx175_7
                    replace hx175_8 := (HB.out.cell (World.block_lt_of_cell? w _ hx175_8)).trans hx175_8
                    replace hx175_9 := (HB.out.cell (World.block_lt_of_cell? w _ hx175_9)).trans hx175_9
                    have HR175_9 := Aside0.mk hi175_9
                    have HC175_9 := Aside0.mk hl175_9
                    clear hi175_9 hl175_9
                    replace p175 := eq_true p175
                    replace q175 := eq_true q175
                    refine start_ (n := 12) (S := fun w' => w'.cell? ⟨gb172, 0, none⟩ = some (.int .i64 a0_0) ∧ w'.cell? ⟨gb172, 1, none⟩ = some (.int .i64 a0_1) ∧ w'.cell? ⟨gb172, 2, none⟩ = some (.int .i64 a0_2) ∧ w'.cell? ⟨gb172, 3, none⟩ = some (.int .u64 a0_3) ∧ w'.cell? ⟨gb172, 4, none⟩ = some (.int .u64 a0_4) ∧ w'.cell? ⟨gb172, 5, none⟩ = some (.int .i64 a0_5) ∧ w'.cell? ⟨gb172, 6, none⟩ = some (.int .u64 a0_6) ∧ w'.cell? ⟨gb172, 7, none⟩ = some (.int .u64 a0_7) ∧ w'.cell? ⟨gb172, 8, none⟩ = some (.int .u64 a0_8) ∧ w'.cell? ⟨gb172, 9, none⟩ = some (.slice (some ad174) l0_9.length c0_9) ∧ w'.cell? ⟨gb173, 0, none⟩ = some (.int .i64 a1_0) ∧ w'.cell? ⟨gb173, 1, none⟩ = some (.int .i64 a1_1) ∧ w'.cell? ⟨gb173, 2, none⟩ = some (.int .i64 a1_2) ∧ w'.cell? ⟨gb173, 3, none⟩ = some (.int .u64 a1_3) ∧ w'.cell? ⟨gb173, 4, none⟩ = some (.int .u64 a1_4) ∧ w'.cell? ⟨gb173, 5, none⟩ = some (.int .i64 a1_5) ∧ w'.cell? ⟨gb173, 6, none⟩ = some (.int .u64 a1_6) ∧ w'.cell? ⟨gb173, 7, none⟩ = some (.int .u64 a1_7) ∧ w'.cell? ⟨gb173, 8, none⟩ = some (.int .u64 a1_8) ∧ w'.cell? ⟨gb173, 9, none⟩ = some (.slice (some ad175) l1_9.length c1_9) ∧ w'.cell? (ad174.add ((x5_2).toNat * 10)) = some (.int .i64 ((rd_T29 l0_9 x5_2).f0)) ∧ w'.cell? ⟨(ad174.add ((x5_2).toNat * 10)).block, (ad174.add ((x5_2).toNat * 10)).off + 1, none⟩ = some (.int .i64 ((rd_T29 l0_9 x5_2).f1)) ∧ w'.cell? ⟨(ad174.add ((x5_2).toNat * 10)).block, (ad174.add ((x5_2).toNat * 10)).off + 2, none⟩ = some (.int .i64 ((rd_T29 l0_9 x5_2).f2)) ∧ w'.cell? ⟨(ad174.add ((x5_2).toNat * 10)).block, (ad174.add ((x5_2).toNat * 10)).off + 3, none⟩ = some (.int .u64 ((rd_T29 l0_9 x5_2).f3.f0.f0)) ∧ w'.cell? ⟨(ad174.add ((x5_2).toNat * 10)).block, (ad174.add ((x5_2).toNat * 10)).off + 4, none⟩ = some (.int .u64 ((rd_T29 l0_9 x5_2).f3.f0.f1)) ∧ w'.cell? ⟨(ad174.add ((x5_2).toNat * 10)).block, (ad174.add ((x5_2).toNat * 10)).off + 5, none⟩ = some (.int .i64 ((rd_T29 l0_9 x5_2).f3.f1)) ∧ w'.cell? ⟨(ad174.add ((x5_2).toNat * 10)).block, (ad174.add ((x5_2).toNat * 10)).off + 6, none⟩ = some (.int .u64 ((rd_T29 l0_9 x5_2).f4.f0)) ∧ w'.cell? ⟨(ad174.add ((x5_2).toNat * 10)).block, (ad174.add ((x5_2).toNat * 10)).off + 7, none⟩ = some (.int .u64 ((rd_T29 l0_9 x5_2).f4.f1)) ∧ w'.cell? ⟨(ad174.add ((x5_2).toNat * 10)).block, (ad174.add ((x5_2).toNat * 10)).off + 8, none⟩ = some (.int .u64 ((rd_T29 l0_9 x5_2).f5)) ∧ w'.cell? ⟨(ad174.add ((x5_2).toNat * 10)).block, (ad174.add ((x5_2).toNat * 10)).off + 9, none⟩ = some (.slice A174_9 ((rd_T29 l0_9 x5_2).f6).length c174_9) ∧ w'.cell? (ad175.add ((x5_2).toNat * 10)) = some (.int .i64 ((rd_T29 l1_9 x5_2).f0)) ∧ w'.cell? ⟨(ad175.add ((x5_2).toNat * 10)).block, (ad175.add ((x5_2).toNat * 10)).off + 1, none⟩ = some (.int .i64 ((rd_T29 l1_9 x5_2).f1)) ∧ w'.cell? ⟨(ad175.add ((x5_2).toNat * 10)).block, (ad175.add ((x5_2).toNat * 10)).off + 2, none⟩ = some (.int .i64 ((rd_T29 l1_9 x5_2).f2)) ∧ w'.cell? ⟨(ad175.add ((x5_2).toNat * 10)).block, (ad175.add ((x5_2).toNat * 10)).off + 3, none⟩ = some (.int .u64 ((rd_T29 l1_9 x5_2).f3.f0.f0)) ∧ w'.cell? ⟨(ad175.add ((x5_2).toNat * 10)).block, (ad175.add ((x5_2).toNat * 10)).off + 4, none⟩ = some (.int .u64 ((rd_T29 l1_9 x5_2).f3.f0.f1)) ∧ w'.cell? ⟨(ad175.add ((x5_2).toNat * 10)).block, (ad175.add ((x5_2).toNat * 10)).off + 5, none⟩ = some (.int .i64 ((rd_T29 l1_9 x5_2).f3.f1)) ∧ w'.cell? ⟨(ad175.add ((x5_2).toNat * 10)).block, (ad175.add ((x5_2).toNat * 10)).off + 6, none⟩ = some (.int .u64 ((rd_T29 l1_9 x5_2).f4.f0)) ∧ w'.cell? ⟨(ad175.add ((x5_2).toNat * 10)).block, (ad175.add ((x5_2).toNat * 10)).off + 7, none⟩ = some (.int .u64 ((rd_T29 l1_9 x5_2).f4.f1)) ∧ w'.cell? ⟨(ad175.add ((x5_2).toNat * 10)).block, (ad175.add ((x5_2).toNat * 10)).off + 8, none⟩ = some (.int .u64 ((rd_T29 l1_9 x5_2).f5)) ∧ w'.cell? ⟨(ad175.add ((x5_2).toNat * 10)).block, (ad175.add ((x5_2).toNat * 10)).off + 9, none⟩ = some (.slice A175_9 ((rd_T29 l1_9 x5_2).f6).length c175_9)) (ds := []) #[false, false, false, false, false, false, false, false, false, false, false, false] (by kernel_rfl) rfl rfl ⟨(blk_cell BK172.out 0).trans rfl, (blk_cell BK172.out 1).trans rfl, (blk_cell BK172.out 2).trans rfl, (blk_cell BK172.out 3).trans rfl, (blk_cell BK172.out 4).trans rfl, (blk_cell BK172.out 5).trans rfl, (blk_cell BK172.out 6).trans rfl, (blk_cell BK172.out 7).trans rfl, (blk_cell BK172.out 8).trans rfl, (blk_cell BK172.out 9).trans rfl, (blk_cell BK173.out 0).trans rfl, (blk_cell BK173.out 1).trans rfl, (blk_cell BK173.out 2).trans rfl, (blk_cell BK173.out 3).trans rfl, (blk_cell BK173.out 4).trans rfl, (blk_cell BK173.out 5).trans rfl, (blk_cell BK173.out 6).trans rfl, (blk_cell BK173.out 7).trans rfl, (blk_cell BK173.out 8).trans rfl, (blk_cell BK173.out 9).trans rfl, ((HB.out.cell (World.block_lt_of_cell? w _ hw174_0)).trans hw174_0), ((HB.out.cell (World.block_lt_of_cell? w _ hw174_1)).trans hw174_1), ((HB.out.cell (World.block_lt_of_cell? w _ hw174_2)).trans hw174_2), ((HB.out.cell (World.block_lt_of_cell? w _ hw174_3)).trans hw174_3), ((HB.out.cell (World.block_lt_of_cell? w _ hw174_4)).trans hw174_4), ((HB.out.cell (World.block_lt_of_cell? w _ hw174_5)).trans hw174_5), ((HB.out.cell (World.block_lt_of_cell? w _ hw174_6)).trans hw174_6), ((HB.out.cell (World.block_lt_of_cell? w _ hw174_7)).trans hw174_7), ((HB.out.cell (World.block_lt_of_cell? w _ hw174_8)).trans hw174_8), ((HB.out.cell (World.block_lt_of_cell? w _ hw174_9)).trans hw174_9), ((HB.out.cell (World.block_lt_of_cell? w _ hw175_0)).trans hw175_0), ((HB.out.cell (World.block_lt_of_cell? w _ hw175_1)).trans hw175_1), ((HB.out.cell (World.block_lt_of_cell? w _ hw175_2)).trans hw175_2), ((HB.out.cell (World.block_lt_of_cell? w _ hw175_3)).trans hw175_3), ((HB.out.cell (World.block_lt_of_cell? w _ hw175_4)).trans hw175_4), ((HB.out.cell (World.block_lt_of_cell? w _ hw175_5)).trans hw175_5), ((HB.out.cell (World.block_lt_of_cell? w _ hw175_6)).trans hw175_6), ((HB.out.cell (World.block_lt_of_cell? w _ hw175_7)).trans hw175_7), ((HB.out.cell (World.block_lt_of_cell? w _ hw175_8)).trans hw175_8), ((HB.out.cell (World.block_lt_of_cell? w _ hw175_9)).trans hw175_9)⟩ (fun hHeld => ?_); refine with_tabW flocculusref21_SameCommand.tab6 flocculusref21_SameCommand.bits6 (fun HT_ HW_ => ?_)
                    generalize wr.drew = w41 at BK172 BK173 HB HR174_9 HR175_9 hx174_0 hx174_1 hx174_2 hx174_3 hx174_4 hx174_5 hx174_6 hx174_7 hx174_8 hx174_9 hx175_0 hx175_1 hx175_2 hx175_3 hx175_4 hx175_5 hx175_6 hx175_7 hx175_8 hx175_9 hHeld ⊢
                    refine pure_ (i := 0) (N := some 62) (v := ?_) (a' := ?_) #[true, false, false, false, false, false, false, false, false, false, false, false] rfl rfl (any_of HT_.out (by kernel_rfl)) (fun _ _ _ h => h) (Or.inl ⟨by rfl, ?_⟩) ?_ ?_
                    rotate_left
                    · intro w'
                      go_simp
                      with_reducible rfl
                    rotate_left
                    · simp only [Act.put, List.setIfInBounds_toArray, List.set_cons_zero, List.set_cons_succ, i64_w, i32_w]
                      rfl
                    refine pure_ (i := 2) (N := some 64) (v := ?_) (a' := ?_) #[true, false, true, false, false, false, false, false, false, false, false, false] rfl rfl (any_of HT_.out (by kernel_rfl)) (fun _ _ _ h => h) (Or.inl ⟨by rfl, ?_⟩) ?_ ?_
                    rotate_left
                    · intro w'
                      go_simp
                      with_reducible rfl
                    rotate_left
                    · simp only [Act.put, List.setIfInBounds_toArray, List.set_cons_zero, List.set_cons_succ, i64_w, i32_w]
                      rfl
                    refine pure_ (i := 5) (N := some 67) (v := ?_) (a' := ?_) #[true, false, true, false, false, true, false, false, false, false, false, false] rfl rfl (any_of HT_.out (by kernel_rfl)) (fun _ _ _ h => h) (Or.inl ⟨by rfl, ?_⟩) ?_ ?_
                    rotate_left
                    · intro w'
                      go_simp
                      with_reducible rfl
                    rotate_left
                    · simp only [Act.put, List.setIfInBounds_toArray, List.set_cons_zero, List.set_cons_succ, i64_w, i32_w]
                      rfl
                    refine pure_ (i := 7) (N := some 69) (v := ?_) (a' := ?_) #[true, false, true, false, false, true, false, true, false, false, false, false] rfl rfl (any_of HT_.out (by kernel_rfl)) (fun _ _ _ h => h) (Or.inl ⟨by rfl, ?_⟩) ?_ ?_
                    rotate_left
                    · intro w'
                      go_simp
                      with_reducible rfl
                    rotate_left
                    · simp only [Act.put, List.setIfInBounds_toArray, List.set_cons_zero, List.set_cons_succ, i64_w, i32_w]
                      rfl
                    refine take_ (i := 1) (N := some 63) (v := ?_) (a' := ?_) #[true, true, true, false, false, true, false, true, false, false, false, false] rfl rfl (take_ofW HT_.out HW_.out (by kernel_rfl)) (fun _ _ _ h => h) (Or.inl ⟨by rfl, ?_⟩) hHeld ?_ ?_
                    rotate_left
                    · rintro w' ⟨s0, s1, s2, s3, s4, s5, s6, s7, s8, s9, s10, s11, s12, s13, s14, s15, s16, s17, s18, s19, s20, s21, s22, s23, s24, s25, s26, s27, s28, s29, s30, s31, s32, s33, s34, s35, s36, s37, s38, s39⟩
                      go_simp
                      with_reducible rfl
                    rotate_left
                    · simp only [Act.put, List.setIfInBounds_toArray, List.set_cons_zero, List.set_cons_succ, i64_w, i32_w]
                      rfl
                    refine pure_ (i := 3) (N := some 65) (v := ?_) (a' := ?_) #[true, true, true, true, false, true, false, true, false, false, false, false] rfl rfl (any_of HT_.out (by kernel_rfl)) (fun _ _ _ h => h) (Or.inl ⟨by rfl, ?_⟩) ?_ ?_
                    rotate_left
                    · intro w'
                      go_simp
                      with_reducible rfl
                    rotate_left
                    · simp only [Act.put, List.setIfInBounds_toArray, List.set_cons_zero, List.set_cons_succ, i64_w, i32_w]
                      rfl
                    refine take_ (i := 4) (N := some 66) (v := ?_) (a' := ?_) #[true, true, true, true, true, true, false, true, false, false, false, false] rfl rfl (take_ofW HT_.out HW_.out (by kernel_rfl)) (fun _ _ _ h => h) (Or.inl ⟨by rfl, ?_⟩) hHeld ?_ ?_
                    rotate_left
                    · rintro w' ⟨s0, s1, s2, s3, s4, s5, s6, s7, s8, s9, s10, s11, s12, s13, s14, s15, s16, s17, s18, s19, s20, s21, s22, s23, s24, s25, s26, s27, s28, s29, s30, s31, s32, s33, s34, s35, s36, s37, s38, s39⟩
                      go_simp
                      with_reducible rfl
                    rotate_left
                    · simp only [Act.put, List.setIfInBounds_toArray, List.set_cons_zero, List.set_cons_succ, i64_w, i32_w]
                      rfl
                    refine take_ (i := 6) (N := some 68) (v := ?_) (a' := ?_) #[true, true, true, true, true, true, true, true, false, false, false, false] rfl rfl (take_ofW HT_.out HW_.out (by kernel_rfl)) (fun _ _ _ h => h) (Or.inl ⟨by rfl, ?_⟩) hHeld ?_ ?_
                    rotate_left
                    · rintro w' ⟨s0, s1, s2, s3, s4, s5, s6, s7, s8, s9, s10, s11, s12, s13, s14, s15, s16, s17, s18, s19, s20, s21, s22, s23, s24, s25, s26, s27, s28, s29, s30, s31, s32, s33, s34, s35, s36, s37, s38, s39⟩
                      go_simp
                      with_reducible rfl
                    rotate_left
                    · simp only [Act.put, List.setIfInBounds_toArray, List.set_cons_zero, List.set_cons_succ, i64_w, i32_w]
                      rfl
                    refine pure_ (i := 8) (N := some 70) (v := ?_) (a' := ?_) #[true, true, true, true, true, true, true, true, true, false, false, false] rfl rfl (any_of HT_.out (by kernel_rfl)) (fun _ _ _ h => h) (Or.inl ⟨by rfl, ?_⟩) ?_ ?_
                    rotate_left
                    · intro w'
                      go_simp
                      with_reducible rfl
                    rotate_left
                    · simp only [Act.put, List.setIfInBounds_toArray, List.set_cons_zero, List.set_cons_succ, i64_w, i32_w]
                      rfl
                    refine take_ (i := 9) (N := some 71) (v := ?_) (a' := ?_) #[true, true, true, true, true, true, true, true, true, true, false, false] rfl rfl (take_ofW HT_.out HW_.out (by kernel_rfl)) (fun _ _ _ h => h) (Or.inl ⟨by rfl, ?_⟩) hHeld ?_ ?_
                    rotate_left
                    · rintro w' ⟨s0, s1, s2, s3, s4, s5, s6, s7, s8, s9, s10, s11, s12, s13, s14, s15, s16, s17, s18, s19, s20, s21, s22, s23, s24, s25, s26, s27, s28, s29, s30, s31, s32, s33, s34, s35, s36, s37, s38, s39⟩
                      go_simp
                      with_reducible rfl
                    rotate_left
                    · simp only [Act.put, List.setIfInBounds_toArray, List.set_cons_zero, List.set_cons_succ, i64_w, i32_w]
                      rfl
                    refine one_ (i := 10) (N := some 72) #[true, true, true, true, true, true, true, true, true, true, true, false] rfl rfl (one_of HT_.out (by kernel_rfl)) (by decide) (fun K hK => ?_)
                    refine goes_ Try.func11 (by kernel_rfl) rfl #[.agg #[.int .i64 ((rd_T29 l0_9 x5_2).f0), .int .i64 ((rd_T29 l0_9 x5_2).f1), .int .i64 ((rd_T29 l0_9 x5_2).f2), .int .u64 ((rd_T29 l0_9 x5_2).f3.f0.f0), .int .u64 ((rd_T29 l0_9 x5_2).f3.f0.f1), .int .i64 ((rd_T29 l0_9 x5_2).f3.f1), .int .u64 ((rd_T29 l0_9 x5_2).f4.f0), .int .u64 ((rd_T29 l0_9 x5_2).f4.f1), .int .u64 ((rd_T29 l0_9 x5_2).f5), .slice A174_9 ((rd_T29 l0_9 x5_2).f6).length c174_9], .agg #[.int .i64 ((rd_T29 l1_9 x5_2).f0), .int .i64 ((rd_T29 l1_9 x5_2).f1), .int .i64 ((rd_T29 l1_9 x5_2).f2), .int .u64 ((rd_T29 l1_9 x5_2).f3.f0.f0), .int .u64 ((rd_T29 l1_9 x5_2).f3.f0.f1), .int .i64 ((rd_T29 l1_9 x5_2).f3.f1), .int .u64 ((rd_T29 l1_9 x5_2).f4.f0), .int .u64 ((rd_T29 l1_9 x5_2).f4.f1), .int .u64 ((rd_T29 l1_9 x5_2).f5), .slice A175_9 ((rd_T29 l1_9 x5_2).f6).length c175_9]] (by rfl) rfl rfl (by (try simp only [List.map_toArray, List.map_cons, List.map_nil]); first | done | rfl | (simp only [List.length_drop, List.length_take]; rfl)) ?_
                    with_reducible refine (ih k2 (by have := HJ2.out; have := HK2.out; omega) ((rd_T29 l0_9 x5_2).f0) ((rd_T29 l0_9 x5_2).f1) ((rd_T29 l0_9 x5_2).f2) ((rd_T29 l0_9 x5_2).f3.f0.f0) ((rd_T29 l0_9 x5_2).f3.f0.f1) ((rd_T29 l0_9 x5_2).f3.f1) ((rd_T29 l0_9 x5_2).f4.f0) ((rd_T29 l0_9 x5_2).f4.f1) ((rd_T29 l0_9 x5_2).f5) _ _ ((rd_T29 l0_9 x5_2).f6) ((rd_T29 l1_9 x5_2).f0) ((rd_T29 l1_9 x5_2).f1) ((rd_T29 l1_9 x5_2).f2) ((rd_T29 l1_9 x5_2).f3.f0.f0) ((rd_T29 l1_9 x5_2).f3.f0.f1) ((rd_T29 l1_9 x5_2).f3.f1) ((rd_T29 l1_9 x5_2).f4.f0) ((rd_T29 l1_9 x5_2).f4.f1) ((rd_T29 l1_9 x5_2).f5) _ _ ((rd_T29 l1_9 x5_2).f6) true _ ?side1 ?side2 ?side3 ?side4 A37.out).mono ?_
                    (case side1 => repeat (first | exact (Kd.C_below HR174_9.out HB.out) | (with_reducible refine Kd.C_alloc ?_ _) | (with_reducible refine Kd.C_drewN ?_ _) | (with_reducible refine Kd.C_drew ?_)))
                    (case side2 => exact HC174_9.out)
                    (case side3 => repeat (first | exact (Kd.C_below HR175_9.out HB.out) | (with_reducible refine Kd.C_alloc ?_ _) | (with_reducible refine Kd.C_drewN ?_ _) | (with_reducible refine Kd.C_drew ?_)))
                    (case side4 => exact HC175_9.out)
                    rintro e w42 ⟨rfl, hb⟩
                    refine ⟨_, rfl, ?_⟩
                    have n0_ := Aside0.mk (blk_below (g := gb172) (o := .cells #[.int .i64 a0_0, .int .i64 a0_1, .int .i64 a0_2, .int .u64 a0_3, .int .u64 a0_4, .int .i64 a0_5, .int .u64 a0_6, .int .u64 a0_7, .int .u64 a0_8, .slice (some ad174) l0_9.length c0_9] 29 (0, 0)) (by (with_reducible repeat (first | refine blk_drewN ?_ _ | refine blk_drew ?_ | refine blk_alloc ?_ _)); exact BK172.out) hb)
                    have n1_ := Aside0.mk (blk_below (g := gb173) (o := .cells #[.int .i64 a1_0, .int .i64 a1_1, .int .i64 a1_2, .int .u64 a1_3, .int .u64 a1_4, .int .i64 a1_5, .int .u64 a1_6, .int .u64 a1_7, .int .u64 a1_8, .slice (some ad175) l1_9.length c1_9] 29 (0, 0)) (by (with_reducible repeat (first | refine blk_drewN ?_ _ | refine blk_drew ?_ | refine blk_alloc ?_ _)); exact BK173.out) hb)
                    have n2_ := Aside0.mk (below_step (by repeat (first | (with_reducible first | exact HB.out | apply below_alloc | apply pw_below_drewN | apply below_drew1 | refine below_set ?_ GE172.out | refine below_set ?_ GE173.out) | exact HB.out)) hb)
                    clear BK172
                    clear BK173
                    clear HB
                    have BK172 := n0_
                    have BK173 := n1_
                    have HB := n2_
                    clear n0_ n1_ n2_
                    (try clear hb)
                    (try clear hb2)
                    (try clear hk)
                    (try clear hi)
                    refine hK.out _ _ ⟨(blk_cell BK172.out 0).trans rfl, (blk_cell BK172.out 1).trans rfl, (blk_cell BK172.out 2).trans rfl, (blk_cell BK172.out 3).trans rfl, (blk_cell BK172.out 4).trans rfl, (blk_cell BK172.out 5).trans rfl, (blk_cell BK172.out 6).trans rfl, (blk_cell BK172.out 7).trans rfl, (blk_cell BK172.out 8).trans rfl, (blk_cell BK172.out 9).trans rfl, (blk_cell BK173.out 0).trans rfl, (blk_cell BK173.out 1).trans rfl, (blk_cell BK173.out 2).trans rfl, (blk_cell BK173.out 3).trans rfl, (blk_cell BK173.out 4).trans rfl, (blk_cell BK173.out 5).trans rfl, (blk_cell BK173.out 6).trans rfl, (blk_cell BK173.out 7).trans rfl, (blk_cell BK173.out 8).trans rfl, (blk_cell BK173.out 9).trans rfl, ((HB.out.cell (World.block_lt_of_cell? w _ hw174_0)).trans hw174_0), ((HB.out.cell (World.block_lt_of_cell? w _ hw174_1)).trans hw174_1), ((HB.out.cell (World.block_lt_of_cell? w _ hw174_2)).trans hw174_2), ((HB.out.cell (World.block_lt_of_cell? w _ hw174_3)).trans hw174_3), ((HB.out.cell (World.block_lt_of_cell? w _ hw174_4)).trans hw174_4), ((HB.out.cell (World.block_lt_of_cell? w _ hw174_5)).trans hw174_5), ((HB.out.cell (World.block_lt_of_cell? w _ hw174_6)).trans hw174_6), ((HB.out.cell (World.block_lt_of_cell? w _ hw174_7)).trans hw174_7), ((HB.out.cell (World.block_lt_of_cell? w _ hw174_8)).trans hw174_8), ((HB.out.cell (World.block_lt_of_cell? w _ hw174_9)).trans hw174_9), ((HB.out.cell (World.block_lt_of_cell? w _ hw175_0)).trans hw175_0), ((HB.out.cell (World.block_lt_of_cell? w _ hw175_1)).trans hw175_1), ((HB.out.cell (World.block_lt_of_cell? w _ hw175_2)).trans hw175_2), ((HB.out.cell (World.block_lt_of_cell? w _ hw175_3)).trans hw175_3), ((HB.out.cell (World.block_lt_of_cell? w _ hw175_4)).trans hw175_4), ((HB.out.cell (World.block_lt_of_cell? w _ hw175_5)).trans hw175_5), ((HB.out.cell (World.block_lt_of_cell? w _ hw175_6)).trans hw175_6), ((HB.out.cell (World.block_lt_of_cell? w _ hw175_7)).trans hw175_7), ((HB.out.cell (World.block_lt_of_cell? w _ hw175_8)).trans hw175_8), ((HB.out.cell (World.block_lt_of_cell? w _ hw175_9)).trans hw175_9)⟩ (fun hHeld => ?_)
                    clear hK K
                    refine norm_ (a' := ?_) ?_ ?_
                    rotate_left
                    · show Act.put _ (some 72) _ = _
                      simp only [Act.put, List.setIfInBounds_toArray, List.set_cons_zero, List.set_cons_succ, i64_w, i32_w]
                      rfl
                    refine pure_ (i := 11) (N := some 73) (v := ?_) (a' := ?_) #[true, true, true, true, true, true, true, true, true, true, true, true] rfl rfl (any_of HT_.out (by kernel_rfl)) (fun _ _ _ h => h) (Or.inl ⟨by rfl, ?_⟩) ?_ ?_
                    rotate_left
                    · intro w'
                      go_simp
                      with_reducible rfl
                    rotate_left
                    · simp only [Act.put, List.setIfInBounds_toArray, List.set_cons_zero, List.set_cons_succ, i64_w, i32_w]
                      rfl
                    refine done_ (done_of HT_.out (by kernel_rfl)) ?_
                    try go_wp2
                    go_roundg k2
                    case measure => have := HJ2.out; have := HK2.out; omega
                    case rel => exact ⟨(wrap64 (x5_2 + 1)), (by first | rfl | (simp; done) | (simp [*]; done)), H', ⟨by have := HJ2.out; have := HK2.out; omega⟩, ⟨by (with_reducible repeat (first | refine blk_drewN ?_ _ | refine blk_drew ?_ | refine blk_alloc ?_ _)); exact BK172.out⟩, ⟨by (with_reducible repeat (first | refine blk_drewN ?_ _ | refine blk_drew ?_ | refine blk_alloc ?_ _)); exact BK173.out⟩, ⟨by repeat (first | (with_reducible first | exact HB.out | apply below_alloc | apply pw_below_drewN | apply below_drew1 | refine below_set ?_ GE172.out | refine below_set ?_ GE173.out) | exact HB.out)⟩⟩
                  · replace c38 := Bool.eq_false_iff.mpr c38
                    subst c38
                    have H1 : (some false) = some r := by rw [if_neg (show ¬ (false = true) by decide)] at H; exact H
                    clear H
                    have H := H1
                    clear H1
                    obtain rfl := Option.some.inj H
                    have hnb43 := NB172_173.out
                    have hnc43 := NB173_172.out
                    have hcz44_0 : wr.cell? ⟨gb172, 0, none⟩ = some (.int .i64 a0_0) := (blk_cell BK172.out 0).trans rfl
                    have hcz44_1 : wr.cell? ⟨gb172, 1, none⟩ = some (.int .i64 a0_1) := (blk_cell BK172.out 1).trans rfl
                    have hcz44_2 : wr.cell? ⟨gb172, 2, none⟩ = some (.int .i64 a0_2) := (blk_cell BK172.out 2).trans rfl
                    have hcz44_3 : wr.cell? ⟨gb172, 3, none⟩ = some (.int .u64 a0_3) := (blk_cell BK172.out 3).trans rfl
                    have hcz44_4 : wr.cell? ⟨gb172, 4, none⟩ = some (.int .u64 a0_4) := (blk_cell BK172.out 4).trans rfl
                    have hcz44_5 : wr.cell? ⟨gb172, 5, none⟩ = some (.int .i64 a0_5) := (blk_cell BK172.out 5).trans rfl
                    have hcz44_6 : wr.cell? ⟨gb172, 6, none⟩ = some (.int .u64 a0_6) := (blk_cell BK172.out 6).trans rfl
                    have hcz44_7 : wr.cell? ⟨gb172, 7, none⟩ = some (.int .u64 a0_7) := (blk_cell BK172.out 7).trans rfl
                    have hcz44_8 : wr.cell? ⟨gb172, 8, none⟩ = some (.int .u64 a0_8) := (blk_cell BK172.out 8).trans rfl
                    have hcz44_9 : wr.cell? ⟨gb172, 9, none⟩ = some (.slice A0_9 l0_9.length c0_9) := (blk_cell BK172.out 9).trans rfl
                    have hfz44_0 := blk_frozen BK172.out 0
                    have hfz44_1 := blk_frozen BK172.out 1
                    have hfz44_2 := blk_frozen BK172.out 2
                    have hfz44_3 := blk_frozen BK172.out 3
                    have hfz44_4 := blk_frozen BK172.out 4
                    have hfz44_5 := blk_frozen BK172.out 5
                    have hfz44_6 := blk_frozen BK172.out 6
                    have hfz44_7 := blk_frozen BK172.out 7
                    have hfz44_8 := blk_frozen BK172.out 8
                    have hfz44_9 := blk_frozen BK172.out 9
                    try go_wp2
                    have n0_ := Aside0.mk (blk_drew BK172.out)
                    have n1_ := Aside0.mk (blk_drew BK173.out)
                    have n2_ := Aside0.mk (below_drew1 HB.out)
                    clear BK172
                    clear BK173
                    clear HB
                    have BK172 := n0_
                    have BK173 := n1_
                    have HB := n2_
                    clear n0_ n1_ n2_
                    have p174 : 0 ≤ (x5_2 : Int) := of_decide_eq_true (by first | (with_reducible assumption) | assumption)
                    have q174 : x5_2 < (l0_9.length : Int) := of_decide_eq_true (by first | (with_reducible assumption) | assumption)
                    obtain ⟨ad174, A174_9, c174_9, e174, hx174_0, hx174_1, hx174_2, hx174_3, hx174_4, hx174_5, hx174_6, hx174_7, hx174_8, hx174_9, hl174_9, hi174_9⟩ := at_T29 HR0_9.out x5_2 p174 q174
                    have hw174_9 := hx174_9
                    have hw174_8 := hx174_8
                    have hw174_7 := hx174_7
                    have hw174_6 := hx174_6
                    have hw174_5 := hx174_5
                    have hw174_4 := hx174_4
                    have hw174_3 := hx174_3
                    have hw174_2 := hx174_2
                    have hw174_1 := hx174_1
                    have hw174_0 := hx174_0
                    cases e174
                    replace hx174_0 := (HB.out.cell (World.block_lt_of_cell? w _ hx174_0)).trans hx174_0
                    replace hx174_1 := (HB.out.cell (World.block_lt_of_cell? w _ hx174_1)).trans hx174_1
                    replace hx174_2 := (HB.out.cell (World.block_lt_of_cell? w _ hx174_2)).trans hx174_2
                    replace hx174_3 := (HB.out.cell (World.block_lt_of_cell? w _ hx174_3)).trans hx174_3
                    replace hx174_4 := (HB.out.cell (World.block_lt_of_cell? w _ hx174_4)).trans hx174_4
                    replace hx174_5 := (HB.out.cell (World.block_lt_of_cell? w _ hx174_5)).trans hx174_5
                    replace hx174_6 := (HB.out.cell (World.block_lt_of_cell? w _ hx174_6)).trans hx174_6
                    replace hx174_7 := (HB.out.cell (World.block_lt_of_cell? w _ hx174_7)).trans hx174_7
                    replace hx174_8 := (HB.out.cell (World.block_lt_of_cell? w _ hx174_8)).trans hx174_8
                    replace hx174_9 := (HB.out.cell (World.block_lt_of_cell? w _ hx174_9)).trans hx174_9
                    have HR174_9 := Aside0.mk hi174_9
                    have HC174_9 := Aside0.mk hl174_9
                    clear hi174_9 hl174_9
                    replace p174 := eq_true p174
                    replace q174 := eq_true q174
                    have p175 : 0 ≤ (x5_2 : Int) := of_decide_eq_true (by first | (with_reducible assumption) | assumption)
                    have q175 : x5_2 < (l1_9.length : Int) := of_decide_eq_true (by first | (with_reducible assumption) | assumption)
                    obtain ⟨ad175, A175_9, c175_9, e175, hx175_0, hx175_1, hx175_2, hx175_3, hx175_4, hx175_5, hx175_6, hx175_7, hx175_8, hx175_9, hl175_9, hi175_9⟩ := at_T29 HR1_9.out x5_2 p175 q175
                    have hw175_9 := hx175_9
                    have hw175_8 := hx175_8
                    have hw175_7 := hx175_7
                    have hw175_6 := hx175_6
                    have hw175_5 := hx175_5
                    have hw175_4 := hx175_4
                    have hw175_3 := hx175_3
                    have hw175_2 := hx175_2
                    have hw175_1 := hx175_1
                    have hw175_0 := hx175_0
                    cases e175
                    replace hx175_0 := (HB.out.cell (World.block_lt_of_cell? w _ hx175_0)).trans hx175_0
                    replace hx175_1 := (HB.out.cell (World.block_lt_of_cell? w _ hx175_1)).trans hx175_1
                    replace hx175_2 := (HB.out.cell (World.block_lt_of_cell? w _ hx175_2)).trans hx175_2
                    replace hx175_3 := (HB.out.cell (World.block_lt_of_cell? w _ hx175_3)).trans hx175_3
                    replace hx175_4 := (HB.out.cell (World.block_lt_of_cell? w _ hx175_4)).trans hx175_4
                    replace hx175_5 := (HB.out.cell (World.block_lt_of_cell? w _ hx175_5)).trans hx175_5
                    replace hx175_6 := (HB.out.cell (World.block_lt_of_cell? w _ hx175_6)).trans hx175_6
                    replace hx175_7 := (HB.out.cell (World.block_lt_of_cell? w _ hx175_7)).trans hx175_7
                    replace hx175_8 := (HB.out.cell (World.block_lt_of_cell? w _ hx175_8)).trans hx175_8
                    replace hx175_9 := (HB.out.cell (World.block_lt_of_cell? w _ hx175_9)).trans hx175_9
                    have HR175_9 := Aside0.mk hi175_9
                    have HC175_9 := Aside0.mk hl175_9
                    clear hi175_9 hl175_9
                    replace p175 := eq_true p175
                    replace q175 := eq_true q175
                    refine start_ (n := 12) (S := fun w' => w'.cell? ⟨gb172, 0, none⟩ = some (.int .i64 a0_0) ∧ w'.cell? ⟨gb172, 1, none⟩ = some (.int .i64 a0_1) ∧ w'.cell? ⟨gb172, 2, none⟩ = some (.int .i64 a0_2) ∧ w'.cell? ⟨gb172, 3, none⟩ = some (.int .u64 a0_3) ∧ w'.cell? ⟨gb172, 4, none⟩ = some (.int .u64 a0_4) ∧ w'.cell? ⟨gb172, 5, none⟩ = some (.int .i64 a0_5) ∧ w'.cell? ⟨gb172, 6, none⟩ = some (.int .u64 a0_6) ∧ w'.cell? ⟨gb172, 7, none⟩ = some (.int .u64 a0_7) ∧ w'.cell? ⟨gb172, 8, none⟩ = some (.int .u64 a0_8) ∧ w'.cell? ⟨gb172, 9, none⟩ = some (.slice (some ad174) l0_9.length c0_9) ∧ w'.cell? ⟨gb173, 0, none⟩ = some (.int .i64 a1_0) ∧ w'.cell? ⟨gb173, 1, none⟩ = some (.int .i64 a1_1) ∧ w'.cell? ⟨gb173, 2, none⟩ = some (.int .i64 a1_2) ∧ w'.cell? ⟨gb173, 3, none⟩ = some (.int .u64 a1_3) ∧ w'.cell? ⟨gb173, 4, none⟩ = some (.int .u64 a1_4) ∧ w'.cell? ⟨gb173, 5, none⟩ = some (.int .i64 a1_5) ∧ w'.cell? ⟨gb173, 6, none⟩ = some (.int .u64 a1_6) ∧ w'.cell? ⟨gb173, 7, none⟩ = some (.int .u64 a1_7) ∧ w'.cell? ⟨gb173, 8, none⟩ = some (.int .u64 a1_8) ∧ w'.cell? ⟨gb173, 9, none⟩ = some (.slice (some ad175) l1_9.length c1_9) ∧ w'.cell? (ad174.add ((x5_2).toNat * 10)) = some (.int .i64 ((rd_T29 l0_9 x5_2).f0)) ∧ w'.cell? ⟨(ad174.add ((x5_2).toNat * 10)).block, (ad174.add ((x5_2).toNat * 10)).off + 1, none⟩ = some (.int .i64 ((rd_T29 l0_9 x5_2).f1)) ∧ w'.cell? ⟨(ad174.add ((x5_2).toNat * 10)).block, (ad174.add ((x5_2).toNat * 10)).off + 2, none⟩ = some (.int .i64 ((rd_T29 l0_9 x5_2).f2)) ∧ w'.cell? ⟨(ad174.add ((x5_2).toNat * 10)).block, (ad174.add ((x5_2).toNat * 10)).off + 3, none⟩ = some (.int .u64 ((rd_T29 l0_9 x5_2).f3.f0.f0)) ∧ w'.cell? ⟨(ad174.add ((x5_2).toNat * 10)).block, (ad174.add ((x5_2).toNat * 10)).off + 4, none⟩ = some (.int .u64 ((rd_T29 l0_9 x5_2).f3.f0.f1)) ∧ w'.cell? ⟨(ad174.add ((x5_2).toNat * 10)).block, (ad174.add ((x5_2).toNat * 10)).off + 5, none⟩ = some (.int .i64 ((rd_T29 l0_9 x5_2).f3.f1)) ∧ w'.cell? ⟨(ad174.add ((x5_2).toNat * 10)).block, (ad174.add ((x5_2).toNat * 10)).off + 6, none⟩ = some (.int .u64 ((rd_T29 l0_9 x5_2).f4.f0)) ∧ w'.cell? ⟨(ad174.add ((x5_2).toNat * 10)).block, (ad174.add ((x5_2).toNat * 10)).off + 7, none⟩ = some (.int .u64 ((rd_T29 l0_9 x5_2).f4.f1)) ∧ w'.cell? ⟨(ad174.add ((x5_2).toNat * 10)).block, (ad174.add ((x5_2).toNat * 10)).off + 8, none⟩ = some (.int .u64 ((rd_T29 l0_9 x5_2).f5)) ∧ w'.cell? ⟨(ad174.add ((x5_2).toNat * 10)).block, (ad174.add ((x5_2).toNat * 10)).off + 9, none⟩ = some (.slice A174_9 ((rd_T29 l0_9 x5_2).f6).length c174_9) ∧ w'.cell? (ad175.add ((x5_2).toNat * 10)) = some (.int .i64 ((rd_T29 l1_9 x5_2).f0)) ∧ w'.cell? ⟨(ad175.add ((x5_2).toNat * 10)).block, (ad175.add ((x5_2).toNat * 10)).off + 1, none⟩ = some (.int .i64 ((rd_T29 l1_9 x5_2).f1)) ∧ w'.cell? ⟨(ad175.add ((x5_2).toNat * 10)).block, (ad175.add ((x5_2).toNat * 10)).off + 2, none⟩ = some (.int .i64 ((rd_T29 l1_9 x5_2).f2)) ∧ w'.cell? ⟨(ad175.add ((x5_2).toNat * 10)).block, (ad175.add ((x5_2).toNat * 10)).off + 3, none⟩ = some (.int .u64 ((rd_T29 l1_9 x5_2).f3.f0.f0)) ∧ w'.cell? ⟨(ad175.add ((x5_2).toNat * 10)).block, (ad175.add ((x5_2).toNat * 10)).off + 4, none⟩ = some (.int .u64 ((rd_T29 l1_9 x5_2).f3.f0.f1)) ∧ w'.cell? ⟨(ad175.add ((x5_2).toNat * 10)).block, (ad175.add ((x5_2).toNat * 10)).off + 5, none⟩ = some (.int .i64 ((rd_T29 l1_9 x5_2).f3.f1)) ∧ w'.cell? ⟨(ad175.add ((x5_2).toNat * 10)).block, (ad175.add ((x5_2).toNat * 10)).off + 6, none⟩ = some (.int .u64 ((rd_T29 l1_9 x5_2).f4.f0)) ∧ w'.cell? ⟨(ad175.add ((x5_2).toNat * 10)).block, (ad175.add ((x5_2).toNat * 10)).off + 7, none⟩ = some (.int .u64 ((rd_T29 l1_9 x5_2).f4.f1)) ∧ w'.cell? ⟨(ad175.add ((x5_2).toNat * 10)).block, (ad175.add ((x5_2).toNat * 10)).off + 8, none⟩ = some (.int .u64 ((rd_T29 l1_9 x5_2).f5)) ∧ w'.cell? ⟨(ad175.add ((x5_2).toNat * 10)).block, (ad175.add ((x5_2).toNat * 10)).off + 9, none⟩ = some (.slice A175_9 ((rd_T29 l1_9 x5_2).f6).length c175_9)) (ds := []) #[false, false, false, false, false, false, false, false, false, false, false, false] (by kernel_rfl) rfl rfl ⟨(blk_cell BK172.out 0).trans rfl, (blk_cell BK172.out 1).trans rfl, (blk_cell BK172.out 2).trans rfl, (blk_cell BK172.out 3).trans rfl, (blk_cell BK172.out 4).trans rfl, (blk_cell BK172.out 5).trans rfl, (blk_cell BK172.out 6).trans rfl, (blk_cell BK172.out 7).trans rfl, (blk_cell BK172.out 8).trans rfl, (blk_cell BK172.out 9).trans rfl, (blk_cell BK173.out 0).trans rfl, (blk_cell BK173.out 1).trans rfl, (blk_cell BK173.out 2).trans rfl, (blk_cell BK173.out 3).trans rfl, (blk_cell BK173.out 4).trans rfl, (blk_cell BK173.out 5).trans rfl, (blk_cell BK173.out 6).trans rfl, (blk_cell BK173.out 7).trans rfl, (blk_cell BK173.out 8).trans rfl, (blk_cell BK173.out 9).trans rfl, ((HB.out.cell (World.block_lt_of_cell? w _ hw174_0)).trans hw174_0), ((HB.out.cell (World.block_lt_of_cell? w _ hw174_1)).trans hw174_1), ((HB.out.cell (World.block_lt_of_cell? w _ hw174_2)).trans hw174_2), ((HB.out.cell (World.block_lt_of_cell? w _ hw174_3)).trans hw174_3), ((HB.out.cell (World.block_lt_of_cell? w _ hw174_4)).trans hw174_4), ((HB.out.cell (World.block_lt_of_cell? w _ hw174_5)).trans hw174_5), ((HB.out.cell (World.block_lt_of_cell? w _ hw174_6)).trans hw174_6), ((HB.out.cell (World.block_lt_of_cell? w _ hw174_7)).trans hw174_7), ((HB.out.cell (World.block_lt_of_cell? w _ hw174_8)).trans hw174_8), ((HB.out.cell (World.block_lt_of_cell? w _ hw174_9)).trans hw174_9), ((HB.out.cell (World.block_lt_of_cell? w _ hw175_0)).trans hw175_0), ((HB.out.cell (World.block_lt_of_cell? w _ hw175_1)).trans hw175_1), ((HB.out.cell (World.block_lt_of_cell? w _ hw175_2)).trans hw175_2), ((HB.out.cell (World.block_lt_of_cell? w _ hw175_3)).trans hw175_3), ((HB.out.cell (World.block_lt_of_cell? w _ hw175_4)).trans hw175_4), ((HB.out.cell (World.block_lt_of_cell? w _ hw175_5)).trans hw175_5), ((HB.out.cell (World.block_lt_of_cell? w _ hw175_6)).trans hw175_6), ((HB.out.cell (World.block_lt_of_cell? w _ hw175_7)).trans hw175_7), ((HB.out.cell (World.block_lt_of_cell? w _ hw175_8)).trans hw175_8), ((HB.out.cell (World.block_lt_of_cell? w _ hw175_9)).trans hw175_9)⟩ (fun hHeld => ?_); refine with_tabW flocculusref21_SameCommand.tab6 flocculusref21_SameCommand.bits6 (fun HT_ HW_ => ?_)
                    generalize wr.drew = w45 at BK172 BK173 HB HR174_9 HR175_9 hx174_0 hx174_1 hx174_2 hx174_3 hx174_4 hx174_5 hx174_6 hx174_7 hx174_8 hx174_9 hx175_0 hx175_1 hx175_2 hx175_3 hx175_4 hx175_5 hx175_6 hx175_7 hx175_8 hx175_9 hHeld ⊢
                    refine pure_ (i := 0) (N := some 62) (v := ?_) (a' := ?_) #[true, false, false, false, false, false, false, false, false, false, false, false] rfl rfl (any_of HT_.out (by kernel_rfl)) (fun _ _ _ h => h) (Or.inl ⟨by rfl, ?_⟩) ?_ ?_
                    rotate_left
                    · intro w'
                      go_simp
                      with_reducible rfl
                    rotate_left
                    · simp only [Act.put, List.setIfInBounds_toArray, List.set_cons_zero, List.set_cons_succ, i64_w, i32_w]
                      rfl
                    refine pure_ (i := 2) (N := some 64) (v := ?_) (a' := ?_) #[true, false, true, false, false, false, false, false, false, false, false, false] rfl rfl (any_of HT_.out (by kernel_rfl)) (fun _ _ _ h => h) (Or.inl ⟨by rfl, ?_⟩) ?_ ?_
                    rotate_left
                    · intro w'
                      go_simp
                      with_reducible rfl
                    rotate_left
                    · simp only [Act.put, List.setIfInBounds_toArray, List.set_cons_zero, List.set_cons_succ, i64_w, i32_w]
                      rfl
                    refine pure_ (i := 5) (N := some 67) (v := ?_) (a' := ?_) #[true, false, true, false, false, true, false, false, false, false, false, false] rfl rfl (any_of HT_.out (by kernel_rfl)) (fun _ _ _ h => h) (Or.inl ⟨by rfl, ?_⟩) ?_ ?_
                    rotate_left
                    · intro w'
                      go_simp
                      with_reducible rfl
                    rotate_left
                    · simp only [Act.put, List.setIfInBounds_toArray, List.set_cons_zero, List.set_cons_succ, i64_w, i32_w]
                      rfl
                    refine pure_ (i := 7) (N := some 69) (v := ?_) (a' := ?_) #[true, false, true, false, false, true, false, true, false, false, false, false] rfl rfl (any_of HT_.out (by kernel_rfl)) (fun _ _ _ h => h) (Or.inl ⟨by rfl, ?_⟩) ?_ ?_
                    rotate_left
                    · intro w'
                      go_simp
                      with_reducible rfl
                    rotate_left
                    · simp only [Act.put, List.setIfInBounds_toArray, List.set_cons_zero, List.set_cons_succ, i64_w, i32_w]
                      rfl
                    refine take_ (i := 1) (N := some 63) (v := ?_) (a' := ?_) #[true, true, true, false, false, true, false, true, false, false, false, false] rfl rfl (take_ofW HT_.out HW_.out (by kernel_rfl)) (fun _ _ _ h => h) (Or.inl ⟨by rfl, ?_⟩) hHeld ?_ ?_
                    rotate_left
                    · rintro w' ⟨s0, s1, s2, s3, s4, s5, s6, s7, s8, s9, s10, s11, s12, s13, s14, s15, s16, s17, s18, s19, s20, s21, s22, s23, s24, s25, s26, s27, s28, s29, s30, s31, s32, s33, s34, s35, s36, s37, s38, s39⟩
                      go_simp
                      with_reducible rfl
                    rotate_left
                    · simp only [Act.put, List.setIfInBounds_toArray, List.set_cons_zero, List.set_cons_succ, i64_w, i32_w]
                      rfl
                    refine pure_ (i := 3) (N := some 65) (v := ?_) (a' := ?_) #[true, true, true, true, false, true, false, true, false, false, false, false] rfl rfl (any_of HT_.out (by kernel_rfl)) (fun _ _ _ h => h) (Or.inl ⟨by rfl, ?_⟩) ?_ ?_
                    rotate_left
                    · intro w'
                      go_simp
                      with_reducible rfl
                    rotate_left
                    · simp only [Act.put, List.setIfInBounds_toArray, List.set_cons_zero, List.set_cons_succ, i64_w, i32_w]
                      rfl
                    refine take_ (i := 4) (N := some 66) (v := ?_) (a' := ?_) #[true, true, true, true, true, true, false, true, false, false, false, false] rfl rfl (take_ofW HT_.out HW_.out (by kernel_rfl)) (fun _ _ _ h => h) (Or.inl ⟨by rfl, ?_⟩) hHeld ?_ ?_
                    rotate_left
                    · rintro w' ⟨s0, s1, s2, s3, s4, s5, s6, s7, s8, s9, s10, s11, s12, s13, s14, s15, s16, s17, s18, s19, s20, s21, s22, s23, s24, s25, s26, s27, s28, s29, s30, s31, s32, s33, s34, s35, s36, s37, s38, s39⟩
                      go_simp
                      with_reducible rfl
                    rotate_left
                    · simp only [Act.put, List.setIfInBounds_toArray, List.set_cons_zero, List.set_cons_succ, i64_w, i32_w]
                      rfl
                    refine take_ (i := 6) (N := some 68) (v := ?_) (a' := ?_) #[true, true, true, true, true, true, true, true, false, false, false, false] rfl rfl (take_ofW HT_.out HW_.out (by kernel_rfl)) (fun _ _ _ h => h) (Or.inl ⟨by rfl, ?_⟩) hHeld ?_ ?_
                    rotate_left
                    · rintro w' ⟨s0, s1, s2, s3, s4, s5, s6, s7, s8, s9, s10, s11, s12, s13, s14, s15, s16, s17, s18, s19, s20, s21, s22, s23, s24, s25, s26, s27, s28, s29, s30, s31, s32, s33, s34, s35, s36, s37, s38, s39⟩
                      go_simp
                      with_reducible rfl
                    rotate_left
                    · simp only [Act.put, List.setIfInBounds_toArray, List.set_cons_zero, List.set_cons_succ, i64_w, i32_w]
                      rfl
                    refine pure_ (i := 8) (N := some 70) (v := ?_) (a' := ?_) #[true, true, true, true, true, true, true, true, true, false, false, false] rfl rfl (any_of HT_.out (by kernel_rfl)) (fun _ _ _ h => h) (Or.inl ⟨by rfl, ?_⟩) ?_ ?_
                    rotate_left
                    · intro w'
                      go_simp
                      with_reducible rfl
                    rotate_left
                    · simp only [Act.put, List.setIfInBounds_toArray, List.set_cons_zero, List.set_cons_succ, i64_w, i32_w]
                      rfl
                    refine take_ (i := 9) (N := some 71) (v := ?_) (a' := ?_) #[true, true, true, true, true, true, true, true, true, true, false, false] rfl rfl (take_ofW HT_.out HW_.out (by kernel_rfl)) (fun _ _ _ h => h) (Or.inl ⟨by rfl, ?_⟩) hHeld ?_ ?_
                    rotate_left
                    · rintro w' ⟨s0, s1, s2, s3, s4, s5, s6, s7, s8, s9, s10, s11, s12, s13, s14, s15, s16, s17, s18, s19, s20, s21, s22, s23, s24, s25, s26, s27, s28, s29, s30, s31, s32, s33, s34, s35, s36, s37, s38, s39⟩
                      go_simp
                      with_reducible rfl
                    rotate_left
                    · simp only [Act.put, List.setIfInBounds_toArray, List.set_cons_zero, List.set_cons_succ, i64_w, i32_w]
                      rfl
                    refine one_ (i := 10) (N := some 72) #[true, true, true, true, true, true, true, true, true, true, true, false] rfl rfl (one_of HT_.out (by kernel_rfl)) (by decide) (fun K hK => ?_)
                    refine goes_ Try.func11 (by kernel_rfl) rfl #[.agg #[.int .i64 ((rd_T29 l0_9 x5_2).f0), .int .i64 ((rd_T29 l0_9 x5_2).f1), .int .i64 ((rd_T29 l0_9 x5_2).f2), .int .u64 ((rd_T29 l0_9 x5_2).f3.f0.f0), .int .u64 ((rd_T29 l0_9 x5_2).f3.f0.f1), .int .i64 ((rd_T29 l0_9 x5_2).f3.f1), .int .u64 ((rd_T29 l0_9 x5_2).f4.f0), .int .u64 ((rd_T29 l0_9 x5_2).f4.f1), .int .u64 ((rd_T29 l0_9 x5_2).f5), .slice A174_9 ((rd_T29 l0_9 x5_2).f6).length c174_9], .agg #[.int .i64 ((rd_T29 l1_9 x5_2).f0), .int .i64 ((rd_T29 l1_9 x5_2).f1), .int .i64 ((rd_T29 l1_9 x5_2).f2), .int .u64 ((rd_T29 l1_9 x5_2).f3.f0.f0), .int .u64 ((rd_T29 l1_9 x5_2).f3.f0.f1), .int .i64 ((rd_T29 l1_9 x5_2).f3.f1), .int .u64 ((rd_T29 l1_9 x5_2).f4.f0), .int .u64 ((rd_T29 l1_9 x5_2).f4.f1), .int .u64 ((rd_T29 l1_9 x5_2).f5), .slice A175_9 ((rd_T29 l1_9 x5_2).f6).length c175_9]] (by rfl) rfl rfl (by (try simp only [List.map_toArray, List.map_cons, List.map_nil]); first | done | rfl | (simp only [List.length_drop, List.length_take]; rfl)) ?_
                    with_reducible refine (ih k2 (by have := HJ2.out; have := HK2.out; omega) ((rd_T29 l0_9 x5_2).f0) ((rd_T29 l0_9 x5_2).f1) ((rd_T29 l0_9 x5_2).f2) ((rd_T29 l0_9 x5_2).f3.f0.f0) ((rd_T29 l0_9 x5_2).f3.f0.f1) ((rd_T29 l0_9 x5_2).f3.f1) ((rd_T29 l0_9 x5_2).f4.f0) ((rd_T29 l0_9 x5_2).f4.f1) ((rd_T29 l0_9 x5_2).f5) _ _ ((rd_T29 l0_9 x5_2).f6) ((rd_T29 l1_9 x5_2).f0) ((rd_T29 l1_9 x5_2).f1) ((rd_T29 l1_9 x5_2).f2) ((rd_T29 l1_9 x5_2).f3.f0.f0) ((rd_T29 l1_9 x5_2).f3.f0.f1) ((rd_T29 l1_9 x5_2).f3.f1) ((rd_T29 l1_9 x5_2).f4.f0) ((rd_T29 l1_9 x5_2).f4.f1) ((rd_T29 l1_9 x5_2).f5) _ _ ((rd_T29 l1_9 x5_2).f6) false _ ?side1 ?side2 ?side3 ?side4 A37.out).mono ?_
                    (case side1 => repeat (first | exact (Kd.C_below HR174_9.out HB.out) | (with_reducible refine Kd.C_alloc ?_ _) | (with_reducible refine Kd.C_drewN ?_ _) | (with_reducible refine Kd.C_drew ?_)))
                    (case side2 => exact HC174_9.out)
                    (case side3 => repeat (first | exact (Kd.C_below HR175_9.out HB.out) | (with_reducible refine Kd.C_alloc ?_ _) | (with_reducible refine Kd.C_drewN ?_ _) | (with_reducible refine Kd.C_drew ?_)))
                    (case side4 => exact HC175_9.out)
                    rintro e w46 ⟨rfl, hb⟩
                    refine ⟨_, rfl, ?_⟩
                    have n0_ := Aside0.mk (blk_below (g := gb172) (o := .cells #[.int .i64 a0_0, .int .i64 a0_1, .int .i64 a0_2, .int .u64 a0_3, .int .u64 a0_4, .int .i64 a0_5, .int .u64 a0_6, .int .u64 a0_7, .int .u64 a0_8, .slice (some ad174) l0_9.length c0_9] 29 (0, 0)) (by (with_reducible repeat (first | refine blk_drewN ?_ _ | refine blk_drew ?_ | refine blk_alloc ?_ _)); exact BK172.out) hb)
                    have n1_ := Aside0.mk (blk_below (g := gb173) (o := .cells #[.int .i64 a1_0, .int .i64 a1_1, .int .i64 a1_2, .int .u64 a1_3, .int .u64 a1_4, .int .i64 a1_5, .int .u64 a1_6, .int .u64 a1_7, .int .u64 a1_8, .slice (some ad175) l1_9.length c1_9] 29 (0, 0)) (by (with_reducible repeat (first | refine blk_drewN ?_ _ | refine blk_drew ?_ | refine blk_alloc ?_ _)); exact BK173.out) hb)
                    have n2_ := Aside0.mk (below_step (by repeat (first | (with_reducible first | exact HB.out | apply below_alloc | apply pw_below_drewN | apply below_drew1 | refine below_set ?_ GE172.out | refine below_set ?_ GE173.out) | exact HB.out)) hb)
                    clear BK172
                    clear BK173
                    clear HB
                    have BK172 := n0_
                    have BK173 := n1_
                    have HB := n2_
                    clear n0_ n1_ n2_
                    (try clear hb)
                    (try clear hb2)
                    (try clear hk)
                    (try clear hi)
                    refine hK.out _ _ ⟨(blk_cell BK172.out 0).trans rfl, (blk_cell BK172.out 1).trans rfl, (blk_cell BK172.out 2).trans rfl, (blk_cell BK172.out 3).trans rfl, (blk_cell BK172.out 4).trans rfl, (blk_cell BK172.out 5).trans rfl, (blk_cell BK172.out 6).trans rfl, (blk_cell BK172.out 7).trans rfl, (blk_cell BK172.out 8).trans rfl, (blk_cell BK172.out 9).trans rfl, (blk_cell BK173.out 0).trans rfl, (blk_cell BK173.out 1).trans rfl, (blk_cell BK173.out 2).trans rfl, (blk_cell BK173.out 3).trans rfl, (blk_cell BK173.out 4).trans rfl, (blk_cell BK173.out 5).trans rfl, (blk_cell BK173.out 6).trans rfl, (blk_cell BK173.out 7).trans rfl, (blk_cell BK173.out 8).trans rfl, (blk_cell BK173.out 9).trans rfl, ((HB.out.cell (World.block_lt_of_cell? w _ hw174_0)).trans hw174_0), ((HB.out.cell (World.block_lt_of_cell? w _ hw174_1)).trans hw174_1), ((HB.out.cell (World.block_lt_of_cell? w _ hw174_2)).trans hw174_2), ((HB.out.cell (World.block_lt_of_cell? w _ hw174_3)).trans hw174_3), ((HB.out.cell (World.block_lt_of_cell? w _ hw174_4)).trans hw174_4), ((HB.out.cell (World.block_lt_of_cell? w _ hw174_5)).trans hw174_5), ((HB.out.cell (World.block_lt_of_cell? w _ hw174_6)).trans hw174_6), ((HB.out.cell (World.block_lt_of_cell? w _ hw174_7)).trans hw174_7), ((HB.out.cell (World.block_lt_of_cell? w _ hw174_8)).trans hw174_8), ((HB.out.cell (World.block_lt_of_cell? w _ hw174_9)).trans hw174_9), ((HB.out.cell (World.block_lt_of_cell? w _ hw175_0)).trans hw175_0), ((HB.out.cell (World.block_lt_of_cell? w _ hw175_1)).trans hw175_1), ((HB.out.cell (World.block_lt_of_cell? w _ hw175_2)).trans hw175_2), ((HB.out.cell (World.block_lt_of_cell? w _ hw175_3)).trans hw175_3), ((HB.out.cell (World.block_lt_of_cell? w _ hw175_4)).trans hw175_4), ((HB.out.cell (World.block_lt_of_cell? w _ hw175_5)).trans hw175_5), ((HB.out.cell (World.block_lt_of_cell? w _ hw175_6)).trans hw175_6), ((HB.out.cell (World.block_lt_of_cell? w _ hw175_7)).trans hw175_7), ((HB.out.cell (World.block_lt_of_cell? w _ hw175_8)).trans hw175_8), ((HB.out.cell (World.block_lt_of_cell? w _ hw175_9)).trans hw175_9)⟩ (fun hHeld => ?_)
                    clear hK K
                    refine norm_ (a' := ?_) ?_ ?_
                    rotate_left
                    · show Act.put _ (some 72) _ = _
                      simp only [Act.put, List.setIfInBounds_toArray, List.set_cons_zero, List.set_cons_succ, i64_w, i32_w]
                      rfl
                    refine pure_ (i := 11) (N := some 73) (v := ?_) (a' := ?_) #[true, true, true, true, true, true, true, true, true, true, true, true] rfl rfl (any_of HT_.out (by kernel_rfl)) (fun _ _ _ h => h) (Or.inl ⟨by rfl, ?_⟩) ?_ ?_
                    rotate_left
                    · intro w'
                      go_simp
                      with_reducible rfl
                    rotate_left
                    · simp only [Act.put, List.setIfInBounds_toArray, List.set_cons_zero, List.set_cons_succ, i64_w, i32_w]
                      rfl
                    refine done_ (done_of HT_.out (by kernel_rfl)) ?_
                    try go_wp2
                    go_ret
                    exact ⟨by first | rfl | (simp [errW_none, errW_some] <;> rfl) | (simp [*, errW_none, errW_some] <;> rfl), by repeat (first | (with_reducible first | exact HB.out | apply below_alloc | apply pw_below_drewN | apply below_drew1 | refine below_set ?_ GE172.out | refine below_set ?_ GE173.out) | exact HB.out)⟩
                · rw [if_neg c36] at H
                  exact absurd H (by simp)
              · rw [if_neg c35] at H
                exact absurd H (by simp)
            · rw [if_neg c34] at H
              have c34b0 : decide (x5_2 < (l0_9.length : Int)) = false := decide_eq_false c34
              clear c34
              obtain rfl := Option.some.inj H
              have hnb47 := NB172_173.out
              have hnc47 := NB173_172.out
              have hcz48_0 : wr.cell? ⟨gb172, 0, none⟩ = some (.int .i64 a0_0) := (blk_cell BK172.out 0).trans rfl
              have hcz48_1 : wr.cell? ⟨gb172, 1, none⟩ = some (.int .i64 a0_1) := (blk_cell BK172.out 1).trans rfl
              have hcz48_2 : wr.cell? ⟨gb172, 2, none⟩ = some (.int .i64 a0_2) := (blk_cell BK172.out 2).trans rfl
              have hcz48_3 : wr.cell? ⟨gb172, 3, none⟩ = some (.int .u64 a0_3) := (blk_cell BK172.out 3).trans rfl
              have hcz48_4 : wr.cell? ⟨gb172, 4, none⟩ = some (.int .u64 a0_4) := (blk_cell BK172.out 4).trans rfl
              have hcz48_5 : wr.cell? ⟨gb172, 5, none⟩ = some (.int .i64 a0_5) := (blk_cell BK172.out 5).trans rfl
              have hcz48_6 : wr.cell? ⟨gb172, 6, none⟩ = some (.int .u64 a0_6) := (blk_cell BK172.out 6).trans rfl
              have hcz48_7 : wr.cell? ⟨gb172, 7, none⟩ = some (.int .u64 a0_7) := (blk_cell BK172.out 7).trans rfl
              have hcz48_8 : wr.cell? ⟨gb172, 8, none⟩ = some (.int .u64 a0_8) := (blk_cell BK172.out 8).trans rfl
              have hcz48_9 : wr.cell? ⟨gb172, 9, none⟩ = some (.slice A0_9 l0_9.length c0_9) := (blk_cell BK172.out 9).trans rfl
              have hfz48_0 := blk_frozen BK172.out 0
              have hfz48_1 := blk_frozen BK172.out 1
              have hfz48_2 := blk_frozen BK172.out 2
              have hfz48_3 := blk_frozen BK172.out 3
              have hfz48_4 := blk_frozen BK172.out 4
              have hfz48_5 := blk_frozen BK172.out 5
              have hfz48_6 := blk_frozen BK172.out 6
              have hfz48_7 := blk_frozen BK172.out 7
              have hfz48_8 := blk_frozen BK172.out 8
              have hfz48_9 := blk_frozen BK172.out 9
              go_wp2
              go_ret
              exact ⟨by first | rfl | (simp [errW_none, errW_some] <;> rfl) | (simp [*, errW_none, errW_some] <;> rfl), by repeat (first | (with_reducible first | exact HB.out | apply below_alloc | apply pw_below_drewN | apply below_drew1 | refine below_set ?_ GE172.out | refine below_set ?_ GE173.out) | exact HB.out)⟩

end Go.Proofs.Ytliighhedmfgjaa.PRefC
