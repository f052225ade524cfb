-- Text of this claim, written by a program.
import Derived.Test.YtliighhedmfgjaaPRefCx0
import Derived.Test.YtliighhedmfgjaaPRefCx3
namespace Go.Proofs.Ytliighhedmfgjaa.PRefC
open Go.RowKit Go.Proofs.YtliighhedmfgjaaW.PrintWords Go.Proofs.YtliighhedmfgjaaW.PrintLast Go.Proofs.YtliighhedmfgjaaW.PrintMore
attribute [local go_sem] max2_int min2_int max_two min_two max_three min_three max_four min_four   -- for this text's walks alone
set_option linter.unusedVariables false
set_option linter.unusedSimpArgs false

/-! ### flocculusref21_CommandBytes: function 10 -/
mutual
def flocculusref21_CommandBytes.j0 : Nat → Bool → Int → Int → Int → Int → Int → Int → Int → Int → Int → List (S29) → Option (List Int)
  | 0, _, _, _, _, _, _, _, _, _, _, _ => none
  | k + 1, x14, x127000, x127001, x127002, x127003, x127004, x127005, x127006, x127007, x127008, x127009 => if x14 = true then (some ([] : List Int)) else ((some (([(x127000) % 256] : List Int) : List Int)).bind fun y127 => (if x127000 = 1 then (if x127005 < 0 then (flocculusref21_CommandBytes.j1 k y127 true x127000 x127001 x127002 x127003 x127004 x127005 x127006 x127007 x127008 x127009) else (if x127005 > 255 then (flocculusref21_CommandBytes.j1 k y127 true x127000 x127001 x127002 x127003 x127004 x127005 x127006 x127007 x127008 x127009) else ((flocculusref21_fits.f x127001).bind fun t130 => (flocculusref21_CommandBytes.j1 k y127 (!t130) x127000 x127001 x127002 x127003 x127004 x127005 x127006 x127007 x127008 x127009)))) else (if x127000 = 2 then (if x127005 < 0 then (some ([] : List Int)) else (if x127005 > 255 then (some ([] : List Int)) else ((flocculusref21_prefix.f k y127 x127003 x127004 x127005).bind fun t137 => (some t137)))) else (if x127000 = 3 then ((flocculusref21_num.f k y127 x127006 8).bind fun t140 => ((flocculusref21_num.f k t140 x127007 8).bind fun t143 => (some t143))) else (if x127000 = 4 then (flocculusref21_CommandBytes.j2 k y127 x127000 (x127000 == 4) x127000 x127001 x127002 x127003 x127004 x127005 x127006 x127007 x127008 x127009) else (flocculusref21_CommandBytes.j2 k y127 x127000 (x127000 == 6) x127000 x127001 x127002 x127003 x127004 x127005 x127006 x127007 x127008 x127009))))))
def flocculusref21_CommandBytes.j1 : Nat → List Int → Bool → Int → Int → Int → Int → Int → Int → Int → Int → Int → List (S29) → Option (List Int)
  | 0, _, _, _, _, _, _, _, _, _, _, _, _ => none
  | k + 1, x3, x38, x127000, x127001, x127002, x127003, x127004, x127005, x127006, x127007, x127008, x127009 => if x38 = true then (some ([] : List Int)) else ((flocculusref21_prefix.f k x3 x127003 x127004 x127005).bind fun t131 => ((flocculusref21_num.f k t131 (IntKind.u64.wrap (x127001)) 4).bind fun t134 => (some t134)))
def flocculusref21_CommandBytes.j2 : Nat → List Int → Int → Bool → Int → Int → Int → Int → Int → Int → Int → Int → Int → List (S29) → Option (List Int)
  | 0, _, _, _, _, _, _, _, _, _, _, _, _, _ => none
  | k + 1, x3, x20, x74, x127000, x127001, x127002, x127003, x127004, x127005, x127006, x127007, x127008, x127009 => if x74 = true then ((flocculusref21_fits.f x127002).bind fun t146 => (if t146 = true then (if x127000 = 6 then ((flocculusref21_num.f k x3 x127008 8).bind fun t147 => ((flocculusref21_num.f k t147 (IntKind.u64.wrap (x127002)) 4).bind fun t150 => (some t150))) else ((flocculusref21_num.f k x3 (IntKind.u64.wrap (x127002)) 4).bind fun t153 => (some t153))) else (some ([] : List Int)))) else (if x20 = 7 then (if (x127009.length : Int) > 20 then (some ([] : List Int)) else (if x3.length < 140737488355328 then (flocculusref21_CommandBytes.l0 k (x3 ++ [((x127009.length : Int)) % 256]) 0 x127000 x127001 x127002 x127003 x127004 x127005 x127006 x127007 x127008 x127009) else (none))) else (some x3))
def flocculusref21_CommandBytes.l0 : Nat → List Int → Int → Int → Int → Int → Int → Int → Int → Int → Int → Int → List (S29) → Option (List Int)
  | 0, _, _, _, _, _, _, _, _, _, _, _, _ => none
  | k + 1, x3, x4, x127000, x127001, x127002, x127003, x127004, x127005, x127006, x127007, x127008, x127009 => if x4 < (x127009.length : Int) then (if 0 ≤ x4 then (if ((rd_T29 x127009 x4).f0) = 1 then (flocculusref21_CommandBytes.j4 k x3 x4 false x127000 x127001 x127002 x127003 x127004 x127005 x127006 x127007 x127008 x127009) else (flocculusref21_CommandBytes.j4 k x3 x4 (((rd_T29 x127009 x4).f0) != 2) x127000 x127001 x127002 x127003 x127004 x127005 x127006 x127007 x127008 x127009)) else (none)) else (some x3)
def flocculusref21_CommandBytes.j4 : Nat → List Int → Int → Bool → Int → Int → Int → Int → Int → Int → Int → Int → Int → List (S29) → Option (List Int)
  | 0, _, _, _, _, _, _, _, _, _, _, _, _, _ => none
  | k + 1, x3, x4, x124, x127000, x127001, x127002, x127003, x127004, x127005, x127006, x127007, x127008, x127009 => if x124 = true then (some ([] : List Int)) else (if 0 ≤ x4 then (if x4 < (x127009.length : Int) then ((flocculusref21_CommandBytes.f k ((rd_T29 x127009 x4).f0) ((rd_T29 x127009 x4).f1) ((rd_T29 x127009 x4).f2) ((rd_T29 x127009 x4).f3.f0.f0) ((rd_T29 x127009 x4).f3.f0.f1) ((rd_T29 x127009 x4).f3.f1) ((rd_T29 x127009 x4).f4.f0) ((rd_T29 x127009 x4).f4.f1) ((rd_T29 x127009 x4).f5) ((rd_T29 x127009 x4).f6)).bind fun t161 => (if (t161.length : Int) = 0 then (some ([] : List Int)) else (if x3.length + t161.length < 140737488355328 then (flocculusref21_CommandBytes.l0 k (x3 ++ t161) (wrap64 (x4 + 1)) x127000 x127001 x127002 x127003 x127004 x127005 x127006 x127007 x127008 x127009) else (none)))) else (none)) else (none))
def flocculusref21_CommandBytes.f : Nat → Int → Int → Int → Int → Int → Int → Int → Int → Int → List (S29) → Option (List Int)
  | 0, _, _, _, _, _, _, _, _, _, _ => none
  | k + 1, a0_0, a0_1, a0_2, a0_3, a0_4, a0_5, a0_6, a0_7, a0_8, l0_9 => if a0_0 < 1 then (flocculusref21_CommandBytes.j0 k true a0_0 a0_1 a0_2 a0_3 a0_4 a0_5 a0_6 a0_7 a0_8 l0_9) else (flocculusref21_CommandBytes.j0 k (decide (a0_0 > 8)) a0_0 a0_1 a0_2 a0_3 a0_4 a0_5 a0_6 a0_7 a0_8 l0_9)
end
theorem flocculusref21_CommandBytes.mono_l : ∀ k, (∀ y0 y1 y2 y3 y4 y5 y6 y7 y8 y9, LeO (flocculusref21_CommandBytes.f k y0 y1 y2 y3 y4 y5 y6 y7 y8 y9) (flocculusref21_CommandBytes.f (k + 1) y0 y1 y2 y3 y4 y5 y6 y7 y8 y9)) ∧ (∀ y0 y1 y2 y3 y4 y5 y6 y7 y8 y9 y10, LeO (flocculusref21_CommandBytes.j0 k y0 y1 y2 y3 y4 y5 y6 y7 y8 y9 y10) (flocculusref21_CommandBytes.j0 (k + 1) y0 y1 y2 y3 y4 y5 y6 y7 y8 y9 y10)) ∧ (∀ y0 y1 y2 y3 y4 y5 y6 y7 y8 y9 y10 y11, LeO (flocculusref21_CommandBytes.j1 k y0 y1 y2 y3 y4 y5 y6 y7 y8 y9 y10 y11) (flocculusref21_CommandBytes.j1 (k + 1) y0 y1 y2 y3 y4 y5 y6 y7 y8 y9 y10 y11)) ∧ (∀ y0 y1 y2 y3 y4 y5 y6 y7 y8 y9 y10 y11 y12, LeO (flocculusref21_CommandBytes.j2 k y0 y1 y2 y3 y4 y5 y6 y7 y8 y9 y10 y11 y12) (flocculusref21_CommandBytes.j2 (k + 1) y0 y1 y2 y3 y4 y5 y6 y7 y8 y9 y10 y11 y12)) ∧ (∀ y0 y1 y2 y3 y4 y5 y6 y7 y8 y9 y10 y11, LeO (flocculusref21_CommandBytes.l0 k y0 y1 y2 y3 y4 y5 y6 y7 y8 y9 y10 y11) (flocculusref21_CommandBytes.l0 (k + 1) y0 y1 y2 y3 y4 y5 y6 y7 y8 y9 y10 y11)) ∧ (∀ y0 y1 y2 y3 y4 y5 y6 y7 y8 y9 y10 y11 y12, LeO (flocculusref21_CommandBytes.j4 k y0 y1 y2 y3 y4 y5 y6 y7 y8 y9 y10 y11 y12) (flocculusref21_CommandBytes.j4 (k + 1) y0 y1 y2 y3 y4 y5 y6 y7 y8 y9 y10 y11 y12))
  | 0 => ⟨fun _ _ _ _ _ _ _ _ _ _ r h => by simp [flocculusref21_CommandBytes.f] at h, fun _ _ _ _ _ _ _ _ _ _ _ r h => by simp [flocculusref21_CommandBytes.j0] at h, fun _ _ _ _ _ _ _ _ _ _ _ _ r h => by simp [flocculusref21_CommandBytes.j1] at h, fun _ _ _ _ _ _ _ _ _ _ _ _ _ r h => by simp [flocculusref21_CommandBytes.j2] at h, fun _ _ _ _ _ _ _ _ _ _ _ _ r h => by simp [flocculusref21_CommandBytes.l0] at h, fun _ _ _ _ _ _ _ _ _ _ _ _ _ r h => by simp [flocculusref21_CommandBytes.j4] at h⟩
  | k + 1 => by
    obtain ⟨ih0, ih1, ih2, ih3, ih4, ih5⟩ := flocculusref21_CommandBytes.mono_l k
    refine ⟨?_, ?_, ?_, ?_, ?_, ?_⟩
    · intro y0 y1 y2 y3 y4 y5 y6 y7 y8 y9
      unfold flocculusref21_CommandBytes.f
      repeat' first
      | (with_reducible exact ih0 _ _ _ _ _ _ _ _ _ _)
      | (with_reducible exact ih1 _ _ _ _ _ _ _ _ _ _ _)
      | (with_reducible exact ih2 _ _ _ _ _ _ _ _ _ _ _ _)
      | (with_reducible exact ih3 _ _ _ _ _ _ _ _ _ _ _ _ _)
      | (with_reducible exact ih4 _ _ _ _ _ _ _ _ _ _ _ _)
      | (with_reducible exact ih5 _ _ _ _ _ _ _ _ _ _ _ _ _)
      | (with_reducible exact flocculusref21_num.mono _ _ _ _)
      | (with_reducible exact flocculusref21_prefix.mono _ _ _ _ _)
      | (with_reducible exact LeO.refl _)
      | (with_reducible exact LeO.none _)
      | (with_reducible refine LeO.ite ?_ ?_)
      | (with_reducible refine LeO.bind ?_ (fun _ => ?_))
      | exact ih0 _ _ _ _ _ _ _ _ _ _
      | exact ih1 _ _ _ _ _ _ _ _ _ _ _
      | exact ih2 _ _ _ _ _ _ _ _ _ _ _ _
      | exact ih3 _ _ _ _ _ _ _ _ _ _ _ _ _
      | exact ih4 _ _ _ _ _ _ _ _ _ _ _ _
      | exact ih5 _ _ _ _ _ _ _ _ _ _ _ _ _
      | exact flocculusref21_num.mono _ _ _ _
      | exact flocculusref21_prefix.mono _ _ _ _ _
      | exact LeO.none _
      | refine LeO.ite ?_ ?_
      | refine LeO.bind ?_ (fun _ => ?_)
    · intro y0 y1 y2 y3 y4 y5 y6 y7 y8 y9 y10
      unfold flocculusref21_CommandBytes.j0
      repeat' first
      | (with_reducible exact ih0 _ _ _ _ _ _ _ _ _ _)
      | (with_reducible exact ih1 _ _ _ _ _ _ _ _ _ _ _)
      | (with_reducible exact ih2 _ _ _ _ _ _ _ _ _ _ _ _)
      | (with_reducible exact ih3 _ _ _ _ _ _ _ _ _ _ _ _ _)
      | (with_reducible exact ih4 _ _ _ _ _ _ _ _ _ _ _ _)
      | (with_reducible exact ih5 _ _ _ _ _ _ _ _ _ _ _ _ _)
      | (with_reducible exact flocculusref21_num.mono _ _ _ _)
      | (with_reducible exact flocculusref21_prefix.mono _ _ _ _ _)
      | (with_reducible exact LeO.refl _)
      | (with_reducible exact LeO.none _)
      | (with_reducible refine LeO.ite ?_ ?_)
      | (with_reducible refine LeO.bind ?_ (fun _ => ?_))
      | exact ih0 _ _ _ _ _ _ _ _ _ _
      | exact ih1 _ _ _ _ _ _ _ _ _ _ _
      | exact ih2 _ _ _ _ _ _ _ _ _ _ _ _
      | exact ih3 _ _ _ _ _ _ _ _ _ _ _ _ _
      | exact ih4 _ _ _ _ _ _ _ _ _ _ _ _
      | exact ih5 _ _ _ _ _ _ _ _ _ _ _ _ _
      | exact flocculusref21_num.mono _ _ _ _
      | exact flocculusref21_prefix.mono _ _ _ _ _
      | exact LeO.none _
      | refine LeO.ite ?_ ?_
      | refine LeO.bind ?_ (fun _ => ?_)
    · intro y0 y1 y2 y3 y4 y5 y6 y7 y8 y9 y10 y11
      unfold flocculusref21_CommandBytes.j1
      repeat' first
      | (with_reducible exact ih0 _ _ _ _ _ _ _ _ _ _)
      | (with_reducible exact ih1 _ _ _ _ _ _ _ _ _ _ _)
      | (with_reducible exact ih2 _ _ _ _ _ _ _ _ _ _ _ _)
      | (with_reducible exact ih3 _ _ _ _ _ _ _ _ _ _ _ _ _)
      | (with_reducible exact ih4 _ _ _ _ _ _ _ _ _ _ _ _)
      | (with_reducible exact ih5 _ _ _ _ _ _ _ _ _ _ _ _ _)
      | (with_reducible exact flocculusref21_num.mono _ _ _ _)
      | (with_reducible exact flocculusref21_prefix.mono _ _ _ _ _)
      | (with_reducible exact LeO.refl _)
      | (with_reducible exact LeO.none _)
      | (with_reducible refine LeO.ite ?_ ?_)
      | (with_reducible refine LeO.bind ?_ (fun _ => ?_))
      | exact ih0 _ _ _ _ _ _ _ _ _ _
      | exact ih1 _ _ _ _ _ _ _ _ _ _ _
      | exact ih2 _ _ _ _ _ _ _ _ _ _ _ _
      | exact ih3 _ _ _ _ _ _ _ _ _ _ _ _ _
      | exact ih4 _ _ _ _ _ _ _ _ _ _ _ _
      | exact ih5 _ _ _ _ _ _ _ _ _ _ _ _ _
      | exact flocculusref21_num.mono _ _ _ _
      | exact flocculusref21_prefix.mono _ _ _ _ _
      | exact LeO.none _
      | refine LeO.ite ?_ ?_
      | refine LeO.bind ?_ (fun _ => ?_)
    · intro y0 y1 y2 y3 y4 y5 y6 y7 y8 y9 y10 y11 y12
      unfold flocculusref21_CommandBytes.j2
      repeat' first
      | (with_reducible exact ih0 _ _ _ _ _ _ _ _ _ _)
      | (with_reducible exact ih1 _ _ _ _ _ _ _ _ _ _ _)
      | (with_reducible exact ih2 _ _ _ _ _ _ _ _ _ _ _ _)
      | (with_reducible exact ih3 _ _ _ _ _ _ _ _ _ _ _ _ _)
      | (with_reducible exact ih4 _ _ _ _ _ _ _ _ _ _ _ _)
      | (with_reducible exact ih5 _ _ _ _ _ _ _ _ _ _ _ _ _)
      | (with_reducible exact flocculusref21_num.mono _ _ _ _)
      | (with_reducible exact flocculusref21_prefix.mono _ _ _ _ _)
      | (with_reducible exact LeO.refl _)
      | (with_reducible exact LeO.none _)
      | (with_reducible refine LeO.ite ?_ ?_)
      | (with_reducible refine LeO.bind ?_ (fun _ => ?_))
      | exact ih0 _ _ _ _ _ _ _ _ _ _
      | exact ih1 _ _ _ _ _ _ _ _ _ _ _
      | exact ih2 _ _ _ _ _ _ _ _ _ _ _ _
      | exact ih3 _ _ _ _ _ _ _ _ _ _ _ _ _
      | exact ih4 _ _ _ _ _ _ _ _ _ _ _ _
      | exact ih5 _ _ _ _ _ _ _ _ _ _ _ _ _
      | exact flocculusref21_num.mono _ _ _ _
      | exact flocculusref21_prefix.mono _ _ _ _ _
      | exact LeO.none _
      | refine LeO.ite ?_ ?_
      | refine LeO.bind ?_ (fun _ => ?_)
    · intro y0 y1 y2 y3 y4 y5 y6 y7 y8 y9 y10 y11
      unfold flocculusref21_CommandBytes.l0
      repeat' first
      | (with_reducible exact ih0 _ _ _ _ _ _ _ _ _ _)
      | (with_reducible exact ih1 _ _ _ _ _ _ _ _ _ _ _)
      | (with_reducible exact ih2 _ _ _ _ _ _ _ _ _ _ _ _)
      | (with_reducible exact ih3 _ _ _ _ _ _ _ _ _ _ _ _ _)
      | (with_reducible exact ih4 _ _ _ _ _ _ _ _ _ _ _ _)
      | (with_reducible exact ih5 _ _ _ _ _ _ _ _ _ _ _ _ _)
      | (with_reducible exact flocculusref21_num.mono _ _ _ _)
      | (with_reducible exact flocculusref21_prefix.mono _ _ _ _ _)
      | (with_reducible exact LeO.refl _)
      | (with_reducible exact LeO.none _)
      | (with_reducible refine LeO.ite ?_ ?_)
      | (with_reducible refine LeO.bind ?_ (fun _ => ?_))
      | exact ih0 _ _ _ _ _ _ _ _ _ _
      | exact ih1 _ _ _ _ _ _ _ _ _ _ _
      | exact ih2 _ _ _ _ _ _ _ _ _ _ _ _
      | exact ih3 _ _ _ _ _ _ _ _ _ _ _ _ _
      | exact ih4 _ _ _ _ _ _ _ _ _ _ _ _
      | exact ih5 _ _ _ _ _ _ _ _ _ _ _ _ _
      | exact flocculusref21_num.mono _ _ _ _
      | exact flocculusref21_prefix.mono _ _ _ _ _
      | exact LeO.none _
      | refine LeO.ite ?_ ?_
      | refine LeO.bind ?_ (fun _ => ?_)
    · intro y0 y1 y2 y3 y4 y5 y6 y7 y8 y9 y10 y11 y12
      unfold flocculusref21_CommandBytes.j4
      repeat' first
      | (with_reducible exact ih0 _ _ _ _ _ _ _ _ _ _)
      | (with_reducible exact ih1 _ _ _ _ _ _ _ _ _ _ _)
      | (with_reducible exact ih2 _ _ _ _ _ _ _ _ _ _ _ _)
      | (with_reducible exact ih3 _ _ _ _ _ _ _ _ _ _ _ _ _)
      | (with_reducible exact ih4 _ _ _ _ _ _ _ _ _ _ _ _)
      | (with_reducible exact ih5 _ _ _ _ _ _ _ _ _ _ _ _ _)
      | (with_reducible exact flocculusref21_num.mono _ _ _ _)
      | (with_reducible exact flocculusref21_prefix.mono _ _ _ _ _)
      | (with_reducible exact LeO.refl _)
      | (with_reducible exact LeO.none _)
      | (with_reducible refine LeO.ite ?_ ?_)
      | (with_reducible refine LeO.bind ?_ (fun _ => ?_))
      | exact ih0 _ _ _ _ _ _ _ _ _ _
      | exact ih1 _ _ _ _ _ _ _ _ _ _ _
      | exact ih2 _ _ _ _ _ _ _ _ _ _ _ _
      | exact ih3 _ _ _ _ _ _ _ _ _ _ _ _ _
      | exact ih4 _ _ _ _ _ _ _ _ _ _ _ _
      | exact ih5 _ _ _ _ _ _ _ _ _ _ _ _ _
      | exact flocculusref21_num.mono _ _ _ _
      | exact flocculusref21_prefix.mono _ _ _ _ _
      | exact LeO.none _
      | refine LeO.ite ?_ ?_
      | refine LeO.bind ?_ (fun _ => ?_)
theorem flocculusref21_CommandBytes.mono : ∀ a0 a1 a2 a3 a4 a5 a6 a7 a8 a9 k, LeO (flocculusref21_CommandBytes.f k a0 a1 a2 a3 a4 a5 a6 a7 a8 a9) (flocculusref21_CommandBytes.f (k + 1) a0 a1 a2 a3 a4 a5 a6 a7 a8 a9) := by
  intro a0 a1 a2 a3 a4 a5 a6 a7 a8 a9 k
  obtain ⟨ih0, ih1, ih2, ih3, ih4, ih5⟩ := flocculusref21_CommandBytes.mono_l k
  exact ih0 a0 a1 a2 a3 a4 a5 a6 a7 a8 a9
def flocculusref21_CommandBytes.T8 : Bool × List (List Nat × List Nat) := (true, [([], []), ([], []), ([1], [1]), ([0, 2], [0, 2]), ([], []), ([4], [4]), ([5], [5]), ([3, 6, 3], [3, 6]), ([7, 7, 0, 1, 2, 3, 4, 5, 6, 7], [7])])
def flocculusref21_CommandBytes.B8 : List Nat := [0, 0, 2, 7, 0, 16, 48, 127, 255]
theorem flocculusref21_CommandBytes.tab8 : rtab .any (opsOf Try.f10 8) = flocculusref21_CommandBytes.T8 := by kernel_rfl
theorem flocculusref21_CommandBytes.bits8 : waitsOk flocculusref21_CommandBytes.T8.2 flocculusref21_CommandBytes.B8 = true := by kernel_rfl
def flocculusref21_CommandBytes.T14 : Bool × List (List Nat × List Nat) := (true, [([], []), ([], []), ([1], [1]), ([2], [2]), ([0, 3], [0, 3]), ([], []), ([5], [5]), ([6], [6]), ([4, 7, 4], [4, 7]), ([8, 8, 0, 1, 2, 3, 4, 5, 6, 7, 8], [8])])
def flocculusref21_CommandBytes.B14 : List Nat := [0, 0, 2, 6, 15, 0, 32, 96, 255, 511]
theorem flocculusref21_CommandBytes.tab14 : rtab .any (opsOf Try.f10 14) = flocculusref21_CommandBytes.T14 := by kernel_rfl
theorem flocculusref21_CommandBytes.bits14 : waitsOk flocculusref21_CommandBytes.T14.2 flocculusref21_CommandBytes.B14 = true := by kernel_rfl
set_option maxHeartbeats 8000000 in
set_option maxRecDepth 100000 in
theorem flocculusref21_CommandBytes.calls (k : Nat) : ∀ (a0_0 : Int) (a0_1 : Int) (a0_2 : Int) (a0_3 : Int) (a0_4 : Int) (a0_5 : Int) (a0_6 : Int) (a0_7 : Int) (a0_8 : Int) (A0_9 : Option Addr) (c0_9 : Nat) (l0_9 : List (S29)) (r : List Int) (w : World) (hr0_9 : Kd.C k29 w A0_9 l0_9.length l0_9) (hc0_9 : l0_9.length ≤ c0_9) (h : flocculusref21_CommandBytes.f k a0_0 a0_1 a0_2 a0_3 a0_4 a0_5 a0_6 a0_7 a0_8 l0_9 = some r),
    Calls Try.prog 10 #[.agg #[.int .i64 a0_0, .int .i64 a0_1, .int .i64 a0_2, .int .u64 a0_3, .int .u64 a0_4, .int .i64 a0_5, .int .u64 a0_6, .int .u64 a0_7, .int .u64 a0_8, .slice A0_9 l0_9.length c0_9]] w fun e w' => ∃ v0_ : Value, e = .returned (v0_) ∧ Kd.R (Kd.int .u8) 5 w' w.heap.size (fun _ => True) v0_ r ∧ Below w.heap.size w w' := by
  induction k using Nat.strongRecOn with
  | _ k ih =>
  intro a0_0 a0_1 a0_2 a0_3 a0_4 a0_5 a0_6 a0_7 a0_8 A0_9 c0_9 l0_9 r w hr0_9 hc0_9 h
  cases k with
  | zero => exact absurd h (by simp [flocculusref21_CommandBytes.f])
  | succ k =>
  simp only [flocculusref21_CommandBytes.f] at h
  have hu29 := Try.underlying29
  have hu26 := Try.underlying26
  have HR0_9 := Aside0.mk hr0_9
  have HC0_9 := Aside0.mk hc0_9
  clear hr0_9 hc0_9
  have HB := Aside0.mk (Below.refl w.heap.size w)
  have H : (if a0_0 < 1 then (flocculusref21_CommandBytes.j0 k true a0_0 a0_1 a0_2 a0_3 a0_4 a0_5 a0_6 a0_7 a0_8 l0_9) else (flocculusref21_CommandBytes.j0 k (decide (a0_0 > 8)) a0_0 a0_1 a0_2 a0_3 a0_4 a0_5 a0_6 a0_7 a0_8 l0_9)) = some r := h
  clear h
  have HC2 := Aside0.mk H
  clear H
  go_enter Try.func10, Try.ntmps10
  go_upto_region 1 with (first | ((with_reducible refine gate_dst (N := 1) rfl ?_); refine box_event ?hg (N := 1) ?hd (cs := #[.int .i64 a0_0, .int .i64 a0_1, .int .i64 a0_2, .int .u64 a0_3, .int .u64 a0_4, .int .i64 a0_5, .int .u64 a0_6, .int .u64 a0_7, .int .u64 a0_8, .slice A0_9 l0_9.length c0_9]) (t := 29) ?hr ?_; (case hd => rfl); (case hg => rfl); (case hr => first | (go_simp; done) | (go_simp; rfl)); intro gb126 hg w3 hbox hb; have n0_ := Aside0.mk (below_step (by repeat (first | (with_reducible first | exact HB.out | apply below_alloc | apply pw_below_drewN | apply below_drew1) | exact HB.out)) hb); have n1_ := Aside0.mk (hbox); have n2_ := Aside0.mk ((by rw [hg]; exact (below_size (by repeat (first | (with_reducible first | exact HB.out | apply below_alloc | apply pw_below_drewN | apply below_drew1) | exact HB.out))) : w.heap.size ≤ gb126)); have n3_ := Aside0.mk ((by rw [hg]; exact (below_size (by repeat (first | (with_reducible first | exact HB.out | apply below_alloc | apply pw_below_drewN | apply below_drew1) | exact HB.out))) : w.heap.size ≤ gb126)); clear HB; have HB := n0_; have BK126 := n1_; have GW126 := n2_; have GE126 := n3_; clear n0_ n1_ n2_ n3_; clear hb hbox hg))
  (try simp only [Act.put, List.setIfInBounds_toArray, List.set_cons_zero, List.set_cons_succ])
  go_cut [14] (fun v14 wc => ∃ (kq : Nat) (x14_1 : Bool), v14 = .bool x14_1 ∧ Aside0 (flocculusref21_CommandBytes.j0 kq x14_1 a0_0 a0_1 a0_2 a0_3 a0_4 a0_5 a0_6 a0_7 a0_8 l0_9 = some r) ∧ Aside0 (kq ≤ k) ∧ Aside0 (wc.heap[gb126]? = some (.cells #[.int .i64 a0_0, .int .i64 a0_1, .int .i64 a0_2, .int .u64 a0_3, .int .u64 a0_4, .int .i64 a0_5, .int .u64 a0_6, .int .u64 a0_7, .int .u64 a0_8, (.slice A0_9 l0_9.length c0_9)] 29 (0, 0))) ∧ Aside0 (Below w.heap.size w wc))
  case first =>
    have H := HC2.out
    clear HC2
    by_cases c4 : a0_0 < 1
    · rw [if_pos c4] at H
      have c4b0 : decide (a0_0 < 1) = true := decide_eq_true c4
      clear c4
      (first | rw [c4b0] | (simp only [i64_w, i32_w]; rw [c4b0]) | skip)
      have H' := Aside0.mk H
      clear H
      have hcz5_0 : w3.cell? ⟨gb126, 0, none⟩ = some (.int .i64 a0_0) := (blk_cell BK126.out 0).trans rfl
      have hcz5_1 : w3.cell? ⟨gb126, 1, none⟩ = some (.int .i64 a0_1) := (blk_cell BK126.out 1).trans rfl
      have hcz5_2 : w3.cell? ⟨gb126, 2, none⟩ = some (.int .i64 a0_2) := (blk_cell BK126.out 2).trans rfl
      have hcz5_3 : w3.cell? ⟨gb126, 3, none⟩ = some (.int .u64 a0_3) := (blk_cell BK126.out 3).trans rfl
      have hcz5_4 : w3.cell? ⟨gb126, 4, none⟩ = some (.int .u64 a0_4) := (blk_cell BK126.out 4).trans rfl
      have hcz5_5 : w3.cell? ⟨gb126, 5, none⟩ = some (.int .i64 a0_5) := (blk_cell BK126.out 5).trans rfl
      have hcz5_6 : w3.cell? ⟨gb126, 6, none⟩ = some (.int .u64 a0_6) := (blk_cell BK126.out 6).trans rfl
      have hcz5_7 : w3.cell? ⟨gb126, 7, none⟩ = some (.int .u64 a0_7) := (blk_cell BK126.out 7).trans rfl
      have hcz5_8 : w3.cell? ⟨gb126, 8, none⟩ = some (.int .u64 a0_8) := (blk_cell BK126.out 8).trans rfl
      have hcz5_9 : w3.cell? ⟨gb126, 9, none⟩ = some (.slice A0_9 l0_9.length c0_9) := (blk_cell BK126.out 9).trans rfl
      have hfz5_0 := blk_frozen BK126.out 0
      have hfz5_1 := blk_frozen BK126.out 1
      have hfz5_2 := blk_frozen BK126.out 2
      have hfz5_3 := blk_frozen BK126.out 3
      have hfz5_4 := blk_frozen BK126.out 4
      have hfz5_5 := blk_frozen BK126.out 5
      have hfz5_6 := blk_frozen BK126.out 6
      have hfz5_7 := blk_frozen BK126.out 7
      have hfz5_8 := blk_frozen BK126.out 8
      have hfz5_9 := blk_frozen BK126.out 9
      go_wp2
      go_meet
      case rel => exact ⟨_, (true), (by first | rfl | (simp; done) | (simp [*]; done)), H', ⟨by first | omega | exact Nat.le_refl _⟩, ⟨by (with_reducible repeat (first | refine blk_drewN ?_ _ | refine blk_drew ?_ | refine blk_alloc ?_ _)); exact BK126.out⟩, ⟨by repeat (first | (with_reducible first | exact HB.out | apply below_alloc | apply pw_below_drewN | apply below_drew1 | refine below_set ?_ GE126.out) | exact HB.out)⟩⟩
    · rw [if_neg c4] at H
      have c4b0 : decide (a0_0 < 1) = false := decide_eq_false c4
      clear c4
      (first | rw [c4b0] | (simp only [i64_w, i32_w]; rw [c4b0]) | skip)
      have H' := Aside0.mk H
      clear H
      have hcz6_0 : w3.cell? ⟨gb126, 0, none⟩ = some (.int .i64 a0_0) := (blk_cell BK126.out 0).trans rfl
      have hcz6_1 : w3.cell? ⟨gb126, 1, none⟩ = some (.int .i64 a0_1) := (blk_cell BK126.out 1).trans rfl
      have hcz6_2 : w3.cell? ⟨gb126, 2, none⟩ = some (.int .i64 a0_2) := (blk_cell BK126.out 2).trans rfl
      have hcz6_3 : w3.cell? ⟨gb126, 3, none⟩ = some (.int .u64 a0_3) := (blk_cell BK126.out 3).trans rfl
      have hcz6_4 : w3.cell? ⟨gb126, 4, none⟩ = some (.int .u64 a0_4) := (blk_cell BK126.out 4).trans rfl
      have hcz6_5 : w3.cell? ⟨gb126, 5, none⟩ = some (.int .i64 a0_5) := (blk_cell BK126.out 5).trans rfl
      have hcz6_6 : w3.cell? ⟨gb126, 6, none⟩ = some (.int .u64 a0_6) := (blk_cell BK126.out 6).trans rfl
      have hcz6_7 : w3.cell? ⟨gb126, 7, none⟩ = some (.int .u64 a0_7) := (blk_cell BK126.out 7).trans rfl
      have hcz6_8 : w3.cell? ⟨gb126, 8, none⟩ = some (.int .u64 a0_8) := (blk_cell BK126.out 8).trans rfl
      have hcz6_9 : w3.cell? ⟨gb126, 9, none⟩ = some (.slice A0_9 l0_9.length c0_9) := (blk_cell BK126.out 9).trans rfl
      have hfz6_0 := blk_frozen BK126.out 0
      have hfz6_1 := blk_frozen BK126.out 1
      have hfz6_2 := blk_frozen BK126.out 2
      have hfz6_3 := blk_frozen BK126.out 3
      have hfz6_4 := blk_frozen BK126.out 4
      have hfz6_5 := blk_frozen BK126.out 5
      have hfz6_6 := blk_frozen BK126.out 6
      have hfz6_7 := blk_frozen BK126.out 7
      have hfz6_8 := blk_frozen BK126.out 8
      have hfz6_9 := blk_frozen BK126.out 9
      go_wp2
      go_meet
      case rel => exact ⟨_, (decide (a0_0 > 8)), (by first | rfl | (simp; done) | (simp [*]; done)), H', ⟨by first | omega | exact Nat.le_refl _⟩, ⟨by (with_reducible repeat (first | refine blk_drewN ?_ _ | refine blk_drew ?_ | refine blk_alloc ?_ _)); exact BK126.out⟩, ⟨by repeat (first | (with_reducible first | exact HB.out | apply below_alloc | apply pw_below_drewN | apply below_drew1 | refine below_set ?_ GE126.out) | exact HB.out)⟩⟩
  case rest =>
    clear HC2
    try clear c1
    try clear p2
    try clear c4
    try clear c4b0
    try clear hcz5_0
    try clear hcz5_1
    try clear hcz5_2
    try clear hcz5_3
    try clear hcz5_4
    try clear hcz5_5
    try clear hcz5_6
    try clear hcz5_7
    try clear hcz5_8
    try clear hcz5_9
    try clear hcz6_0
    try clear hcz6_1
    try clear hcz6_2
    try clear hcz6_3
    try clear hcz6_4
    try clear hcz6_5
    try clear hcz6_6
    try clear hcz6_7
    try clear hcz6_8
    try clear hcz6_9
    try clear hfz5_0
    try clear hfz5_1
    try clear hfz5_2
    try clear hfz5_3
    try clear hfz5_4
    try clear hfz5_5
    try clear hfz5_6
    try clear hfz5_7
    try clear hfz5_8
    try clear hfz5_9
    try clear hfz6_0
    try clear hfz6_1
    try clear hfz6_2
    try clear hfz6_3
    try clear hfz6_4
    try clear hfz6_5
    try clear hfz6_6
    try clear hfz6_7
    try clear hfz6_8
    try clear hfz6_9
    obtain ⟨kq, x14_1, rfl, HA, HJ1, BK126, HB⟩ := hcut
    cases kq with
    | zero => exact absurd HA.out (by simp [flocculusref21_CommandBytes.j0])
    | succ kj1 =>
      have H := HA.out
      clear HA
      simp only [flocculusref21_CommandBytes.j0] at H
      by_cases c7 : x14_1 = true
      · subst c7
        have H1 : (some ([] : List Int)) = some r := by rw [if_pos rfl] at H; exact H
        clear H
        have H := H1
        clear H1
        obtain rfl := Option.some.inj H
        go_wp2
        go_ret
        exact ⟨_, by first | rfl | (simp [errW_none, errW_some] <;> rfl) | (simp [*, errW_none, errW_some] <;> rfl), by first | exact Kd.R_nil _ _ _ _ _ | exact Kd.N_nil _ _ _ _ _ | exact Kd.V_nil _ _ _ _ _ | exact Kd.Q_nil _ _ _ _ _ | exact Kd.S_nil _ _ _ _ _, by repeat (first | (with_reducible first | exact HB.out | apply below_alloc | apply pw_below_drewN | apply below_drew1 | refine below_set ?_ GE126.out) | exact HB.out)⟩
      · replace c7 := Bool.eq_false_iff.mpr c7
        subst c7
        have H1 : ((some (([(a0_0) % 256] : List Int) : List Int)).bind fun y127 => (if a0_0 = 1 then (if a0_5 < 0 then (flocculusref21_CommandBytes.j1 kj1 y127 true a0_0 a0_1 a0_2 a0_3 a0_4 a0_5 a0_6 a0_7 a0_8 l0_9) else (if a0_5 > 255 then (flocculusref21_CommandBytes.j1 kj1 y127 true a0_0 a0_1 a0_2 a0_3 a0_4 a0_5 a0_6 a0_7 a0_8 l0_9) else ((flocculusref21_fits.f a0_1).bind fun t130 => (flocculusref21_CommandBytes.j1 kj1 y127 (!t130) a0_0 a0_1 a0_2 a0_3 a0_4 a0_5 a0_6 a0_7 a0_8 l0_9)))) else (if a0_0 = 2 then (if a0_5 < 0 then (some ([] : List Int)) else (if a0_5 > 255 then (some ([] : List Int)) else ((flocculusref21_prefix.f kj1 y127 a0_3 a0_4 a0_5).bind fun t137 => (some t137)))) else (if a0_0 = 3 then ((flocculusref21_num.f kj1 y127 a0_6 8).bind fun t140 => ((flocculusref21_num.f kj1 t140 a0_7 8).bind fun t143 => (some t143))) else (if a0_0 = 4 then (flocculusref21_CommandBytes.j2 kj1 y127 a0_0 (a0_0 == 4) a0_0 a0_1 a0_2 a0_3 a0_4 a0_5 a0_6 a0_7 a0_8 l0_9) else (flocculusref21_CommandBytes.j2 kj1 y127 a0_0 (a0_0 == 6) a0_0 a0_1 a0_2 a0_3 a0_4 a0_5 a0_6 a0_7 a0_8 l0_9)))))) = some r := by rw [if_neg (show ¬ (false = true) by decide)] at H; exact H
        clear H
        have H := H1
        clear H1
        obtain ⟨y127, hy127⟩ : ∃ y_ : List Int, y_ = (([(a0_0) % 256] : List Int)) := ⟨_, rfl⟩
        replace H : (if a0_0 = 1 then (if a0_5 < 0 then (flocculusref21_CommandBytes.j1 kj1 y127 true a0_0 a0_1 a0_2 a0_3 a0_4 a0_5 a0_6 a0_7 a0_8 l0_9) else (if a0_5 > 255 then (flocculusref21_CommandBytes.j1 kj1 y127 true a0_0 a0_1 a0_2 a0_3 a0_4 a0_5 a0_6 a0_7 a0_8 l0_9) else ((flocculusref21_fits.f a0_1).bind fun t130 => (flocculusref21_CommandBytes.j1 kj1 y127 (!t130) a0_0 a0_1 a0_2 a0_3 a0_4 a0_5 a0_6 a0_7 a0_8 l0_9)))) else (if a0_0 = 2 then (if a0_5 < 0 then (some ([] : List Int)) else (if a0_5 > 255 then (some ([] : List Int)) else ((flocculusref21_prefix.f kj1 y127 a0_3 a0_4 a0_5).bind fun t137 => (some t137)))) else (if a0_0 = 3 then ((flocculusref21_num.f kj1 y127 a0_6 8).bind fun t140 => ((flocculusref21_num.f kj1 t140 a0_7 8).bind fun t143 => (some t143))) else (if a0_0 = 4 then (flocculusref21_CommandBytes.j2 kj1 y127 a0_0 (a0_0 == 4) a0_0 a0_1 a0_2 a0_3 a0_4 a0_5 a0_6 a0_7 a0_8 l0_9) else (flocculusref21_CommandBytes.j2 kj1 y127 a0_0 (a0_0 == 6) a0_0 a0_1 a0_2 a0_3 a0_4 a0_5 a0_6 a0_7 a0_8 l0_9))))) = some r := by first | (rw [hy127]; with_reducible exact H) | (have H2_ := (Option.bind_some _ _).symm.trans H; rw [hy127]; with_reducible exact H2_) | (have H2_ := (Option.bind_some _ _).symm.trans H; with_reducible exact H2_) | with_reducible exact H | (rw [hy127]; exact H) | exact H
        have Ny127 := Aside0.mk hy127
        clear hy127
        by_cases c8 : a0_0 = 1
        · rw [if_pos c8] at H
          have c8b0 : (a0_0 == 1) = true := beq_iff_eq.mpr c8
          have c8b1 : (a0_0 != 1) = false := bne_eq_false_iff_eq.mpr c8
          clear c8
          have HC9 := Aside0.mk H
          clear H
          have hcz10_0 : wc.cell? ⟨gb126, 0, none⟩ = some (.int .i64 a0_0) := (blk_cell BK126.out 0).trans rfl
          have hcz10_1 : wc.cell? ⟨gb126, 1, none⟩ = some (.int .i64 a0_1) := (blk_cell BK126.out 1).trans rfl
          have hcz10_2 : wc.cell? ⟨gb126, 2, none⟩ = some (.int .i64 a0_2) := (blk_cell BK126.out 2).trans rfl
          have hcz10_3 : wc.cell? ⟨gb126, 3, none⟩ = some (.int .u64 a0_3) := (blk_cell BK126.out 3).trans rfl
          have hcz10_4 : wc.cell? ⟨gb126, 4, none⟩ = some (.int .u64 a0_4) := (blk_cell BK126.out 4).trans rfl
          have hcz10_5 : wc.cell? ⟨gb126, 5, none⟩ = some (.int .i64 a0_5) := (blk_cell BK126.out 5).trans rfl
          have hcz10_6 : wc.cell? ⟨gb126, 6, none⟩ = some (.int .u64 a0_6) := (blk_cell BK126.out 6).trans rfl
          have hcz10_7 : wc.cell? ⟨gb126, 7, none⟩ = some (.int .u64 a0_7) := (blk_cell BK126.out 7).trans rfl
          have hcz10_8 : wc.cell? ⟨gb126, 8, none⟩ = some (.int .u64 a0_8) := (blk_cell BK126.out 8).trans rfl
          have hcz10_9 : wc.cell? ⟨gb126, 9, none⟩ = some (.slice A0_9 l0_9.length c0_9) := (blk_cell BK126.out 9).trans rfl
          have hfz10_0 := blk_frozen BK126.out 0
          have hfz10_1 := blk_frozen BK126.out 1
          have hfz10_2 := blk_frozen BK126.out 2
          have hfz10_3 := blk_frozen BK126.out 3
          have hfz10_4 := blk_frozen BK126.out 4
          have hfz10_5 := blk_frozen BK126.out 5
          have hfz10_6 := blk_frozen BK126.out 6
          have hfz10_7 := blk_frozen BK126.out 7
          have hfz10_8 := blk_frozen BK126.out 8
          have hfz10_9 := blk_frozen BK126.out 9
          go_upto_region 6 with (first | ((with_reducible refine gate_dst (N := 18) rfl ?_); refine Kd.R_lit (Kd.int .u8) _ 5 ?hg (N := 18) ?hd (xs := ([(a0_0) % 256] : List Int)) (inner := [.int .u8 ((a0_0) % 256)]) (ok := fun _ => True) (okp := fun _ => True) ?hr ?hp (fun _ hk => hk) trivial (Below.refl _ _) (Nat.le_refl _) (by simp) ?_; (case hd => rfl); (case hg => rfl); (case hr => first | (go_simp; done) | (go_simp; rfl)); (case hp => exact (Reps.one (show Kd.M (Kd.int .u8) _ _ _ ((a0_0) % 256) [.int .u8 ((a0_0) % 256)] from rfl) (Reps.none _ _))); intro v128 w11 ho12 hb hg_ hnew_; clear hg_ hnew_; (first | rw [← Ny127.out] at ho12 | (simp only [Int.reduceToNat] at ho12; rw [← Ny127.out] at ho12)); have n0_ := Aside0.mk (Kd.R_lower ho12 (below_size (by repeat (first | (with_reducible first | exact HB.out | apply below_alloc | apply pw_below_drewN | apply below_drew1 | refine below_set ?_ GE126.out) | exact HB.out)))); have n1_ := Aside0.mk (blk_below (g := gb126) (o := .cells #[.int .i64 a0_0, .int .i64 a0_1, .int .i64 a0_2, .int .u64 a0_3, .int .u64 a0_4, .int .i64 a0_5, .int .u64 a0_6, .int .u64 a0_7, .int .u64 a0_8, .slice A0_9 l0_9.length c0_9] 29 (0, 0)) (by (with_reducible repeat (first | refine blk_drewN ?_ _ | refine blk_drew ?_ | refine blk_alloc ?_ _)); exact BK126.out) hb); have n2_ := Aside0.mk (below_step (by repeat (first | (with_reducible first | exact HB.out | apply below_alloc | apply pw_below_drewN | apply below_drew1 | refine below_set ?_ GE126.out) | exact HB.out)) hb); clear BK126; clear HB; have HO129 := n0_; have BK126 := n1_; have HB := n2_; clear n0_ n1_ n2_; clear hb ho12; have hcz13_0 : w11.cell? ⟨gb126, 0, none⟩ = some (.int .i64 a0_0) := (blk_cell BK126.out 0).trans rfl; have hcz13_1 : w11.cell? ⟨gb126, 1, none⟩ = some (.int .i64 a0_1) := (blk_cell BK126.out 1).trans rfl; have hcz13_2 : w11.cell? ⟨gb126, 2, none⟩ = some (.int .i64 a0_2) := (blk_cell BK126.out 2).trans rfl; have hcz13_3 : w11.cell? ⟨gb126, 3, none⟩ = some (.int .u64 a0_3) := (blk_cell BK126.out 3).trans rfl; have hcz13_4 : w11.cell? ⟨gb126, 4, none⟩ = some (.int .u64 a0_4) := (blk_cell BK126.out 4).trans rfl; have hcz13_5 : w11.cell? ⟨gb126, 5, none⟩ = some (.int .i64 a0_5) := (blk_cell BK126.out 5).trans rfl; have hcz13_6 : w11.cell? ⟨gb126, 6, none⟩ = some (.int .u64 a0_6) := (blk_cell BK126.out 6).trans rfl; have hcz13_7 : w11.cell? ⟨gb126, 7, none⟩ = some (.int .u64 a0_7) := (blk_cell BK126.out 7).trans rfl; have hcz13_8 : w11.cell? ⟨gb126, 8, none⟩ = some (.int .u64 a0_8) := (blk_cell BK126.out 8).trans rfl; have hcz13_9 : w11.cell? ⟨gb126, 9, none⟩ = some (.slice A0_9 l0_9.length c0_9) := (blk_cell BK126.out 9).trans rfl; have hfz13_0 := blk_frozen BK126.out 0; have hfz13_1 := blk_frozen BK126.out 1; have hfz13_2 := blk_frozen BK126.out 2; have hfz13_3 := blk_frozen BK126.out 3; have hfz13_4 := blk_frozen BK126.out 4; have hfz13_5 := blk_frozen BK126.out 5; have hfz13_6 := blk_frozen BK126.out 6; have hfz13_7 := blk_frozen BK126.out 7; have hfz13_8 := blk_frozen BK126.out 8; have hfz13_9 := blk_frozen BK126.out 9))
          (try simp only [Act.put, List.setIfInBounds_toArray, List.set_cons_zero, List.set_cons_succ])
          go_cut [38] (fun v38 wc => ∃ (kq : Nat) (x38_8 : Bool), v38 = .bool x38_8 ∧ Aside0 (flocculusref21_CommandBytes.j1 kq y127 x38_8 a0_0 a0_1 a0_2 a0_3 a0_4 a0_5 a0_6 a0_7 a0_8 l0_9 = some r) ∧ Aside0 (kq ≤ kj1) ∧ Aside0 (Kd.R (Kd.int .u8) 5 wc w.heap.size (fun _ => True) v128 y127) ∧ Aside0 (wc.heap[gb126]? = some (.cells #[.int .i64 a0_0, .int .i64 a0_1, .int .i64 a0_2, .int .u64 a0_3, .int .u64 a0_4, .int .i64 a0_5, .int .u64 a0_6, .int .u64 a0_7, .int .u64 a0_8, (.slice A0_9 l0_9.length c0_9)] 29 (0, 0))) ∧ Aside0 (Below w.heap.size w wc))
          case first =>
            have H := HC9.out
            clear HC9
            by_cases c14 : a0_5 < 0
            · rw [if_pos c14] at H
              have c14b0 : decide (a0_5 < 0) = true := decide_eq_true c14
              clear c14
              (first | rw [c14b0] | (simp only [i64_w, i32_w]; rw [c14b0]) | skip)
              have H' := Aside0.mk H
              clear H
              have hcz15_0 : w11.cell? ⟨gb126, 0, none⟩ = some (.int .i64 a0_0) := (blk_cell BK126.out 0).trans rfl
              have hcz15_1 : w11.cell? ⟨gb126, 1, none⟩ = some (.int .i64 a0_1) := (blk_cell BK126.out 1).trans rfl
              have hcz15_2 : w11.cell? ⟨gb126, 2, none⟩ = some (.int .i64 a0_2) := (blk_cell BK126.out 2).trans rfl
              have hcz15_3 : w11.cell? ⟨gb126, 3, none⟩ = some (.int .u64 a0_3) := (blk_cell BK126.out 3).trans rfl
              have hcz15_4 : w11.cell? ⟨gb126, 4, none⟩ = some (.int .u64 a0_4) := (blk_cell BK126.out 4).trans rfl
              have hcz15_5 : w11.cell? ⟨gb126, 5, none⟩ = some (.int .i64 a0_5) := (blk_cell BK126.out 5).trans rfl
              have hcz15_6 : w11.cell? ⟨gb126, 6, none⟩ = some (.int .u64 a0_6) := (blk_cell BK126.out 6).trans rfl
              have hcz15_7 : w11.cell? ⟨gb126, 7, none⟩ = some (.int .u64 a0_7) := (blk_cell BK126.out 7).trans rfl
              have hcz15_8 : w11.cell? ⟨gb126, 8, none⟩ = some (.int .u64 a0_8) := (blk_cell BK126.out 8).trans rfl
              have hcz15_9 : w11.cell? ⟨gb126, 9, none⟩ = some (.slice A0_9 l0_9.length c0_9) := (blk_cell BK126.out 9).trans rfl
              have hfz15_0 := blk_frozen BK126.out 0
              have hfz15_1 := blk_frozen BK126.out 1
              have hfz15_2 := blk_frozen BK126.out 2
              have hfz15_3 := blk_frozen BK126.out 3
              have hfz15_4 := blk_frozen BK126.out 4
              have hfz15_5 := blk_frozen BK126.out 5
              have hfz15_6 := blk_frozen BK126.out 6
              have hfz15_7 := blk_frozen BK126.out 7
              have hfz15_8 := blk_frozen BK126.out 8
              have hfz15_9 := blk_frozen BK126.out 9
              go_wp2
              go_meet
              case rel => exact ⟨_, (true), (by first | rfl | (simp; done) | (simp [*]; done)), H', ⟨by have := HJ1.out; first | omega | exact Nat.le_refl _⟩, ⟨by (with_reducible repeat (first | apply Kd.R_alloc | apply Kd.R_drewN | apply Kd.R_drew)); exact HO129.out⟩, ⟨by (with_reducible repeat (first | refine blk_drewN ?_ _ | refine blk_drew ?_ | refine blk_alloc ?_ _)); exact BK126.out⟩, ⟨by repeat (first | (with_reducible first | exact HB.out | apply below_alloc | apply pw_below_drewN | apply below_drew1 | refine below_set ?_ GE126.out) | exact HB.out)⟩⟩
            · rw [if_neg c14] at H
              have c14b0 : decide (a0_5 < 0) = false := decide_eq_false c14
              clear c14
              (first | rw [c14b0] | (simp only [i64_w, i32_w]; rw [c14b0]) | skip)
              by_cases c16 : a0_5 > 255
              · rw [if_pos c16] at H
                have c16b0 : decide (255 < a0_5) = true := decide_eq_true c16
                clear c16
                have H' := Aside0.mk H
                clear H
                have hcz17_0 : w11.cell? ⟨gb126, 0, none⟩ = some (.int .i64 a0_0) := (blk_cell BK126.out 0).trans rfl
                have hcz17_1 : w11.cell? ⟨gb126, 1, none⟩ = some (.int .i64 a0_1) := (blk_cell BK126.out 1).trans rfl
                have hcz17_2 : w11.cell? ⟨gb126, 2, none⟩ = some (.int .i64 a0_2) := (blk_cell BK126.out 2).trans rfl
                have hcz17_3 : w11.cell? ⟨gb126, 3, none⟩ = some (.int .u64 a0_3) := (blk_cell BK126.out 3).trans rfl
                have hcz17_4 : w11.cell? ⟨gb126, 4, none⟩ = some (.int .u64 a0_4) := (blk_cell BK126.out 4).trans rfl
                have hcz17_5 : w11.cell? ⟨gb126, 5, none⟩ = some (.int .i64 a0_5) := (blk_cell BK126.out 5).trans rfl
                have hcz17_6 : w11.cell? ⟨gb126, 6, none⟩ = some (.int .u64 a0_6) := (blk_cell BK126.out 6).trans rfl
                have hcz17_7 : w11.cell? ⟨gb126, 7, none⟩ = some (.int .u64 a0_7) := (blk_cell BK126.out 7).trans rfl
                have hcz17_8 : w11.cell? ⟨gb126, 8, none⟩ = some (.int .u64 a0_8) := (blk_cell BK126.out 8).trans rfl
                have hcz17_9 : w11.cell? ⟨gb126, 9, none⟩ = some (.slice A0_9 l0_9.length c0_9) := (blk_cell BK126.out 9).trans rfl
                have hfz17_0 := blk_frozen BK126.out 0
                have hfz17_1 := blk_frozen BK126.out 1
                have hfz17_2 := blk_frozen BK126.out 2
                have hfz17_3 := blk_frozen BK126.out 3
                have hfz17_4 := blk_frozen BK126.out 4
                have hfz17_5 := blk_frozen BK126.out 5
                have hfz17_6 := blk_frozen BK126.out 6
                have hfz17_7 := blk_frozen BK126.out 7
                have hfz17_8 := blk_frozen BK126.out 8
                have hfz17_9 := blk_frozen BK126.out 9
                go_wp2
                go_meet
                case rel => exact ⟨_, (true), (by first | rfl | (simp; done) | (simp [*]; done)), H', ⟨by have := HJ1.out; first | omega | exact Nat.le_refl _⟩, ⟨by (with_reducible repeat (first | apply Kd.R_alloc | apply Kd.R_drewN | apply Kd.R_drew)); exact HO129.out⟩, ⟨by (with_reducible repeat (first | refine blk_drewN ?_ _ | refine blk_drew ?_ | refine blk_alloc ?_ _)); exact BK126.out⟩, ⟨by repeat (first | (with_reducible first | exact HB.out | apply below_alloc | apply pw_below_drewN | apply below_drew1 | refine below_set ?_ GE126.out) | exact HB.out)⟩⟩
              · rw [if_neg c16] at H
                have c16b0 : decide (255 < a0_5) = false := decide_eq_false c16
                clear c16
                replace H := Option.bind_eq_some_iff.mp H
                obtain ⟨t130, A180, H⟩ := H
                replace H : (flocculusref21_CommandBytes.j1 kj1 y127 (!t130) a0_0 a0_1 a0_2 a0_3 a0_4 a0_5 a0_6 a0_7 a0_8 l0_9) = some r := H
                have A18 := Aside0.mk A180
                clear A180
                have H' := Aside0.mk H
                clear H
                have hcz19_0 : w11.cell? ⟨gb126, 0, none⟩ = some (.int .i64 a0_0) := (blk_cell BK126.out 0).trans rfl
                have hcz19_1 : w11.cell? ⟨gb126, 1, none⟩ = some (.int .i64 a0_1) := (blk_cell BK126.out 1).trans rfl
                have hcz19_2 : w11.cell? ⟨gb126, 2, none⟩ = some (.int .i64 a0_2) := (blk_cell BK126.out 2).trans rfl
                have hcz19_3 : w11.cell? ⟨gb126, 3, none⟩ = some (.int .u64 a0_3) := (blk_cell BK126.out 3).trans rfl
                have hcz19_4 : w11.cell? ⟨gb126, 4, none⟩ = some (.int .u64 a0_4) := (blk_cell BK126.out 4).trans rfl
                have hcz19_5 : w11.cell? ⟨gb126, 5, none⟩ = some (.int .i64 a0_5) := (blk_cell BK126.out 5).trans rfl
                have hcz19_6 : w11.cell? ⟨gb126, 6, none⟩ = some (.int .u64 a0_6) := (blk_cell BK126.out 6).trans rfl
                have hcz19_7 : w11.cell? ⟨gb126, 7, none⟩ = some (.int .u64 a0_7) := (blk_cell BK126.out 7).trans rfl
                have hcz19_8 : w11.cell? ⟨gb126, 8, none⟩ = some (.int .u64 a0_8) := (blk_cell BK126.out 8).trans rfl
                have hcz19_9 : w11.cell? ⟨gb126, 9, none⟩ = some (.slice A0_9 l0_9.length c0_9) := (blk_cell BK126.out 9).trans rfl
                have hfz19_0 := blk_frozen BK126.out 0
                have hfz19_1 := blk_frozen BK126.out 1
                have hfz19_2 := blk_frozen BK126.out 2
                have hfz19_3 := blk_frozen BK126.out 3
                have hfz19_4 := blk_frozen BK126.out 4
                have hfz19_5 := blk_frozen BK126.out 5
                have hfz19_6 := blk_frozen BK126.out 6
                have hfz19_7 := blk_frozen BK126.out 7
                have hfz19_8 := blk_frozen BK126.out 8
                have hfz19_9 := blk_frozen BK126.out 9
                go_wp2_with (first | (go_at_call 23; (with_reducible refine (flocculusref21_fits.calls a0_1 t130 _ A18.out).mono ?_); rintro e w' ⟨rfl, ⟨nd, rfl⟩⟩))
                go_meet
                case rel => exact ⟨_, (!t130), (by first | rfl | (simp; done) | (simp [*]; done)), H', ⟨by have := HJ1.out; first | omega | exact Nat.le_refl _⟩, ⟨by (with_reducible repeat (first | apply Kd.R_alloc | apply Kd.R_drewN | apply Kd.R_drew)); exact HO129.out⟩, ⟨by (with_reducible repeat (first | refine blk_drewN ?_ _ | refine blk_drew ?_ | refine blk_alloc ?_ _)); exact BK126.out⟩, ⟨by repeat (first | (with_reducible first | exact HB.out | apply below_alloc | apply pw_below_drewN | apply below_drew1 | refine below_set ?_ GE126.out) | exact HB.out)⟩⟩
          case rest =>
            clear HC9
            try clear c1
            try clear p2
            try clear c4
            try clear c4b0
            try clear c7
            try clear c8
            try clear c8b0
            try clear c8b1
            try clear c10
            try clear c14
            try clear c14b0
            try clear c16
            try clear c16b0
            try clear hcz10_0
            try clear hcz10_1
            try clear hcz10_2
            try clear hcz10_3
            try clear hcz10_4
            try clear hcz10_5
            try clear hcz10_6
            try clear hcz10_7
            try clear hcz10_8
            try clear hcz10_9
            try clear hcz13_0
            try clear hcz13_1
            try clear hcz13_2
            try clear hcz13_3
            try clear hcz13_4
            try clear hcz13_5
            try clear hcz13_6
            try clear hcz13_7
            try clear hcz13_8
            try clear hcz13_9
            try clear hcz15_0
            try clear hcz15_1
            try clear hcz15_2
            try clear hcz15_3
            try clear hcz15_4
            try clear hcz15_5
            try clear hcz15_6
            try clear hcz15_7
            try clear hcz15_8
            try clear hcz15_9
            try clear hcz17_0
            try clear hcz17_1
            try clear hcz17_2
            try clear hcz17_3
            try clear hcz17_4
            try clear hcz17_5
            try clear hcz17_6
            try clear hcz17_7
            try clear hcz17_8
            try clear hcz17_9
            try clear hcz19_0
            try clear hcz19_1
            try clear hcz19_2
            try clear hcz19_3
            try clear hcz19_4
            try clear hcz19_5
            try clear hcz19_6
            try clear hcz19_7
            try clear hcz19_8
            try clear hcz19_9
            try clear hcz5_0
            try clear hcz5_1
            try clear hcz5_2
            try clear hcz5_3
            try clear hcz5_4
            try clear hcz5_5
            try clear hcz5_6
            try clear hcz5_7
            try clear hcz5_8
            try clear hcz5_9
            try clear hcz6_0
            try clear hcz6_1
            try clear hcz6_2
            try clear hcz6_3
            try clear hcz6_4
            try clear hcz6_5
            try clear hcz6_6
            try clear hcz6_7
            try clear hcz6_8
            try clear hcz6_9
            try clear hfz10_0
            try clear hfz10_1
            try clear hfz10_2
            try clear hfz10_3
            try clear hfz10_4
            try clear hfz10_5
            try clear hfz10_6
            try clear hfz10_7
            try clear hfz10_8
            try clear hfz10_9
            try clear hfz13_0
            try clear hfz13_1
            try clear hfz13_2
            try clear hfz13_3
            try clear hfz13_4
            try clear hfz13_5
            try clear hfz13_6
            try clear hfz13_7
            try clear hfz13_8
            try clear hfz13_9
            try clear hfz15_0
            try clear hfz15_1
            try clear hfz15_2
            try clear hfz15_3
            try clear hfz15_4
            try clear hfz15_5
            try clear hfz15_6
            try clear hfz15_7
            try clear hfz15_8
            try clear hfz15_9
            try clear hfz17_0
            try clear hfz17_1
            try clear hfz17_2
            try clear hfz17_3
            try clear hfz17_4
            try clear hfz17_5
            try clear hfz17_6
            try clear hfz17_7
            try clear hfz17_8
            try clear hfz17_9
            try clear hfz19_0
            try clear hfz19_1
            try clear hfz19_2
            try clear hfz19_3
            try clear hfz19_4
            try clear hfz19_5
            try clear hfz19_6
            try clear hfz19_7
            try clear hfz19_8
            try clear hfz19_9
            try clear hfz5_0
            try clear hfz5_1
            try clear hfz5_2
            try clear hfz5_3
            try clear hfz5_4
            try clear hfz5_5
            try clear hfz5_6
            try clear hfz5_7
            try clear hfz5_8
            try clear hfz5_9
            try clear hfz6_0
            try clear hfz6_1
            try clear hfz6_2
            try clear hfz6_3
            try clear hfz6_4
            try clear hfz6_5
            try clear hfz6_6
            try clear hfz6_7
            try clear hfz6_8
            try clear hfz6_9
            try clear p2
            obtain ⟨kq, x38_8, rfl, HA, HJ8, HO_3, BK126, HB⟩ := hcut
            cases kq with
            | zero => exact absurd HA.out (by simp [flocculusref21_CommandBytes.j1])
            | succ kj8 =>
              have H := HA.out
              clear HA
              simp only [flocculusref21_CommandBytes.j1] at H
              by_cases c20 : x38_8 = true
              · subst c20
                have H1 : (some ([] : List Int)) = some r := by rw [if_pos rfl] at H; exact H
                clear H
                have H := H1
                clear H1
                obtain rfl := Option.some.inj H
                go_wp2
                go_ret
                exact ⟨_, by first | rfl | (simp [errW_none, errW_some] <;> rfl) | (simp [*, errW_none, errW_some] <;> rfl), by first | exact Kd.R_nil _ _ _ _ _ | exact Kd.N_nil _ _ _ _ _ | exact Kd.V_nil _ _ _ _ _ | exact Kd.Q_nil _ _ _ _ _ | exact Kd.S_nil _ _ _ _ _, by repeat (first | (with_reducible first | exact HB.out | apply below_alloc | apply pw_below_drewN | apply below_drew1 | refine below_set ?_ GE126.out) | exact HB.out)⟩
              · replace c20 := Bool.eq_false_iff.mpr c20
                subst c20
                have H1 : ((flocculusref21_prefix.f kj8 y127 a0_3 a0_4 a0_5).bind fun t131 => ((flocculusref21_num.f kj8 t131 (IntKind.u64.wrap (a0_1)) 4).bind fun t134 => (some t134))) = some r := by rw [if_neg (show ¬ (false = true) by decide)] at H; exact H
                clear H
                have H := H1
                clear H1
                replace H := Option.bind_eq_some_iff.mp H
                obtain ⟨t131, A210, H⟩ := H
                replace H : ((flocculusref21_num.f kj8 t131 (IntKind.u64.wrap (a0_1)) 4).bind fun t134 => (some t134)) = some r := H
                have A21 := Aside0.mk A210
                clear A210
                replace H := Option.bind_eq_some_iff.mp H
                obtain ⟨t134, A220, H⟩ := H
                replace H : (some t134) = some r := H
                have A22 := Aside0.mk A220
                clear A220
                obtain rfl := Option.some.inj H
                try go_wp2
                have n0_ := Aside0.mk (Kd.R_drew HO_3.out)
                have n1_ := Aside0.mk (blk_drew BK126.out)
                have n2_ := Aside0.mk (below_drew1 HB.out)
                clear HO_3
                clear BK126
                clear HB
                have HO_3 := n0_
                have BK126 := n1_
                have HB := n2_
                clear n0_ n1_ n2_
                obtain ⟨Ao24, co24, eo24⟩ := Kd.R_slice HO_3.out
                (first | subst eo24 | (injection eo24 with f1_ f2_ f3_; have f4_ := f1_.symm; have f5_ := f3_.symm; clear f1_ f2_ f3_; subst f4_; subst f5_))
                refine start_ (n := 9) (S := fun w' => w'.cell? ⟨gb126, 0, none⟩ = some (.int .i64 a0_0) ∧ w'.cell? ⟨gb126, 1, none⟩ = some (.int .i64 a0_1) ∧ w'.cell? ⟨gb126, 2, none⟩ = some (.int .i64 a0_2) ∧ w'.cell? ⟨gb126, 3, none⟩ = some (.int .u64 a0_3) ∧ w'.cell? ⟨gb126, 4, none⟩ = some (.int .u64 a0_4) ∧ w'.cell? ⟨gb126, 5, none⟩ = some (.int .i64 a0_5) ∧ w'.cell? ⟨gb126, 6, none⟩ = some (.int .u64 a0_6) ∧ w'.cell? ⟨gb126, 7, none⟩ = some (.int .u64 a0_7) ∧ w'.cell? ⟨gb126, 8, none⟩ = some (.int .u64 a0_8) ∧ w'.cell? ⟨gb126, 9, none⟩ = some (.slice A0_9 l0_9.length c0_9)) (ds := []) #[false, false, false, false, false, false, false, false, false] (by kernel_rfl) rfl rfl ⟨(blk_cell BK126.out 0).trans rfl, (blk_cell BK126.out 1).trans rfl, (blk_cell BK126.out 2).trans rfl, (blk_cell BK126.out 3).trans rfl, (blk_cell BK126.out 4).trans rfl, (blk_cell BK126.out 5).trans rfl, (blk_cell BK126.out 6).trans rfl, (blk_cell BK126.out 7).trans rfl, (blk_cell BK126.out 8).trans rfl, (blk_cell BK126.out 9).trans rfl⟩ (fun hHeld => ?_); refine with_tabW flocculusref21_CommandBytes.tab8 flocculusref21_CommandBytes.bits8 (fun HT_ HW_ => ?_)
                generalize wc.drew = w23 at HO_3 BK126 HB hHeld ⊢
                refine pure_ (i := 0) (N := some 39) (v := ?_) (a' := ?_) #[true, false, false, false, false, false, false, false, false] rfl rfl (any_of HT_.out (by kernel_rfl)) (fun _ _ _ h => h) (Or.inl ⟨by rfl, ?_⟩) ?_ ?_
                rotate_left
                · intro w'
                  go_simp
                  with_reducible rfl
                rotate_left
                · simp only [Act.put, List.setIfInBounds_toArray, List.set_cons_zero, List.set_cons_succ, i64_w, i32_w]
                  rfl
                refine pure_ (i := 1) (N := some 40) (v := ?_) (a' := ?_) #[true, true, false, false, false, false, false, false, false] rfl rfl (any_of HT_.out (by kernel_rfl)) (fun _ _ _ h => h) (Or.inl ⟨by rfl, ?_⟩) ?_ ?_
                rotate_left
                · intro w'
                  go_simp
                  with_reducible rfl
                rotate_left
                · simp only [Act.put, List.setIfInBounds_toArray, List.set_cons_zero, List.set_cons_succ, i64_w, i32_w]
                  rfl
                refine pure_ (i := 4) (N := some 43) (v := ?_) (a' := ?_) #[true, true, false, false, true, false, false, false, false] rfl rfl (any_of HT_.out (by kernel_rfl)) (fun _ _ _ h => h) (Or.inl ⟨by rfl, ?_⟩) ?_ ?_
                rotate_left
                · intro w'
                  go_simp
                  with_reducible rfl
                rotate_left
                · simp only [Act.put, List.setIfInBounds_toArray, List.set_cons_zero, List.set_cons_succ, i64_w, i32_w]
                  rfl
                refine take_ (i := 2) (N := some 41) (v := ?_) (a' := ?_) #[true, true, true, false, true, false, false, false, false] rfl rfl (take_ofW HT_.out HW_.out (by kernel_rfl)) (fun _ _ _ h => h) (Or.inl ⟨by rfl, ?_⟩) hHeld ?_ ?_
                rotate_left
                · rintro w' ⟨s0, s1, s2, s3, s4, s5, s6, s7, s8, s9⟩
                  go_simp
                  with_reducible rfl
                rotate_left
                · simp only [Act.put, List.setIfInBounds_toArray, List.set_cons_zero, List.set_cons_succ, i64_w, i32_w]
                  rfl
                refine take_ (i := 5) (N := some 44) (v := ?_) (a' := ?_) #[true, true, true, false, true, true, false, false, false] rfl rfl (take_ofW HT_.out HW_.out (by kernel_rfl)) (fun _ _ _ h => h) (Or.inl ⟨by rfl, ?_⟩) hHeld ?_ ?_
                rotate_left
                · rintro w' ⟨s0, s1, s2, s3, s4, s5, s6, s7, s8, s9⟩
                  go_simp
                  with_reducible rfl
                rotate_left
                · simp only [Act.put, List.setIfInBounds_toArray, List.set_cons_zero, List.set_cons_succ, i64_w, i32_w]
                  rfl
                refine pure_ (i := 6) (N := some 45) (v := ?_) (a' := ?_) #[true, true, true, false, true, true, true, false, false] rfl rfl (any_of HT_.out (by kernel_rfl)) (fun _ _ _ h => h) (Or.inl ⟨by rfl, ?_⟩) ?_ ?_
                rotate_left
                · intro w'
                  go_simp
                  with_reducible rfl
                rotate_left
                · simp only [Act.put, List.setIfInBounds_toArray, List.set_cons_zero, List.set_cons_succ, i64_w, i32_w]
                  rfl
                refine one_ (i := 3) (N := some 42) #[true, true, true, true, true, true, true, false, false] rfl rfl (one_of HT_.out (by kernel_rfl)) (by decide) (fun K hK => ?_)
                refine goes_ Try.func25 (by kernel_rfl) rfl #[.slice Ao24 y127.length co24, .agg #[.int .u64 a0_3, .int .u64 a0_4, .int .i64 a0_5]] (by rfl) rfl rfl (by (try simp only [List.map_toArray, List.map_cons, List.map_nil]); first | done | rfl | (simp only [List.length_drop, List.length_take]; rfl)) ?_
                with_reducible refine (flocculusref21_prefix.calls kj8 (fun k_ => some k_ = (.slice Ao24 y127.length co24 : Value).ownBlock) (.slice Ao24 y127.length co24) y127 a0_3 a0_4 a0_5 t131 w _ ?side1 ?side2 A21.out).mono ?_
                (case side1 => repeat (first | (with_reducible first | exact HB.out | apply below_alloc | apply pw_below_drewN | apply below_drew1 | refine below_set ?_ GE126.out) | exact HB.out))
                (case side2 => exact Kd.R_tight rfl HO_3.out)
                rintro e w25 ⟨v132, rfl, ho0, hb, hkp⟩
                refine ⟨_, rfl, ?_⟩
                have n0_ := Aside0.mk (blk_kept (by (with_reducible repeat (first | refine blk_drewN ?_ _ | refine blk_drew ?_ | refine blk_alloc ?_ _)); exact BK126.out) hkp (fun hs_ => (fun e_ => (Kd.R_ne HO_3.out BK126.out (by decide)) e_) hs_))
                have n1_ := Aside0.mk (Kd.R_mono (ok' := fun k_ => True) ho0 (fun k_ hk_ => trivial))
                have n2_ := Aside0.mk (hb)
                clear BK126
                clear HB
                clear HO_3
                have BK126 := n0_
                have HO133 := n1_
                have HB := n2_
                clear n0_ n1_ n2_
                (try clear hb)
                (try clear hkp)
                (try clear ho0)
                obtain ⟨Ao26, co26, eo26⟩ := Kd.R_slice HO133.out
                (first | subst eo26 | (injection eo26 with f1_ f2_ f3_; have f4_ := f1_.symm; have f5_ := f3_.symm; clear f1_ f2_ f3_; subst f4_; subst f5_))
                refine hK.out _ _ ⟨(blk_cell BK126.out 0).trans rfl, (blk_cell BK126.out 1).trans rfl, (blk_cell BK126.out 2).trans rfl, (blk_cell BK126.out 3).trans rfl, (blk_cell BK126.out 4).trans rfl, (blk_cell BK126.out 5).trans rfl, (blk_cell BK126.out 6).trans rfl, (blk_cell BK126.out 7).trans rfl, (blk_cell BK126.out 8).trans rfl, (blk_cell BK126.out 9).trans rfl⟩ (fun hHeld => ?_)
                clear hK K
                refine norm_ (a' := ?_) ?_ ?_
                rotate_left
                · show Act.put _ (some 42) _ = _
                  simp only [Act.put, List.setIfInBounds_toArray, List.set_cons_zero, List.set_cons_succ, i64_w, i32_w]
                  rfl
                refine one_ (i := 7) (N := some 46) #[true, true, true, true, true, true, true, true, false] rfl rfl (one_of HT_.out (by kernel_rfl)) (by decide) (fun K hK => ?_)
                refine goes_ Try.func24 (by kernel_rfl) rfl #[.slice Ao26 t131.length co26, .int .u64 (IntKind.u64.wrap (a0_1)), .int .i64 4] (by rfl) rfl rfl (by (try simp only [List.map_toArray, List.map_cons, List.map_nil]); first | done | rfl | (simp only [List.length_drop, List.length_take]; rfl)) ?_
                with_reducible refine (flocculusref21_num.calls kj8 (fun k_ => some k_ = (.slice Ao26 t131.length co26 : Value).ownBlock) (.slice Ao26 t131.length co26) t131 (IntKind.u64.wrap (a0_1)) 4 t134 w _ ?side1 ?side2 A22.out).mono ?_
                (case side1 => repeat (first | (with_reducible first | exact HB.out | apply below_alloc | apply pw_below_drewN | apply below_drew1 | refine below_set ?_ GE126.out) | exact HB.out))
                (case side2 => exact Kd.R_tight rfl HO133.out)
                rintro e w27 ⟨v135, rfl, ho0, hb, hkp⟩
                refine ⟨_, rfl, ?_⟩
                have n0_ := Aside0.mk (blk_kept (by (with_reducible repeat (first | refine blk_drewN ?_ _ | refine blk_drew ?_ | refine blk_alloc ?_ _)); exact BK126.out) hkp (fun hs_ => (fun e_ => (Kd.R_ne HO133.out BK126.out (by decide)) e_) hs_))
                have n1_ := Aside0.mk (Kd.R_mono (ok' := fun k_ => True) ho0 (fun k_ hk_ => trivial))
                have n2_ := Aside0.mk (hb)
                clear BK126
                clear HB
                clear HO133
                have BK126 := n0_
                have HO136 := n1_
                have HB := n2_
                clear n0_ n1_ n2_
                (try clear hb)
                (try clear hkp)
                (try clear ho0)
                refine hK.out _ _ ⟨(blk_cell BK126.out 0).trans rfl, (blk_cell BK126.out 1).trans rfl, (blk_cell BK126.out 2).trans rfl, (blk_cell BK126.out 3).trans rfl, (blk_cell BK126.out 4).trans rfl, (blk_cell BK126.out 5).trans rfl, (blk_cell BK126.out 6).trans rfl, (blk_cell BK126.out 7).trans rfl, (blk_cell BK126.out 8).trans rfl, (blk_cell BK126.out 9).trans rfl⟩ (fun hHeld => ?_)
                clear hK K
                refine norm_ (a' := ?_) ?_ ?_
                rotate_left
                · show Act.put _ (some 46) _ = _
                  simp only [Act.put, List.setIfInBounds_toArray, List.set_cons_zero, List.set_cons_succ, i64_w, i32_w]
                  rfl
                refine pure_ (i := 8) (N := some 2) (v := ?_) (a' := ?_) #[true, true, true, true, true, true, true, true, true] rfl rfl (any_of HT_.out (by kernel_rfl)) (fun _ _ _ h => h) (Or.inl ⟨by rfl, ?_⟩) ?_ ?_
                rotate_left
                · intro w'
                  go_simp
                  with_reducible rfl
                rotate_left
                · simp only [Act.put, List.setIfInBounds_toArray, List.set_cons_zero, List.set_cons_succ, i64_w, i32_w]
                  rfl
                refine done_ (done_of HT_.out (by kernel_rfl)) ?_
                try go_wp2
                go_ret
                exact ⟨_, by first | rfl | (simp [errW_none, errW_some] <;> rfl) | (simp [*, errW_none, errW_some] <;> rfl), by (with_reducible repeat (first | apply Kd.R_alloc | apply Kd.R_drewN | apply Kd.R_drew)); exact HO136.out, by repeat (first | (with_reducible first | exact HB.out | apply below_alloc | apply pw_below_drewN | apply below_drew1 | refine below_set ?_ GE126.out) | exact HB.out)⟩
        · rw [if_neg c8] at H
          have c8b0 : (a0_0 == 1) = false := beq_eq_false_iff_ne.mpr c8
          have c8b1 : (a0_0 != 1) = true := bne_iff_ne.mpr c8
          by_cases c28 : a0_0 = 2
          · rw [if_pos c28] at H
            have c28b0 : (a0_0 == 2) = true := beq_iff_eq.mpr c28
            have c28b1 : (a0_0 != 2) = false := bne_eq_false_iff_eq.mpr c28
            clear c28
            by_cases c29 : a0_5 < 0
            · rw [if_pos c29] at H
              have c29b0 : decide (a0_5 < 0) = true := decide_eq_true c29
              clear c29
              obtain rfl := Option.some.inj H
              have hcz30_0 : wc.cell? ⟨gb126, 0, none⟩ = some (.int .i64 a0_0) := (blk_cell BK126.out 0).trans rfl
              have hcz30_1 : wc.cell? ⟨gb126, 1, none⟩ = some (.int .i64 a0_1) := (blk_cell BK126.out 1).trans rfl
              have hcz30_2 : wc.cell? ⟨gb126, 2, none⟩ = some (.int .i64 a0_2) := (blk_cell BK126.out 2).trans rfl
              have hcz30_3 : wc.cell? ⟨gb126, 3, none⟩ = some (.int .u64 a0_3) := (blk_cell BK126.out 3).trans rfl
              have hcz30_4 : wc.cell? ⟨gb126, 4, none⟩ = some (.int .u64 a0_4) := (blk_cell BK126.out 4).trans rfl
              have hcz30_5 : wc.cell? ⟨gb126, 5, none⟩ = some (.int .i64 a0_5) := (blk_cell BK126.out 5).trans rfl
              have hcz30_6 : wc.cell? ⟨gb126, 6, none⟩ = some (.int .u64 a0_6) := (blk_cell BK126.out 6).trans rfl
              have hcz30_7 : wc.cell? ⟨gb126, 7, none⟩ = some (.int .u64 a0_7) := (blk_cell BK126.out 7).trans rfl
              have hcz30_8 : wc.cell? ⟨gb126, 8, none⟩ = some (.int .u64 a0_8) := (blk_cell BK126.out 8).trans rfl
              have hcz30_9 : wc.cell? ⟨gb126, 9, none⟩ = some (.slice A0_9 l0_9.length c0_9) := (blk_cell BK126.out 9).trans rfl
              have hfz30_0 := blk_frozen BK126.out 0
              have hfz30_1 := blk_frozen BK126.out 1
              have hfz30_2 := blk_frozen BK126.out 2
              have hfz30_3 := blk_frozen BK126.out 3
              have hfz30_4 := blk_frozen BK126.out 4
              have hfz30_5 := blk_frozen BK126.out 5
              have hfz30_6 := blk_frozen BK126.out 6
              have hfz30_7 := blk_frozen BK126.out 7
              have hfz30_8 := blk_frozen BK126.out 8
              have hfz30_9 := blk_frozen BK126.out 9
              go_wp2_with (first | ((with_reducible refine gate_dst (N := 18) rfl ?_); refine Kd.R_lit (Kd.int .u8) _ 5 ?hg (N := 18) ?hd (xs := ([(a0_0) % 256] : List Int)) (inner := [.int .u8 ((a0_0) % 256)]) (ok := fun _ => True) (okp := fun _ => True) ?hr ?hp (fun _ hk => hk) trivial (Below.refl _ _) (Nat.le_refl _) (by simp) ?_; (case hd => rfl); (case hg => rfl); (case hr => first | (go_simp; done) | (go_simp; rfl)); (case hp => exact (Reps.one (show Kd.M (Kd.int .u8) _ _ _ ((a0_0) % 256) [.int .u8 ((a0_0) % 256)] from rfl) (Reps.none _ _))); intro v128 w31 ho32 hb hg_ hnew_; clear hg_ hnew_; (first | rw [← Ny127.out] at ho32 | (simp only [Int.reduceToNat] at ho32; rw [← Ny127.out] at ho32)); have n0_ := Aside0.mk (Kd.R_lower ho32 (below_size (by repeat (first | (with_reducible first | exact HB.out | apply below_alloc | apply pw_below_drewN | apply below_drew1 | refine below_set ?_ GE126.out) | exact HB.out)))); have n1_ := Aside0.mk (blk_below (g := gb126) (o := .cells #[.int .i64 a0_0, .int .i64 a0_1, .int .i64 a0_2, .int .u64 a0_3, .int .u64 a0_4, .int .i64 a0_5, .int .u64 a0_6, .int .u64 a0_7, .int .u64 a0_8, .slice A0_9 l0_9.length c0_9] 29 (0, 0)) (by (with_reducible repeat (first | refine blk_drewN ?_ _ | refine blk_drew ?_ | refine blk_alloc ?_ _)); exact BK126.out) hb); have n2_ := Aside0.mk (below_step (by repeat (first | (with_reducible first | exact HB.out | apply below_alloc | apply pw_below_drewN | apply below_drew1 | refine below_set ?_ GE126.out) | exact HB.out)) hb); clear BK126; clear HB; have HO129 := n0_; have BK126 := n1_; have HB := n2_; clear n0_ n1_ n2_; clear hb ho32; have hcz33_0 : w31.cell? ⟨gb126, 0, none⟩ = some (.int .i64 a0_0) := (blk_cell BK126.out 0).trans rfl; have hcz33_1 : w31.cell? ⟨gb126, 1, none⟩ = some (.int .i64 a0_1) := (blk_cell BK126.out 1).trans rfl; have hcz33_2 : w31.cell? ⟨gb126, 2, none⟩ = some (.int .i64 a0_2) := (blk_cell BK126.out 2).trans rfl; have hcz33_3 : w31.cell? ⟨gb126, 3, none⟩ = some (.int .u64 a0_3) := (blk_cell BK126.out 3).trans rfl; have hcz33_4 : w31.cell? ⟨gb126, 4, none⟩ = some (.int .u64 a0_4) := (blk_cell BK126.out 4).trans rfl; have hcz33_5 : w31.cell? ⟨gb126, 5, none⟩ = some (.int .i64 a0_5) := (blk_cell BK126.out 5).trans rfl; have hcz33_6 : w31.cell? ⟨gb126, 6, none⟩ = some (.int .u64 a0_6) := (blk_cell BK126.out 6).trans rfl; have hcz33_7 : w31.cell? ⟨gb126, 7, none⟩ = some (.int .u64 a0_7) := (blk_cell BK126.out 7).trans rfl; have hcz33_8 : w31.cell? ⟨gb126, 8, none⟩ = some (.int .u64 a0_8) := (blk_cell BK126.out 8).trans rfl; have hcz33_9 : w31.cell? ⟨gb126, 9, none⟩ = some (.slice A0_9 l0_9.length c0_9) := (blk_cell BK126.out 9).trans rfl; have hfz33_0 := blk_frozen BK126.out 0; have hfz33_1 := blk_frozen BK126.out 1; have hfz33_2 := blk_frozen BK126.out 2; have hfz33_3 := blk_frozen BK126.out 3; have hfz33_4 := blk_frozen BK126.out 4; have hfz33_5 := blk_frozen BK126.out 5; have hfz33_6 := blk_frozen BK126.out 6; have hfz33_7 := blk_frozen BK126.out 7; have hfz33_8 := blk_frozen BK126.out 8; have hfz33_9 := blk_frozen BK126.out 9))
              go_ret
              exact ⟨_, by first | rfl | (simp [errW_none, errW_some] <;> rfl) | (simp [*, errW_none, errW_some] <;> rfl), by first | exact Kd.R_nil _ _ _ _ _ | exact Kd.N_nil _ _ _ _ _ | exact Kd.V_nil _ _ _ _ _ | exact Kd.Q_nil _ _ _ _ _ | exact Kd.S_nil _ _ _ _ _, by repeat (first | (with_reducible first | exact HB.out | apply below_alloc | apply pw_below_drewN | apply below_drew1 | refine below_set ?_ GE126.out) | exact HB.out)⟩
            · rw [if_neg c29] at H
              have c29b0 : decide (a0_5 < 0) = false := decide_eq_false c29
              clear c29
              by_cases c34 : a0_5 > 255
              · rw [if_pos c34] at H
                have c34b0 : decide (255 < a0_5) = true := decide_eq_true c34
                clear c34
                obtain rfl := Option.some.inj H
                have hcz35_0 : wc.cell? ⟨gb126, 0, none⟩ = some (.int .i64 a0_0) := (blk_cell BK126.out 0).trans rfl
                have hcz35_1 : wc.cell? ⟨gb126, 1, none⟩ = some (.int .i64 a0_1) := (blk_cell BK126.out 1).trans rfl
                have hcz35_2 : wc.cell? ⟨gb126, 2, none⟩ = some (.int .i64 a0_2) := (blk_cell BK126.out 2).trans rfl
                have hcz35_3 : wc.cell? ⟨gb126, 3, none⟩ = some (.int .u64 a0_3) := (blk_cell BK126.out 3).trans rfl
                have hcz35_4 : wc.cell? ⟨gb126, 4, none⟩ = some (.int .u64 a0_4) := (blk_cell BK126.out 4).trans rfl
                have hcz35_5 : wc.cell? ⟨gb126, 5, none⟩ = some (.int .i64 a0_5) := (blk_cell BK126.out 5).trans rfl
                have hcz35_6 : wc.cell? ⟨gb126, 6, none⟩ = some (.int .u64 a0_6) := (blk_cell BK126.out 6).trans rfl
                have hcz35_7 : wc.cell? ⟨gb126, 7, none⟩ = some (.int .u64 a0_7) := (blk_cell BK126.out 7).trans rfl
                have hcz35_8 : wc.cell? ⟨gb126, 8, none⟩ = some (.int .u64 a0_8) := (blk_cell BK126.out 8).trans rfl
                have hcz35_9 : wc.cell? ⟨gb126, 9, none⟩ = some (.slice A0_9 l0_9.length c0_9) := (blk_cell BK126.out 9).trans rfl
                have hfz35_0 := blk_frozen BK126.out 0
                have hfz35_1 := blk_frozen BK126.out 1
                have hfz35_2 := blk_frozen BK126.out 2
                have hfz35_3 := blk_frozen BK126.out 3
                have hfz35_4 := blk_frozen BK126.out 4
                have hfz35_5 := blk_frozen BK126.out 5
                have hfz35_6 := blk_frozen BK126.out 6
                have hfz35_7 := blk_frozen BK126.out 7
                have hfz35_8 := blk_frozen BK126.out 8
                have hfz35_9 := blk_frozen BK126.out 9
                go_wp2_with (first | ((with_reducible refine gate_dst (N := 18) rfl ?_); refine Kd.R_lit (Kd.int .u8) _ 5 ?hg (N := 18) ?hd (xs := ([(a0_0) % 256] : List Int)) (inner := [.int .u8 ((a0_0) % 256)]) (ok := fun _ => True) (okp := fun _ => True) ?hr ?hp (fun _ hk => hk) trivial (Below.refl _ _) (Nat.le_refl _) (by simp) ?_; (case hd => rfl); (case hg => rfl); (case hr => first | (go_simp; done) | (go_simp; rfl)); (case hp => exact (Reps.one (show Kd.M (Kd.int .u8) _ _ _ ((a0_0) % 256) [.int .u8 ((a0_0) % 256)] from rfl) (Reps.none _ _))); intro v128 w36 ho37 hb hg_ hnew_; clear hg_ hnew_; (first | rw [← Ny127.out] at ho37 | (simp only [Int.reduceToNat] at ho37; rw [← Ny127.out] at ho37)); have n0_ := Aside0.mk (Kd.R_lower ho37 (below_size (by repeat (first | (with_reducible first | exact HB.out | apply below_alloc | apply pw_below_drewN | apply below_drew1 | refine below_set ?_ GE126.out) | exact HB.out)))); have n1_ := Aside0.mk (blk_below (g := gb126) (o := .cells #[.int .i64 a0_0, .int .i64 a0_1, .int .i64 a0_2, .int .u64 a0_3, .int .u64 a0_4, .int .i64 a0_5, .int .u64 a0_6, .int .u64 a0_7, .int .u64 a0_8, .slice A0_9 l0_9.length c0_9] 29 (0, 0)) (by (with_reducible repeat (first | refine blk_drewN ?_ _ | refine blk_drew ?_ | refine blk_alloc ?_ _)); exact BK126.out) hb); have n2_ := Aside0.mk (below_step (by repeat (first | (with_reducible first | exact HB.out | apply below_alloc | apply pw_below_drewN | apply below_drew1 | refine below_set ?_ GE126.out) | exact HB.out)) hb); clear BK126; clear HB; have HO129 := n0_; have BK126 := n1_; have HB := n2_; clear n0_ n1_ n2_; clear hb ho37; have hcz38_0 : w36.cell? ⟨gb126, 0, none⟩ = some (.int .i64 a0_0) := (blk_cell BK126.out 0).trans rfl; have hcz38_1 : w36.cell? ⟨gb126, 1, none⟩ = some (.int .i64 a0_1) := (blk_cell BK126.out 1).trans rfl; have hcz38_2 : w36.cell? ⟨gb126, 2, none⟩ = some (.int .i64 a0_2) := (blk_cell BK126.out 2).trans rfl; have hcz38_3 : w36.cell? ⟨gb126, 3, none⟩ = some (.int .u64 a0_3) := (blk_cell BK126.out 3).trans rfl; have hcz38_4 : w36.cell? ⟨gb126, 4, none⟩ = some (.int .u64 a0_4) := (blk_cell BK126.out 4).trans rfl; have hcz38_5 : w36.cell? ⟨gb126, 5, none⟩ = some (.int .i64 a0_5) := (blk_cell BK126.out 5).trans rfl; have hcz38_6 : w36.cell? ⟨gb126, 6, none⟩ = some (.int .u64 a0_6) := (blk_cell BK126.out 6).trans rfl; have hcz38_7 : w36.cell? ⟨gb126, 7, none⟩ = some (.int .u64 a0_7) := (blk_cell BK126.out 7).trans rfl; have hcz38_8 : w36.cell? ⟨gb126, 8, none⟩ = some (.int .u64 a0_8) := (blk_cell BK126.out 8).trans rfl; have hcz38_9 : w36.cell? ⟨gb126, 9, none⟩ = some (.slice A0_9 l0_9.length c0_9) := (blk_cell BK126.out 9).trans rfl; have hfz38_0 := blk_frozen BK126.out 0; have hfz38_1 := blk_frozen BK126.out 1; have hfz38_2 := blk_frozen BK126.out 2; have hfz38_3 := blk_frozen BK126.out 3; have hfz38_4 := blk_frozen BK126.out 4; have hfz38_5 := blk_frozen BK126.out 5; have hfz38_6 := blk_frozen BK126.out 6; have hfz38_7 := blk_frozen BK126.out 7; have hfz38_8 := blk_frozen BK126.out 8; have hfz38_9 := blk_frozen BK126.out 9))
                go_ret
                exact ⟨_, by first | rfl | (simp [errW_none, errW_some] <;> rfl) | (simp [*, errW_none, errW_some] <;> rfl), by first | exact Kd.R_nil _ _ _ _ _ | exact Kd.N_nil _ _ _ _ _ | exact Kd.V_nil _ _ _ _ _ | exact Kd.Q_nil _ _ _ _ _ | exact Kd.S_nil _ _ _ _ _, by repeat (first | (with_reducible first | exact HB.out | apply below_alloc | apply pw_below_drewN | apply below_drew1 | refine below_set ?_ GE126.out) | exact HB.out)⟩
              · rw [if_neg c34] at H
                have c34b0 : decide (255 < a0_5) = false := decide_eq_false c34
                clear c34
                replace H := Option.bind_eq_some_iff.mp H
                obtain ⟨t137, A390, H⟩ := H
                replace H : (some t137) = some r := H
                have A39 := Aside0.mk A390
                clear A390
                obtain rfl := Option.some.inj H
                have hcz40_0 : wc.cell? ⟨gb126, 0, none⟩ = some (.int .i64 a0_0) := (blk_cell BK126.out 0).trans rfl
                have hcz40_1 : wc.cell? ⟨gb126, 1, none⟩ = some (.int .i64 a0_1) := (blk_cell BK126.out 1).trans rfl
                have hcz40_2 : wc.cell? ⟨gb126, 2, none⟩ = some (.int .i64 a0_2) := (blk_cell BK126.out 2).trans rfl
                have hcz40_3 : wc.cell? ⟨gb126, 3, none⟩ = some (.int .u64 a0_3) := (blk_cell BK126.out 3).trans rfl
                have hcz40_4 : wc.cell? ⟨gb126, 4, none⟩ = some (.int .u64 a0_4) := (blk_cell BK126.out 4).trans rfl
                have hcz40_5 : wc.cell? ⟨gb126, 5, none⟩ = some (.int .i64 a0_5) := (blk_cell BK126.out 5).trans rfl
                have hcz40_6 : wc.cell? ⟨gb126, 6, none⟩ = some (.int .u64 a0_6) := (blk_cell BK126.out 6).trans rfl
                have hcz40_7 : wc.cell? ⟨gb126, 7, none⟩ = some (.int .u64 a0_7) := (blk_cell BK126.out 7).trans rfl
                have hcz40_8 : wc.cell? ⟨gb126, 8, none⟩ = some (.int .u64 a0_8) := (blk_cell BK126.out 8).trans rfl
                have hcz40_9 : wc.cell? ⟨gb126, 9, none⟩ = some (.slice A0_9 l0_9.length c0_9) := (blk_cell BK126.out 9).trans rfl
                have hfz40_0 := blk_frozen BK126.out 0
                have hfz40_1 := blk_frozen BK126.out 1
                have hfz40_2 := blk_frozen BK126.out 2
                have hfz40_3 := blk_frozen BK126.out 3
                have hfz40_4 := blk_frozen BK126.out 4
                have hfz40_5 := blk_frozen BK126.out 5
                have hfz40_6 := blk_frozen BK126.out 6
                have hfz40_7 := blk_frozen BK126.out 7
                have hfz40_8 := blk_frozen BK126.out 8
                have hfz40_9 := blk_frozen BK126.out 9
                go_wp2_with (first | ((with_reducible refine gate_dst (N := 18) rfl ?_); refine Kd.R_lit (Kd.int .u8) _ 5 ?hg (N := 18) ?hd (xs := ([(a0_0) % 256] : List Int)) (inner := [.int .u8 ((a0_0) % 256)]) (ok := fun _ => True) (okp := fun _ => True) ?hr ?hp (fun _ hk => hk) trivial (Below.refl _ _) (Nat.le_refl _) (by simp) ?_; (case hd => rfl); (case hg => rfl); (case hr => first | (go_simp; done) | (go_simp; rfl)); (case hp => exact (Reps.one (show Kd.M (Kd.int .u8) _ _ _ ((a0_0) % 256) [.int .u8 ((a0_0) % 256)] from rfl) (Reps.none _ _))); intro v128 w41 ho42 hb hg_ hnew_; clear hg_ hnew_; (first | rw [← Ny127.out] at ho42 | (simp only [Int.reduceToNat] at ho42; rw [← Ny127.out] at ho42)); have n0_ := Aside0.mk (Kd.R_lower ho42 (below_size (by repeat (first | (with_reducible first | exact HB.out | apply below_alloc | apply pw_below_drewN | apply below_drew1 | refine below_set ?_ GE126.out) | exact HB.out)))); have n1_ := Aside0.mk (blk_below (g := gb126) (o := .cells #[.int .i64 a0_0, .int .i64 a0_1, .int .i64 a0_2, .int .u64 a0_3, .int .u64 a0_4, .int .i64 a0_5, .int .u64 a0_6, .int .u64 a0_7, .int .u64 a0_8, .slice A0_9 l0_9.length c0_9] 29 (0, 0)) (by (with_reducible repeat (first | refine blk_drewN ?_ _ | refine blk_drew ?_ | refine blk_alloc ?_ _)); exact BK126.out) hb); have n2_ := Aside0.mk (below_step (by repeat (first | (with_reducible first | exact HB.out | apply below_alloc | apply pw_below_drewN | apply below_drew1 | refine below_set ?_ GE126.out) | exact HB.out)) hb); clear BK126; clear HB; have HO129 := n0_; have BK126 := n1_; have HB := n2_; clear n0_ n1_ n2_; clear hb ho42; have hcz43_0 : w41.cell? ⟨gb126, 0, none⟩ = some (.int .i64 a0_0) := (blk_cell BK126.out 0).trans rfl; have hcz43_1 : w41.cell? ⟨gb126, 1, none⟩ = some (.int .i64 a0_1) := (blk_cell BK126.out 1).trans rfl; have hcz43_2 : w41.cell? ⟨gb126, 2, none⟩ = some (.int .i64 a0_2) := (blk_cell BK126.out 2).trans rfl; have hcz43_3 : w41.cell? ⟨gb126, 3, none⟩ = some (.int .u64 a0_3) := (blk_cell BK126.out 3).trans rfl; have hcz43_4 : w41.cell? ⟨gb126, 4, none⟩ = some (.int .u64 a0_4) := (blk_cell BK126.out 4).trans rfl; have hcz43_5 : w41.cell? ⟨gb126, 5, none⟩ = some (.int .i64 a0_5) := (blk_cell BK126.out 5).trans rfl; have hcz43_6 : w41.cell? ⟨gb126, 6, none⟩ = some (.int .u64 a0_6) := (blk_cell BK126.out 6).trans rfl; have hcz43_7 : w41.cell? ⟨gb126, 7, none⟩ = some (.int .u64 a0_7) := (blk_cell BK126.out 7).trans rfl; have hcz43_8 : w41.cell? ⟨gb126, 8, none⟩ = some (.int .u64 a0_8) := (blk_cell BK126.out 8).trans rfl; have hcz43_9 : w41.cell? ⟨gb126, 9, none⟩ = some (.slice A0_9 l0_9.length c0_9) := (blk_cell BK126.out 9).trans rfl; have hfz43_0 := blk_frozen BK126.out 0; have hfz43_1 := blk_frozen BK126.out 1; have hfz43_2 := blk_frozen BK126.out 2; have hfz43_3 := blk_frozen BK126.out 3; have hfz43_4 := blk_frozen BK126.out 4; have hfz43_5 := blk_frozen BK126.out 5; have hfz43_6 := blk_frozen BK126.out 6; have hfz43_7 := blk_frozen BK126.out 7; have hfz43_8 := blk_frozen BK126.out 8; have hfz43_9 := blk_frozen BK126.out 9; obtain ⟨Ao44, co44, eo44⟩ := Kd.R_slice HO129.out; subst eo44) | ((with_reducible refine gate_callee (f := 25) rfl ?_); refine goesL_ (some 62) rfl rfl Try.func25 (by kernel_rfl) rfl #[.slice Ao44 y127.length co44, .agg #[.int .u64 a0_3, .int .u64 a0_4, .int .i64 a0_5]] rfl (by (try simp only [List.map_toArray, List.map_cons, List.map_nil]); first | done | rfl | (simp only [List.length_drop, List.length_take]; rfl)) ?_; (with_reducible refine (flocculusref21_prefix.calls kj1 (fun k_ => some k_ = (.slice Ao44 y127.length co44 : Value).ownBlock) (.slice Ao44 y127.length co44) y127 a0_3 a0_4 a0_5 t137 w _ ?side1 ?side2 A39.out).mono ?_); (case side1 => repeat (first | (with_reducible first | exact HB.out | apply below_alloc | apply pw_below_drewN | apply below_drew1 | refine below_set ?_ GE126.out) | exact HB.out)); (case side2 => exact Kd.R_tight rfl HO129.out); rintro e w45 ⟨v138, rfl, ho0, hb, hkp⟩; refine ⟨_, rfl, ?_⟩; have n0_ := Aside0.mk (blk_kept (by (with_reducible repeat (first | refine blk_drewN ?_ _ | refine blk_drew ?_ | refine blk_alloc ?_ _)); exact BK126.out) hkp (fun hs_ => (fun e_ => (Kd.R_ne HO129.out BK126.out (by decide)) e_) hs_)); have n1_ := Aside0.mk (Kd.R_mono (ok' := fun k_ => True) ho0 (fun k_ hk_ => trivial)); have n2_ := Aside0.mk (hb); clear BK126; clear HB; clear HO129; have BK126 := n0_; have HO139 := n1_; have HB := n2_; clear n0_ n1_ n2_; (try clear hb); (try clear hkp); (try clear ho0)))
                go_ret
                exact ⟨_, by first | rfl | (simp [errW_none, errW_some] <;> rfl) | (simp [*, errW_none, errW_some] <;> rfl), by (with_reducible repeat (first | apply Kd.R_alloc | apply Kd.R_drewN | apply Kd.R_drew)); exact HO139.out, by repeat (first | (with_reducible first | exact HB.out | apply below_alloc | apply pw_below_drewN | apply below_drew1 | refine below_set ?_ GE126.out) | exact HB.out)⟩
          · rw [if_neg c28] at H
            have c28b0 : (a0_0 == 2) = false := beq_eq_false_iff_ne.mpr c28
            have c28b1 : (a0_0 != 2) = true := bne_iff_ne.mpr c28
            by_cases c46 : a0_0 = 3
            · rw [if_pos c46] at H
              have c46b0 : (a0_0 == 3) = true := beq_iff_eq.mpr c46
              have c46b1 : (a0_0 != 3) = false := bne_eq_false_iff_eq.mpr c46
              clear c46
              replace H := Option.bind_eq_some_iff.mp H
              obtain ⟨t140, A470, H⟩ := H
              replace H : ((flocculusref21_num.f kj1 t140 a0_7 8).bind fun t143 => (some t143)) = some r := H
              have A47 := Aside0.mk A470
              clear A470
              replace H := Option.bind_eq_some_iff.mp H
              obtain ⟨t143, A480, H⟩ := H
              replace H : (some t143) = some r := H
              have A48 := Aside0.mk A480
              clear A480
              obtain rfl := Option.some.inj H
              have hcz49_0 : wc.cell? ⟨gb126, 0, none⟩ = some (.int .i64 a0_0) := (blk_cell BK126.out 0).trans rfl
              have hcz49_1 : wc.cell? ⟨gb126, 1, none⟩ = some (.int .i64 a0_1) := (blk_cell BK126.out 1).trans rfl
              have hcz49_2 : wc.cell? ⟨gb126, 2, none⟩ = some (.int .i64 a0_2) := (blk_cell BK126.out 2).trans rfl
              have hcz49_3 : wc.cell? ⟨gb126, 3, none⟩ = some (.int .u64 a0_3) := (blk_cell BK126.out 3).trans rfl
              have hcz49_4 : wc.cell? ⟨gb126, 4, none⟩ = some (.int .u64 a0_4) := (blk_cell BK126.out 4).trans rfl
              have hcz49_5 : wc.cell? ⟨gb126, 5, none⟩ = some (.int .i64 a0_5) := (blk_cell BK126.out 5).trans rfl
              have hcz49_6 : wc.cell? ⟨gb126, 6, none⟩ = some (.int .u64 a0_6) := (blk_cell BK126.out 6).trans rfl
              have hcz49_7 : wc.cell? ⟨gb126, 7, none⟩ = some (.int .u64 a0_7) := (blk_cell BK126.out 7).trans rfl
              have hcz49_8 : wc.cell? ⟨gb126, 8, none⟩ = some (.int .u64 a0_8) := (blk_cell BK126.out 8).trans rfl
              have hcz49_9 : wc.cell? ⟨gb126, 9, none⟩ = some (.slice A0_9 l0_9.length c0_9) := (blk_cell BK126.out 9).trans rfl
              have hfz49_0 := blk_frozen BK126.out 0
              have hfz49_1 := blk_frozen BK126.out 1
              have hfz49_2 := blk_frozen BK126.out 2
              have hfz49_3 := blk_frozen BK126.out 3
              have hfz49_4 := blk_frozen BK126.out 4
              have hfz49_5 := blk_frozen BK126.out 5
              have hfz49_6 := blk_frozen BK126.out 6
              have hfz49_7 := blk_frozen BK126.out 7
              have hfz49_8 := blk_frozen BK126.out 8
              have hfz49_9 := blk_frozen BK126.out 9
              try go_wp2_with (first | ((with_reducible refine gate_dst (N := 18) rfl ?_); refine Kd.R_lit (Kd.int .u8) _ 5 ?hg (N := 18) ?hd (xs := ([(a0_0) % 256] : List Int)) (inner := [.int .u8 ((a0_0) % 256)]) (ok := fun _ => True) (okp := fun _ => True) ?hr ?hp (fun _ hk => hk) trivial (Below.refl _ _) (Nat.le_refl _) (by simp) ?_; (case hd => rfl); (case hg => rfl); (case hr => first | (go_simp; done) | (go_simp; rfl)); (case hp => exact (Reps.one (show Kd.M (Kd.int .u8) _ _ _ ((a0_0) % 256) [.int .u8 ((a0_0) % 256)] from rfl) (Reps.none _ _))); intro v128 w50 ho51 hb hg_ hnew_; clear hg_ hnew_; (first | rw [← Ny127.out] at ho51 | (simp only [Int.reduceToNat] at ho51; rw [← Ny127.out] at ho51)); have n0_ := Aside0.mk (Kd.R_lower ho51 (below_size (by repeat (first | (with_reducible first | exact HB.out | apply below_alloc | apply pw_below_drewN | apply below_drew1 | refine below_set ?_ GE126.out) | exact HB.out)))); have n1_ := Aside0.mk (blk_below (g := gb126) (o := .cells #[.int .i64 a0_0, .int .i64 a0_1, .int .i64 a0_2, .int .u64 a0_3, .int .u64 a0_4, .int .i64 a0_5, .int .u64 a0_6, .int .u64 a0_7, .int .u64 a0_8, .slice A0_9 l0_9.length c0_9] 29 (0, 0)) (by (with_reducible repeat (first | refine blk_drewN ?_ _ | refine blk_drew ?_ | refine blk_alloc ?_ _)); exact BK126.out) hb); have n2_ := Aside0.mk (below_step (by repeat (first | (with_reducible first | exact HB.out | apply below_alloc | apply pw_below_drewN | apply below_drew1 | refine below_set ?_ GE126.out) | exact HB.out)) hb); clear BK126; clear HB; have HO129 := n0_; have BK126 := n1_; have HB := n2_; clear n0_ n1_ n2_; clear hb ho51; have hcz52_0 : w50.cell? ⟨gb126, 0, none⟩ = some (.int .i64 a0_0) := (blk_cell BK126.out 0).trans rfl; have hcz52_1 : w50.cell? ⟨gb126, 1, none⟩ = some (.int .i64 a0_1) := (blk_cell BK126.out 1).trans rfl; have hcz52_2 : w50.cell? ⟨gb126, 2, none⟩ = some (.int .i64 a0_2) := (blk_cell BK126.out 2).trans rfl; have hcz52_3 : w50.cell? ⟨gb126, 3, none⟩ = some (.int .u64 a0_3) := (blk_cell BK126.out 3).trans rfl; have hcz52_4 : w50.cell? ⟨gb126, 4, none⟩ = some (.int .u64 a0_4) := (blk_cell BK126.out 4).trans rfl; have hcz52_5 : w50.cell? ⟨gb126, 5, none⟩ = some (.int .i64 a0_5) := (blk_cell BK126.out 5).trans rfl; have hcz52_6 : w50.cell? ⟨gb126, 6, none⟩ = some (.int .u64 a0_6) := (blk_cell BK126.out 6).trans rfl; have hcz52_7 : w50.cell? ⟨gb126, 7, none⟩ = some (.int .u64 a0_7) := (blk_cell BK126.out 7).trans rfl; have hcz52_8 : w50.cell? ⟨gb126, 8, none⟩ = some (.int .u64 a0_8) := (blk_cell BK126.out 8).trans rfl; have hcz52_9 : w50.cell? ⟨gb126, 9, none⟩ = some (.slice A0_9 l0_9.length c0_9) := (blk_cell BK126.out 9).trans rfl; have hfz52_0 := blk_frozen BK126.out 0; have hfz52_1 := blk_frozen BK126.out 1; have hfz52_2 := blk_frozen BK126.out 2; have hfz52_3 := blk_frozen BK126.out 3; have hfz52_4 := blk_frozen BK126.out 4; have hfz52_5 := blk_frozen BK126.out 5; have hfz52_6 := blk_frozen BK126.out 6; have hfz52_7 := blk_frozen BK126.out 7; have hfz52_8 := blk_frozen BK126.out 8; have hfz52_9 := blk_frozen BK126.out 9))
              have n0_ := Aside0.mk (Kd.R_drew HO129.out)
              have n1_ := Aside0.mk (blk_drew BK126.out)
              have n2_ := Aside0.mk (below_drew1 HB.out)
              clear HO129
              clear BK126
              clear HB
              have HO129 := n0_
              have BK126 := n1_
              have HB := n2_
              clear n0_ n1_ n2_
              obtain ⟨Ao54, co54, eo54⟩ := Kd.R_slice HO129.out
              (first | subst eo54 | (injection eo54 with f1_ f2_ f3_; have f4_ := f1_.symm; have f5_ := f3_.symm; clear f1_ f2_ f3_; subst f4_; subst f5_))
              refine start_ (n := 10) (S := fun w' => w'.cell? ⟨gb126, 0, none⟩ = some (.int .i64 a0_0) ∧ w'.cell? ⟨gb126, 1, none⟩ = some (.int .i64 a0_1) ∧ w'.cell? ⟨gb126, 2, none⟩ = some (.int .i64 a0_2) ∧ w'.cell? ⟨gb126, 3, none⟩ = some (.int .u64 a0_3) ∧ w'.cell? ⟨gb126, 4, none⟩ = some (.int .u64 a0_4) ∧ w'.cell? ⟨gb126, 5, none⟩ = some (.int .i64 a0_5) ∧ w'.cell? ⟨gb126, 6, none⟩ = some (.int .u64 a0_6) ∧ w'.cell? ⟨gb126, 7, none⟩ = some (.int .u64 a0_7) ∧ w'.cell? ⟨gb126, 8, none⟩ = some (.int .u64 a0_8) ∧ w'.cell? ⟨gb126, 9, none⟩ = some (.slice A0_9 l0_9.length c0_9)) (ds := []) #[false, false, false, false, false, false, false, false, false, false] (by kernel_rfl) rfl rfl ⟨(blk_cell BK126.out 0).trans rfl, (blk_cell BK126.out 1).trans rfl, (blk_cell BK126.out 2).trans rfl, (blk_cell BK126.out 3).trans rfl, (blk_cell BK126.out 4).trans rfl, (blk_cell BK126.out 5).trans rfl, (blk_cell BK126.out 6).trans rfl, (blk_cell BK126.out 7).trans rfl, (blk_cell BK126.out 8).trans rfl, (blk_cell BK126.out 9).trans rfl⟩ (fun hHeld => ?_); refine with_tabW flocculusref21_CommandBytes.tab14 flocculusref21_CommandBytes.bits14 (fun HT_ HW_ => ?_)
              generalize w50.drew = w53 at HO129 BK126 HB hHeld ⊢
              refine pure_ (i := 0) (N := some 65) (v := ?_) (a' := ?_) #[true, false, false, false, false, false, false, false, false, false] rfl rfl (any_of HT_.out (by kernel_rfl)) (fun _ _ _ h => h) (Or.inl ⟨by rfl, ?_⟩) ?_ ?_
              rotate_left
              · intro w'
                go_simp
                with_reducible rfl
              rotate_left
              · simp only [Act.put, List.setIfInBounds_toArray, List.set_cons_zero, List.set_cons_succ, i64_w, i32_w]
                rfl
              refine pure_ (i := 1) (N := some 66) (v := ?_) (a' := ?_) #[true, true, false, false, false, false, false, false, false, false] rfl rfl (any_of HT_.out (by kernel_rfl)) (fun _ _ _ h => h) (Or.inl ⟨by rfl, ?_⟩) ?_ ?_
              rotate_left
              · intro w'
                go_simp
                with_reducible rfl
              rotate_left
              · simp only [Act.put, List.setIfInBounds_toArray, List.set_cons_zero, List.set_cons_succ, i64_w, i32_w]
                rfl
              refine pure_ (i := 2) (N := some 67) (v := ?_) (a' := ?_) #[true, true, true, false, false, false, false, false, false, false] rfl rfl (any_of HT_.out (by kernel_rfl)) (fun _ _ _ h => h) (Or.inl ⟨by rfl, ?_⟩) ?_ ?_
              rotate_left
              · intro w'
                go_simp
                with_reducible rfl
              rotate_left
              · simp only [Act.put, List.setIfInBounds_toArray, List.set_cons_zero, List.set_cons_succ, i64_w, i32_w]
                rfl
              refine pure_ (i := 5) (N := some 70) (v := ?_) (a' := ?_) #[true, true, true, false, false, true, false, false, false, false] rfl rfl (any_of HT_.out (by kernel_rfl)) (fun _ _ _ h => h) (Or.inl ⟨by rfl, ?_⟩) ?_ ?_
              rotate_left
              · intro w'
                go_simp
                with_reducible rfl
              rotate_left
              · simp only [Act.put, List.setIfInBounds_toArray, List.set_cons_zero, List.set_cons_succ, i64_w, i32_w]
                rfl
              refine pure_ (i := 6) (N := some 71) (v := ?_) (a' := ?_) #[true, true, true, false, false, true, true, false, false, false] rfl rfl (any_of HT_.out (by kernel_rfl)) (fun _ _ _ h => h) (Or.inl ⟨by rfl, ?_⟩) ?_ ?_
              rotate_left
              · intro w'
                go_simp
                with_reducible rfl
              rotate_left
              · simp only [Act.put, List.setIfInBounds_toArray, List.set_cons_zero, List.set_cons_succ, i64_w, i32_w]
                rfl
              refine take_ (i := 3) (N := some 68) (v := ?_) (a' := ?_) #[true, true, true, true, false, true, true, false, false, false] rfl rfl (take_ofW HT_.out HW_.out (by kernel_rfl)) (fun _ _ _ h => h) (Or.inl ⟨by rfl, ?_⟩) hHeld ?_ ?_
              rotate_left
              · rintro w' ⟨s0, s1, s2, s3, s4, s5, s6, s7, s8, s9⟩
                go_simp
                with_reducible rfl
              rotate_left
              · simp only [Act.put, List.setIfInBounds_toArray, List.set_cons_zero, List.set_cons_succ, i64_w, i32_w]
                rfl
              refine take_ (i := 7) (N := some 72) (v := ?_) (a' := ?_) #[true, true, true, true, false, true, true, true, false, false] rfl rfl (take_ofW HT_.out HW_.out (by kernel_rfl)) (fun _ _ _ h => h) (Or.inl ⟨by rfl, ?_⟩) hHeld ?_ ?_
              rotate_left
              · rintro w' ⟨s0, s1, s2, s3, s4, s5, s6, s7, s8, s9⟩
                go_simp
                with_reducible rfl
              rotate_left
              · simp only [Act.put, List.setIfInBounds_toArray, List.set_cons_zero, List.set_cons_succ, i64_w, i32_w]
                rfl
              refine one_ (i := 4) (N := some 69) #[true, true, true, true, true, true, true, true, false, false] rfl rfl (one_of HT_.out (by kernel_rfl)) (by decide) (fun K hK => ?_)
              refine goes_ Try.func24 (by kernel_rfl) rfl #[.slice Ao54 y127.length co54, .int .u64 a0_6, .int .i64 8] (by rfl) rfl rfl (by (try simp only [List.map_toArray, List.map_cons, List.map_nil]); first | done | rfl | (simp only [List.length_drop, List.length_take]; rfl)) ?_
              with_reducible refine (flocculusref21_num.calls kj1 (fun k_ => some k_ = (.slice Ao54 y127.length co54 : Value).ownBlock) (.slice Ao54 y127.length co54) y127 a0_6 8 t140 w _ ?side1 ?side2 A47.out).mono ?_
              (case side1 => repeat (first | (with_reducible first | exact HB.out | apply below_alloc | apply pw_below_drewN | apply below_drew1 | refine below_set ?_ GE126.out) | exact HB.out))
              (case side2 => exact Kd.R_tight rfl HO129.out)
              rintro e w55 ⟨v141, rfl, ho0, hb, hkp⟩
              refine ⟨_, rfl, ?_⟩
              have n0_ := Aside0.mk (blk_kept (by (with_reducible repeat (first | refine blk_drewN ?_ _ | refine blk_drew ?_ | refine blk_alloc ?_ _)); exact BK126.out) hkp (fun hs_ => (fun e_ => (Kd.R_ne HO129.out BK126.out (by decide)) e_) hs_))
              have n1_ := Aside0.mk (Kd.R_mono (ok' := fun k_ => True) ho0 (fun k_ hk_ => trivial))
              have n2_ := Aside0.mk (hb)
              clear BK126
              clear HB
              clear HO129
              have BK126 := n0_
              have HO142 := n1_
              have HB := n2_
              clear n0_ n1_ n2_
              (try clear hb)
              (try clear hkp)
              (try clear ho0)
              obtain ⟨Ao56, co56, eo56⟩ := Kd.R_slice HO142.out
              (first | subst eo56 | (injection eo56 with f1_ f2_ f3_; have f4_ := f1_.symm; have f5_ := f3_.symm; clear f1_ f2_ f3_; subst f4_; subst f5_))
              refine hK.out _ _ ⟨(blk_cell BK126.out 0).trans rfl, (blk_cell BK126.out 1).trans rfl, (blk_cell BK126.out 2).trans rfl, (blk_cell BK126.out 3).trans rfl, (blk_cell BK126.out 4).trans rfl, (blk_cell BK126.out 5).trans rfl, (blk_cell BK126.out 6).trans rfl, (blk_cell BK126.out 7).trans rfl, (blk_cell BK126.out 8).trans rfl, (blk_cell BK126.out 9).trans rfl⟩ (fun hHeld => ?_)
              clear hK K
              refine norm_ (a' := ?_) ?_ ?_
              rotate_left
              · show Act.put _ (some 69) _ = _
                simp only [Act.put, List.setIfInBounds_toArray, List.set_cons_zero, List.set_cons_succ, i64_w, i32_w]
                rfl
              refine one_ (i := 8) (N := some 73) #[true, true, true, true, true, true, true, true, true, false] rfl rfl (one_of HT_.out (by kernel_rfl)) (by decide) (fun K hK => ?_)
              refine goes_ Try.func24 (by kernel_rfl) rfl #[.slice Ao56 t140.length co56, .int .u64 a0_7, .int .i64 8] (by rfl) rfl rfl (by (try simp only [List.map_toArray, List.map_cons, List.map_nil]); first | done | rfl | (simp only [List.length_drop, List.length_take]; rfl)) ?_
              with_reducible refine (flocculusref21_num.calls kj1 (fun k_ => some k_ = (.slice Ao56 t140.length co56 : Value).ownBlock) (.slice Ao56 t140.length co56) t140 a0_7 8 t143 w _ ?side1 ?side2 A48.out).mono ?_
              (case side1 => repeat (first | (with_reducible first | exact HB.out | apply below_alloc | apply pw_below_drewN | apply below_drew1 | refine below_set ?_ GE126.out) | exact HB.out))
              (case side2 => exact Kd.R_tight rfl HO142.out)
              rintro e w57 ⟨v144, rfl, ho0, hb, hkp⟩
              refine ⟨_, rfl, ?_⟩
              have n0_ := Aside0.mk (blk_kept (by (with_reducible repeat (first | refine blk_drewN ?_ _ | refine blk_drew ?_ | refine blk_alloc ?_ _)); exact BK126.out) hkp (fun hs_ => (fun e_ => (Kd.R_ne HO142.out BK126.out (by decide)) e_) hs_))
              have n1_ := Aside0.mk (Kd.R_mono (ok' := fun k_ => True) ho0 (fun k_ hk_ => trivial))
              have n2_ := Aside0.mk (hb)
              clear BK126
              clear HB
              clear HO142
              have BK126 := n0_
              have HO145 := n1_
              have HB := n2_
              clear n0_ n1_ n2_
              (try clear hb)
              (try clear hkp)
              (try clear ho0)
              refine hK.out _ _ ⟨(blk_cell BK126.out 0).trans rfl, (blk_cell BK126.out 1).trans rfl, (blk_cell BK126.out 2).trans rfl, (blk_cell BK126.out 3).trans rfl, (blk_cell BK126.out 4).trans rfl, (blk_cell BK126.out 5).trans rfl, (blk_cell BK126.out 6).trans rfl, (blk_cell BK126.out 7).trans rfl, (blk_cell BK126.out 8).trans rfl, (blk_cell BK126.out 9).trans rfl⟩ (fun hHeld => ?_)
              clear hK K
              refine norm_ (a' := ?_) ?_ ?_
              rotate_left
              · show Act.put _ (some 73) _ = _
                simp only [Act.put, List.setIfInBounds_toArray, List.set_cons_zero, List.set_cons_succ, i64_w, i32_w]
                rfl
              refine pure_ (i := 9) (N := some 2) (v := ?_) (a' := ?_) #[true, true, true, true, true, true, true, true, true, true] rfl rfl (any_of HT_.out (by kernel_rfl)) (fun _ _ _ h => h) (Or.inl ⟨by rfl, ?_⟩) ?_ ?_
              rotate_left
              · intro w'
                go_simp
                with_reducible rfl
              rotate_left
              · simp only [Act.put, List.setIfInBounds_toArray, List.set_cons_zero, List.set_cons_succ, i64_w, i32_w]
                rfl
              refine done_ (done_of HT_.out (by kernel_rfl)) ?_
              try go_wp2
              go_ret
              exact ⟨_, by first | rfl | (simp [errW_none, errW_some] <;> rfl) | (simp [*, errW_none, errW_some] <;> rfl), by (with_reducible repeat (first | apply Kd.R_alloc | apply Kd.R_drewN | apply Kd.R_drew)); exact HO145.out, by repeat (first | (with_reducible first | exact HB.out | apply below_alloc | apply pw_below_drewN | apply below_drew1 | refine below_set ?_ GE126.out) | exact HB.out)⟩
            · rw [if_neg c46] at H
              have c46b0 : (a0_0 == 3) = false := beq_eq_false_iff_ne.mpr c46
              have c46b1 : (a0_0 != 3) = true := bne_iff_ne.mpr c46
              have HC58 := Aside0.mk H
              clear H
              have hcz59_0 : wc.cell? ⟨gb126, 0, none⟩ = some (.int .i64 a0_0) := (blk_cell BK126.out 0).trans rfl
              have hcz59_1 : wc.cell? ⟨gb126, 1, none⟩ = some (.int .i64 a0_1) := (blk_cell BK126.out 1).trans rfl
              have hcz59_2 : wc.cell? ⟨gb126, 2, none⟩ = some (.int .i64 a0_2) := (blk_cell BK126.out 2).trans rfl
              have hcz59_3 : wc.cell? ⟨gb126, 3, none⟩ = some (.int .u64 a0_3) := (blk_cell BK126.out 3).trans rfl
              have hcz59_4 : wc.cell? ⟨gb126, 4, none⟩ = some (.int .u64 a0_4) := (blk_cell BK126.out 4).trans rfl
              have hcz59_5 : wc.cell? ⟨gb126, 5, none⟩ = some (.int .i64 a0_5) := (blk_cell BK126.out 5).trans rfl
              have hcz59_6 : wc.cell? ⟨gb126, 6, none⟩ = some (.int .u64 a0_6) := (blk_cell BK126.out 6).trans rfl
              have hcz59_7 : wc.cell? ⟨gb126, 7, none⟩ = some (.int .u64 a0_7) := (blk_cell BK126.out 7).trans rfl
              have hcz59_8 : wc.cell? ⟨gb126, 8, none⟩ = some (.int .u64 a0_8) := (blk_cell BK126.out 8).trans rfl
              have hcz59_9 : wc.cell? ⟨gb126, 9, none⟩ = some (.slice A0_9 l0_9.length c0_9) := (blk_cell BK126.out 9).trans rfl
              have hfz59_0 := blk_frozen BK126.out 0
              have hfz59_1 := blk_frozen BK126.out 1
              have hfz59_2 := blk_frozen BK126.out 2
              have hfz59_3 := blk_frozen BK126.out 3
              have hfz59_4 := blk_frozen BK126.out 4
              have hfz59_5 := blk_frozen BK126.out 5
              have hfz59_6 := blk_frozen BK126.out 6
              have hfz59_7 := blk_frozen BK126.out 7
              have hfz59_8 := blk_frozen BK126.out 8
              have hfz59_9 := blk_frozen BK126.out 9
              go_upto_if 74 with (first | ((with_reducible refine gate_dst (N := 18) rfl ?_); refine Kd.R_lit (Kd.int .u8) _ 5 ?hg (N := 18) ?hd (xs := ([(a0_0) % 256] : List Int)) (inner := [.int .u8 ((a0_0) % 256)]) (ok := fun _ => True) (okp := fun _ => True) ?hr ?hp (fun _ hk => hk) trivial (Below.refl _ _) (Nat.le_refl _) (by simp) ?_; (case hd => rfl); (case hg => rfl); (case hr => first | (go_simp; done) | (go_simp; rfl)); (case hp => exact (Reps.one (show Kd.M (Kd.int .u8) _ _ _ ((a0_0) % 256) [.int .u8 ((a0_0) % 256)] from rfl) (Reps.none _ _))); intro v128 w60 ho61 hb hg_ hnew_; clear hg_ hnew_; (first | rw [← Ny127.out] at ho61 | (simp only [Int.reduceToNat] at ho61; rw [← Ny127.out] at ho61)); have n0_ := Aside0.mk (Kd.R_lower ho61 (below_size (by repeat (first | (with_reducible first | exact HB.out | apply below_alloc | apply pw_below_drewN | apply below_drew1 | refine below_set ?_ GE126.out) | exact HB.out)))); have n1_ := Aside0.mk (blk_below (g := gb126) (o := .cells #[.int .i64 a0_0, .int .i64 a0_1, .int .i64 a0_2, .int .u64 a0_3, .int .u64 a0_4, .int .i64 a0_5, .int .u64 a0_6, .int .u64 a0_7, .int .u64 a0_8, .slice A0_9 l0_9.length c0_9] 29 (0, 0)) (by (with_reducible repeat (first | refine blk_drewN ?_ _ | refine blk_drew ?_ | refine blk_alloc ?_ _)); exact BK126.out) hb); have n2_ := Aside0.mk (below_step (by repeat (first | (with_reducible first | exact HB.out | apply below_alloc | apply pw_below_drewN | apply below_drew1 | refine below_set ?_ GE126.out) | exact HB.out)) hb); clear BK126; clear HB; have HO129 := n0_; have BK126 := n1_; have HB := n2_; clear n0_ n1_ n2_; clear hb ho61; have hcz62_0 : w60.cell? ⟨gb126, 0, none⟩ = some (.int .i64 a0_0) := (blk_cell BK126.out 0).trans rfl; have hcz62_1 : w60.cell? ⟨gb126, 1, none⟩ = some (.int .i64 a0_1) := (blk_cell BK126.out 1).trans rfl; have hcz62_2 : w60.cell? ⟨gb126, 2, none⟩ = some (.int .i64 a0_2) := (blk_cell BK126.out 2).trans rfl; have hcz62_3 : w60.cell? ⟨gb126, 3, none⟩ = some (.int .u64 a0_3) := (blk_cell BK126.out 3).trans rfl; have hcz62_4 : w60.cell? ⟨gb126, 4, none⟩ = some (.int .u64 a0_4) := (blk_cell BK126.out 4).trans rfl; have hcz62_5 : w60.cell? ⟨gb126, 5, none⟩ = some (.int .i64 a0_5) := (blk_cell BK126.out 5).trans rfl; have hcz62_6 : w60.cell? ⟨gb126, 6, none⟩ = some (.int .u64 a0_6) := (blk_cell BK126.out 6).trans rfl; have hcz62_7 : w60.cell? ⟨gb126, 7, none⟩ = some (.int .u64 a0_7) := (blk_cell BK126.out 7).trans rfl; have hcz62_8 : w60.cell? ⟨gb126, 8, none⟩ = some (.int .u64 a0_8) := (blk_cell BK126.out 8).trans rfl; have hcz62_9 : w60.cell? ⟨gb126, 9, none⟩ = some (.slice A0_9 l0_9.length c0_9) := (blk_cell BK126.out 9).trans rfl; have hfz62_0 := blk_frozen BK126.out 0; have hfz62_1 := blk_frozen BK126.out 1; have hfz62_2 := blk_frozen BK126.out 2; have hfz62_3 := blk_frozen BK126.out 3; have hfz62_4 := blk_frozen BK126.out 4; have hfz62_5 := blk_frozen BK126.out 5; have hfz62_6 := blk_frozen BK126.out 6; have hfz62_7 := blk_frozen BK126.out 7; have hfz62_8 := blk_frozen BK126.out 8; have hfz62_9 := blk_frozen BK126.out 9))
              (try simp only [Act.put, List.setIfInBounds_toArray, List.set_cons_zero, List.set_cons_succ])
              go_cut [74] (fun v74 wc => ∃ (kq : Nat) (x74_57 : Bool), v74 = .bool x74_57 ∧ Aside0 (flocculusref21_CommandBytes.j2 kq y127 a0_0 x74_57 a0_0 a0_1 a0_2 a0_3 a0_4 a0_5 a0_6 a0_7 a0_8 l0_9 = some r) ∧ Aside0 (kq ≤ kj1) ∧ Aside0 (Kd.R (Kd.int .u8) 5 wc w.heap.size (fun _ => True) v128 y127) ∧ Aside0 (wc.heap[gb126]? = some (.cells #[.int .i64 a0_0, .int .i64 a0_1, .int .i64 a0_2, .int .u64 a0_3, .int .u64 a0_4, .int .i64 a0_5, .int .u64 a0_6, .int .u64 a0_7, .int .u64 a0_8, (.slice A0_9 l0_9.length c0_9)] 29 (0, 0))) ∧ Aside0 (Below w.heap.size w wc))
              case first =>
                have H := HC58.out
                clear HC58
                by_cases c63 : a0_0 = 4
                · rw [if_pos c63] at H
                  have c63b0 : (a0_0 == 4) = true := beq_iff_eq.mpr c63
                  have c63b1 : (a0_0 != 4) = false := bne_eq_false_iff_eq.mpr c63
                  clear c63
                  (first | rw [c63b0] | (simp only [i64_w, i32_w]; rw [c63b0]) | skip)
                  have H' := Aside0.mk H
                  clear H
                  go_wp2
                  go_meet
                  case rel => exact ⟨_, ((a0_0 == 4)), (by first | rfl | (simp; done) | (simp [*]; done)), H', ⟨by have := HJ1.out; first | omega | exact Nat.le_refl _⟩, ⟨by (with_reducible repeat (first | apply Kd.R_alloc | apply Kd.R_drewN | apply Kd.R_drew)); exact HO129.out⟩, ⟨by (with_reducible repeat (first | refine blk_drewN ?_ _ | refine blk_drew ?_ | refine blk_alloc ?_ _)); exact BK126.out⟩, ⟨by repeat (first | (with_reducible first | exact HB.out | apply below_alloc | apply pw_below_drewN | apply below_drew1 | refine below_set ?_ GE126.out) | exact HB.out)⟩⟩
                · rw [if_neg c63] at H
                  have c63b0 : (a0_0 == 4) = false := beq_eq_false_iff_ne.mpr c63
                  have c63b1 : (a0_0 != 4) = true := bne_iff_ne.mpr c63
                  (first | rw [c63b0] | (simp only [i64_w, i32_w]; rw [c63b0]) | skip)
                  have H' := Aside0.mk H
                  clear H
                  go_wp2
                  go_meet
                  case rel => exact ⟨_, ((a0_0 == 6)), (by first | rfl | (simp; done) | (simp [*]; done)), H', ⟨by have := HJ1.out; first | omega | exact Nat.le_refl _⟩, ⟨by (with_reducible repeat (first | apply Kd.R_alloc | apply Kd.R_drewN | apply Kd.R_drew)); exact HO129.out⟩, ⟨by (with_reducible repeat (first | refine blk_drewN ?_ _ | refine blk_drew ?_ | refine blk_alloc ?_ _)); exact BK126.out⟩, ⟨by repeat (first | (with_reducible first | exact HB.out | apply below_alloc | apply pw_below_drewN | apply below_drew1 | refine below_set ?_ GE126.out) | exact HB.out)⟩⟩
              case rest =>
                clear HC58
                try clear c2
                try clear p2
                try clear c3
                try clear c4
                try clear c6
                try clear c8
                try clear c8b0
                try clear c8b1
                try clear c20
                try clear c24
                try clear c25
                try clear c28
                try clear c28b0
                try clear c28b1
                try clear c29
                try clear c29b0
                try clear c34
                try clear c34b0
                try clear c46
                try clear c46b0
                try clear c46b1
                try clear c63
                try clear c63b0
                try clear c63b1
                try clear hcz17_6
                try clear hcz17_7
                try clear hcz17_8
                try clear hcz17_9
                try clear hcz19_0
                try clear hcz19_1
                try clear hcz19_2
                try clear hcz19_3
                try clear hcz19_4
                try clear hcz19_5
                try clear hcz19_6
                try clear hcz19_7
                try clear hcz19_8
                try clear hcz19_9
                try clear hcz30_0
                try clear hcz30_1
                try clear hcz30_2
                try clear hcz30_3
                try clear hcz30_4
                try clear hcz30_5
                try clear hcz30_6
                try clear hcz30_7
                try clear hcz30_8
                try clear hcz30_9
                try clear hcz33_0
                try clear hcz33_1
                try clear hcz33_2
                try clear hcz33_3
                try clear hcz33_4
                try clear hcz33_5
                try clear hcz33_6
                try clear hcz33_7
                try clear hcz33_8
                try clear hcz33_9
                try clear hcz35_0
                try clear hcz35_1
                try clear hcz35_2
                try clear hcz35_3
                try clear hcz35_4
                try clear hcz35_5
                try clear hcz35_6
                try clear hcz35_7
                try clear hcz35_8
                try clear hcz35_9
                try clear hcz38_0
                try clear hcz38_1
                try clear hcz38_2
                try clear hcz38_3
                try clear hcz38_4
                try clear hcz38_5
                try clear hcz38_6
                try clear hcz38_7
                try clear hcz38_8
                try clear hcz38_9
                try clear hcz40_0
                try clear hcz40_1
                try clear hcz40_2
                try clear hcz40_3
                try clear hcz40_4
                try clear hcz40_5
                try clear hcz40_6
                try clear hcz40_7
                try clear hcz40_8
                try clear hcz40_9
                try clear hcz43_0
                try clear hcz43_1
                try clear hcz43_2
                try clear hcz43_3
                try clear hcz43_4
                try clear hcz43_5
                try clear hcz43_6
                try clear hcz43_7
                try clear hcz43_8
                try clear hcz43_9
                try clear hcz49_0
                try clear hcz49_1
                try clear hcz49_2
                try clear hcz49_3
                try clear hcz49_4
                try clear hcz49_5
                try clear hcz49_6
                try clear hcz49_7
                try clear hcz49_8
                try clear hcz49_9
                try clear hcz52_0
                try clear hcz52_1
                try clear hcz52_2
                try clear hcz52_3
                try clear hcz52_4
                try clear hcz52_5
                try clear hcz52_6
                try clear hcz52_7
                try clear hcz52_8
                try clear hcz52_9
                try clear hcz59_0
                try clear hcz59_1
                try clear hcz59_2
                try clear hcz59_3
                try clear hcz59_4
                try clear hcz59_5
                try clear hcz59_6
                try clear hcz59_7
                try clear hcz59_8
                try clear hcz59_9
                try clear hcz5_0
                try clear hcz5_1
                try clear hcz5_2
                try clear hcz5_3
                try clear hcz5_4
                try clear hcz5_5
                try clear hcz5_6
                try clear hcz5_7
                try clear hcz5_8
                try clear hcz5_9
                try clear hcz62_0
                try clear hcz62_1
                try clear hcz62_2
                try clear hcz62_3
                try clear hcz62_4
                try clear hcz62_5
                try clear hcz62_6
                try clear hcz62_7
                try clear hcz62_8
                try clear hcz62_9
                try clear hcz6_0
                try clear hcz6_1
                try clear hcz6_2
                try clear hcz6_3
                try clear hcz6_4
                try clear hcz6_5
                try clear hcz6_6
                try clear hcz6_7
                try clear hcz6_8
                try clear hcz6_9
                try clear hfz10_0
                try clear hfz10_1
                try clear hfz10_2
                try clear hfz10_3
                try clear hfz10_4
                try clear hfz10_5
                try clear hfz10_6
                try clear hfz10_7
                try clear hfz10_8
                try clear hfz10_9
                try clear hfz13_0
                try clear hfz13_1
                try clear hfz13_2
                try clear hfz13_3
                try clear hfz13_4
                try clear hfz13_5
                try clear hfz13_6
                try clear hfz13_7
                try clear hfz13_8
                try clear hfz13_9
                try clear hfz15_0
                try clear hfz15_1
                try clear hfz15_2
                try clear hfz15_3
                try clear hfz15_4
                try clear hfz15_5
                try clear hfz15_6
                try clear hfz15_7
                try clear hfz15_8
                try clear hfz15_9
                try clear hfz17_0
                try clear hfz17_1
                try clear hfz17_2
                try clear hfz17_3
                try clear hfz17_4
                try clear hfz17_5
                try clear hfz17_6
                try clear hfz17_7
                try clear hfz17_8
                try clear hfz17_9
                try clear hfz19_0
                try clear hfz19_1
                try clear hfz19_2
                try clear hfz19_3
                try clear hfz19_4
                try clear hfz19_5
                try clear hfz19_6
                try clear hfz19_7
                try clear hfz19_8
                try clear hfz19_9
                try clear hfz30_0
                try clear hfz30_1
                try clear hfz30_2
                try clear hfz30_3
                try clear hfz30_4
                try clear hfz30_5
                try clear hfz30_6
                try clear hfz30_7
                try clear hfz30_8
                try clear hfz30_9
                try clear hfz33_0
                try clear hfz33_1
                try clear hfz33_2
                try clear hfz33_3
                try clear hfz33_4
                try clear hfz33_5
                try clear hfz33_6
                try clear hfz33_7
                try clear hfz33_8
                try clear hfz33_9
                try clear hfz35_0
                try clear hfz35_1
                try clear hfz35_2
                try clear hfz35_3
                try clear hfz35_4
                try clear hfz35_5
                try clear hfz35_6
                try clear hfz35_7
                try clear hfz35_8
                try clear hfz35_9
                try clear hfz38_0
                try clear hfz38_1
                try clear hfz38_2
                try clear hfz38_3
                try clear hfz38_4
                try clear hfz38_5
                try clear hfz38_6
                try clear hfz38_7
                try clear hfz38_8
                try clear hfz38_9
                try clear hfz40_0
                try clear hfz40_1
                try clear hfz40_2
                try clear hfz40_3
                try clear hfz40_4
                try clear hfz40_5
                try clear hfz40_6
                try clear hfz40_7
                try clear hfz40_8
                try clear hfz40_9
                try clear hfz43_0
                try clear hfz43_1
                try clear hfz43_2
                try clear hfz43_3
                try clear hfz43_4
                try clear hfz43_5
                try clear hfz43_6
                try clear hfz43_7
                try clear hfz43_8
                try clear hfz43_9
                try clear hfz49_0
                try clear hfz49_1
                try clear hfz49_2
                try clear hfz49_3
                try clear hfz49_4
                try clear hfz49_5
                try clear hfz49_6
                try clear hfz49_7
                try clear hfz49_8
                try clear hfz49_9
                try clear hfz52_0
                try clear hfz52_1
                try clear hfz52_2
                try clear hfz52_3
                try clear hfz52_4
                try clear hfz52_5
                try clear hfz52_6
                try clear hfz52_7
                try clear hfz52_8
                try clear hfz52_9
                try clear hfz59_0
                try clear hfz59_1
                try clear hfz59_2
                try clear hfz59_3
                try clear hfz59_4
                try clear hfz59_5
                try clear hfz59_6
                try clear hfz59_7
                try clear hfz59_8
                try clear hfz59_9
                try clear hfz5_0
                try clear hfz5_1
                try clear hfz5_2
                try clear hfz5_3
                try clear hfz5_4
                try clear hfz5_5
                try clear hfz5_6
                try clear hfz5_7
                try clear hfz5_8
                try clear hfz5_9
                try clear hfz62_0
                try clear hfz62_1
                try clear hfz62_2
                try clear hfz62_3
                try clear hfz62_4
                try clear hfz62_5
                try clear hfz62_6
                try clear hfz62_7
                try clear hfz62_8
                try clear hfz62_9
                try clear hfz6_0
                try clear hfz6_1
                try clear hfz6_2
                try clear hfz6_3
                try clear hfz6_4
                try clear hfz6_5
                try clear hfz6_6
                try clear hfz6_7
                try clear hfz6_8
                try clear hfz6_9
                try clear p2
                obtain ⟨kq, x74_57, rfl, HA, HJ57, HO_3, BK126, HB⟩ := hcut
                cases kq with
                | zero => exact absurd HA.out (by simp [flocculusref21_CommandBytes.j2])
                | succ kj57 =>
                  have H := HA.out
                  clear HA
                  simp only [flocculusref21_CommandBytes.j2] at H
                  by_cases c64 : x74_57 = true
                  · subst c64
                    have H1 : ((flocculusref21_fits.f a0_2).bind fun t146 => (if t146 = true then (if a0_0 = 6 then ((flocculusref21_num.f kj57 y127 a0_8 8).bind fun t147 => ((flocculusref21_num.f kj57 t147 (IntKind.u64.wrap (a0_2)) 4).bind fun t150 => (some t150))) else ((flocculusref21_num.f kj57 y127 (IntKind.u64.wrap (a0_2)) 4).bind fun t153 => (some t153))) else (some ([] : List Int)))) = some r := by rw [if_pos rfl] at H; exact H
                    clear H
                    have H := H1
                    clear H1
                    replace H := Option.bind_eq_some_iff.mp H
                    obtain ⟨t146, A650, H⟩ := H
                    replace H : (if t146 = true then (if a0_0 = 6 then ((flocculusref21_num.f kj57 y127 a0_8 8).bind fun t147 => ((flocculusref21_num.f kj57 t147 (IntKind.u64.wrap (a0_2)) 4).bind fun t150 => (some t150))) else ((flocculusref21_num.f kj57 y127 (IntKind.u64.wrap (a0_2)) 4).bind fun t153 => (some t153))) else (some ([] : List Int))) = some r := H
                    have A65 := Aside0.mk A650
                    clear A650
                    by_cases c66 : t146 = true
                    · subst c66
                      have H1 : (if a0_0 = 6 then ((flocculusref21_num.f kj57 y127 a0_8 8).bind fun t147 => ((flocculusref21_num.f kj57 t147 (IntKind.u64.wrap (a0_2)) 4).bind fun t150 => (some t150))) else ((flocculusref21_num.f kj57 y127 (IntKind.u64.wrap (a0_2)) 4).bind fun t153 => (some t153))) = some r := by rw [if_pos rfl] at H; exact H
                      clear H
                      have H := H1
                      clear H1
                      by_cases c67 : a0_0 = 6
                      · rw [if_pos c67] at H
                        have c67b0 : (a0_0 == 6) = true := beq_iff_eq.mpr c67
                        have c67b1 : (a0_0 != 6) = false := bne_eq_false_iff_eq.mpr c67
                        clear c67
                        replace H := Option.bind_eq_some_iff.mp H
                        obtain ⟨t147, A680, H⟩ := H
                        replace H : ((flocculusref21_num.f kj57 t147 (IntKind.u64.wrap (a0_2)) 4).bind fun t150 => (some t150)) = some r := H
                        have A68 := Aside0.mk A680
                        clear A680
                        replace H := Option.bind_eq_some_iff.mp H
                        obtain ⟨t150, A690, H⟩ := H
                        replace H : (some t150) = some r := H
                        have A69 := Aside0.mk A690
                        clear A690
                        obtain rfl := Option.some.inj H
                        have hcz70_0 : wc.cell? ⟨gb126, 0, none⟩ = some (.int .i64 a0_0) := (blk_cell BK126.out 0).trans rfl
                        have hcz70_1 : wc.cell? ⟨gb126, 1, none⟩ = some (.int .i64 a0_1) := (blk_cell BK126.out 1).trans rfl
                        have hcz70_2 : wc.cell? ⟨gb126, 2, none⟩ = some (.int .i64 a0_2) := (blk_cell BK126.out 2).trans rfl
                        have hcz70_3 : wc.cell? ⟨gb126, 3, none⟩ = some (.int .u64 a0_3) := (blk_cell BK126.out 3).trans rfl
                        have hcz70_4 : wc.cell? ⟨gb126, 4, none⟩ = some (.int .u64 a0_4) := (blk_cell BK126.out 4).trans rfl
                        have hcz70_5 : wc.cell? ⟨gb126, 5, none⟩ = some (.int .i64 a0_5) := (blk_cell BK126.out 5).trans rfl
                        have hcz70_6 : wc.cell? ⟨gb126, 6, none⟩ = some (.int .u64 a0_6) := (blk_cell BK126.out 6).trans rfl
                        have hcz70_7 : wc.cell? ⟨gb126, 7, none⟩ = some (.int .u64 a0_7) := (blk_cell BK126.out 7).trans rfl
                        have hcz70_8 : wc.cell? ⟨gb126, 8, none⟩ = some (.int .u64 a0_8) := (blk_cell BK126.out 8).trans rfl
                        have hcz70_9 : wc.cell? ⟨gb126, 9, none⟩ = some (.slice A0_9 l0_9.length c0_9) := (blk_cell BK126.out 9).trans rfl
                        have hfz70_0 := blk_frozen BK126.out 0
                        have hfz70_1 := blk_frozen BK126.out 1
                        have hfz70_2 := blk_frozen BK126.out 2
                        have hfz70_3 := blk_frozen BK126.out 3
                        have hfz70_4 := blk_frozen BK126.out 4
                        have hfz70_5 := blk_frozen BK126.out 5
                        have hfz70_6 := blk_frozen BK126.out 6
                        have hfz70_7 := blk_frozen BK126.out 7
                        have hfz70_8 := blk_frozen BK126.out 8
                        have hfz70_9 := blk_frozen BK126.out 9
                        go_wp2_with (first | ((with_reducible refine gate_callee (f := 23) rfl ?_); refine goesL_ (some 79) rfl rfl Try.func23 (by kernel_rfl) rfl #[.int .i64 a0_2] rfl (by (try simp only [List.map_toArray, List.map_cons, List.map_nil]); first | done | rfl | (simp only [List.length_drop, List.length_take]; rfl)) ?_; (with_reducible refine (flocculusref21_fits.calls a0_2 true _ A65.out).mono ?_); rintro e w' ⟨rfl, ⟨nd, rfl⟩⟩; refine ⟨_, rfl, ?_⟩; obtain ⟨Ao71, co71, eo71⟩ := Kd.R_slice HO_3.out; subst eo71) | ((with_reducible refine gate_callee (f := 24) rfl ?_); refine goesL_ (some 87) rfl rfl Try.func24 (by kernel_rfl) rfl #[.slice Ao71 y127.length co71, .int .u64 a0_8, .int .i64 8] rfl (by (try simp only [List.map_toArray, List.map_cons, List.map_nil]); first | done | rfl | (simp only [List.length_drop, List.length_take]; rfl)) ?_; (with_reducible refine (flocculusref21_num.calls kj57 (fun k_ => some k_ = (.slice Ao71 y127.length co71 : Value).ownBlock) (.slice Ao71 y127.length co71) y127 a0_8 8 t147 w _ ?side1 ?side2 A68.out).mono ?_); (case side1 => repeat (first | (with_reducible first | exact HB.out | apply below_alloc | apply pw_below_drewN | apply below_drew1 | refine below_set ?_ GE126.out) | exact HB.out)); (case side2 => exact Kd.R_tight rfl HO_3.out); rintro e w72 ⟨v148, rfl, ho0, hb, hkp⟩; refine ⟨_, rfl, ?_⟩; have n0_ := Aside0.mk (blk_kept (by (with_reducible repeat (first | refine blk_drewN ?_ _ | refine blk_drew ?_ | refine blk_alloc ?_ _)); exact BK126.out) hkp (fun hs_ => (fun e_ => (Kd.R_ne HO_3.out BK126.out (by decide)) e_) hs_)); have n1_ := Aside0.mk (Kd.R_mono (ok' := fun k_ => True) ho0 (fun k_ hk_ => trivial)); have n2_ := Aside0.mk (hb); clear BK126; clear HB; clear HO_3; have BK126 := n0_; have HO149 := n1_; have HB := n2_; clear n0_ n1_ n2_; (try clear hb); (try clear hkp); (try clear ho0); have hcz73_0 : w72.cell? ⟨gb126, 0, none⟩ = some (.int .i64 a0_0) := (blk_cell BK126.out 0).trans rfl; have hcz73_1 : w72.cell? ⟨gb126, 1, none⟩ = some (.int .i64 a0_1) := (blk_cell BK126.out 1).trans rfl; have hcz73_2 : w72.cell? ⟨gb126, 2, none⟩ = some (.int .i64 a0_2) := (blk_cell BK126.out 2).trans rfl; have hcz73_3 : w72.cell? ⟨gb126, 3, none⟩ = some (.int .u64 a0_3) := (blk_cell BK126.out 3).trans rfl; have hcz73_4 : w72.cell? ⟨gb126, 4, none⟩ = some (.int .u64 a0_4) := (blk_cell BK126.out 4).trans rfl; have hcz73_5 : w72.cell? ⟨gb126, 5, none⟩ = some (.int .i64 a0_5) := (blk_cell BK126.out 5).trans rfl; have hcz73_6 : w72.cell? ⟨gb126, 6, none⟩ = some (.int .u64 a0_6) := (blk_cell BK126.out 6).trans rfl; have hcz73_7 : w72.cell? ⟨gb126, 7, none⟩ = some (.int .u64 a0_7) := (blk_cell BK126.out 7).trans rfl; have hcz73_8 : w72.cell? ⟨gb126, 8, none⟩ = some (.int .u64 a0_8) := (blk_cell BK126.out 8).trans rfl; have hcz73_9 : w72.cell? ⟨gb126, 9, none⟩ = some (.slice A0_9 l0_9.length c0_9) := (blk_cell BK126.out 9).trans rfl; have hfz73_0 := blk_frozen BK126.out 0; have hfz73_1 := blk_frozen BK126.out 1; have hfz73_2 := blk_frozen BK126.out 2; have hfz73_3 := blk_frozen BK126.out 3; have hfz73_4 := blk_frozen BK126.out 4; have hfz73_5 := blk_frozen BK126.out 5; have hfz73_6 := blk_frozen BK126.out 6; have hfz73_7 := blk_frozen BK126.out 7; have hfz73_8 := blk_frozen BK126.out 8; have hfz73_9 := blk_frozen BK126.out 9; obtain ⟨Ao74, co74, eo74⟩ := Kd.R_slice HO149.out; subst eo74) | ((with_reducible refine gate_callee (f := 24) rfl ?_); refine goesL_ (some 92) rfl rfl Try.func24 (by kernel_rfl) rfl #[.slice Ao74 t147.length co74, .int .u64 (IntKind.u64.wrap (a0_2)), .int .i64 4] rfl (by (try simp only [List.map_toArray, List.map_cons, List.map_nil]); first | done | rfl | (simp only [List.length_drop, List.length_take]; rfl)) ?_; (with_reducible refine (flocculusref21_num.calls kj57 (fun k_ => some k_ = (.slice Ao74 t147.length co74 : Value).ownBlock) (.slice Ao74 t147.length co74) t147 (IntKind.u64.wrap (a0_2)) 4 t150 w _ ?side1 ?side2 A69.out).mono ?_); (case side1 => repeat (first | (with_reducible first | exact HB.out | apply below_alloc | apply pw_below_drewN | apply below_drew1 | refine below_set ?_ GE126.out) | exact HB.out)); (case side2 => exact Kd.R_tight rfl HO149.out); rintro e w75 ⟨v151, rfl, ho0, hb, hkp⟩; refine ⟨_, rfl, ?_⟩; have n0_ := Aside0.mk (blk_kept (by (with_reducible repeat (first | refine blk_drewN ?_ _ | refine blk_drew ?_ | refine blk_alloc ?_ _)); exact BK126.out) hkp (fun hs_ => (fun e_ => (Kd.R_ne HO149.out BK126.out (by decide)) e_) hs_)); have n1_ := Aside0.mk (Kd.R_mono (ok' := fun k_ => True) ho0 (fun k_ hk_ => trivial)); have n2_ := Aside0.mk (hb); clear BK126; clear HB; clear HO149; have BK126 := n0_; have HO152 := n1_; have HB := n2_; clear n0_ n1_ n2_; (try clear hb); (try clear hkp); (try clear ho0)))
                        go_ret
                        exact ⟨_, by first | rfl | (simp [errW_none, errW_some] <;> rfl) | (simp [*, errW_none, errW_some] <;> rfl), by (with_reducible repeat (first | apply Kd.R_alloc | apply Kd.R_drewN | apply Kd.R_drew)); exact HO152.out, by repeat (first | (with_reducible first | exact HB.out | apply below_alloc | apply pw_below_drewN | apply below_drew1 | refine below_set ?_ GE126.out) | exact HB.out)⟩
                      · rw [if_neg c67] at H
                        have c67b0 : (a0_0 == 6) = false := beq_eq_false_iff_ne.mpr c67
                        have c67b1 : (a0_0 != 6) = true := bne_iff_ne.mpr c67
                        replace H := Option.bind_eq_some_iff.mp H
                        obtain ⟨t153, A760, H⟩ := H
                        replace H : (some t153) = some r := H
                        have A76 := Aside0.mk A760
                        clear A760
                        obtain rfl := Option.some.inj H
                        have hcz77_0 : wc.cell? ⟨gb126, 0, none⟩ = some (.int .i64 a0_0) := (blk_cell BK126.out 0).trans rfl
                        have hcz77_1 : wc.cell? ⟨gb126, 1, none⟩ = some (.int .i64 a0_1) := (blk_cell BK126.out 1).trans rfl
                        have hcz77_2 : wc.cell? ⟨gb126, 2, none⟩ = some (.int .i64 a0_2) := (blk_cell BK126.out 2).trans rfl
                        have hcz77_3 : wc.cell? ⟨gb126, 3, none⟩ = some (.int .u64 a0_3) := (blk_cell BK126.out 3).trans rfl
                        have hcz77_4 : wc.cell? ⟨gb126, 4, none⟩ = some (.int .u64 a0_4) := (blk_cell BK126.out 4).trans rfl
                        have hcz77_5 : wc.cell? ⟨gb126, 5, none⟩ = some (.int .i64 a0_5) := (blk_cell BK126.out 5).trans rfl
                        have hcz77_6 : wc.cell? ⟨gb126, 6, none⟩ = some (.int .u64 a0_6) := (blk_cell BK126.out 6).trans rfl
                        have hcz77_7 : wc.cell? ⟨gb126, 7, none⟩ = some (.int .u64 a0_7) := (blk_cell BK126.out 7).trans rfl
                        have hcz77_8 : wc.cell? ⟨gb126, 8, none⟩ = some (.int .u64 a0_8) := (blk_cell BK126.out 8).trans rfl
                        have hcz77_9 : wc.cell? ⟨gb126, 9, none⟩ = some (.slice A0_9 l0_9.length c0_9) := (blk_cell BK126.out 9).trans rfl
                        have hfz77_0 := blk_frozen BK126.out 0
                        have hfz77_1 := blk_frozen BK126.out 1
                        have hfz77_2 := blk_frozen BK126.out 2
                        have hfz77_3 := blk_frozen BK126.out 3
                        have hfz77_4 := blk_frozen BK126.out 4
                        have hfz77_5 := blk_frozen BK126.out 5
                        have hfz77_6 := blk_frozen BK126.out 6
                        have hfz77_7 := blk_frozen BK126.out 7
                        have hfz77_8 := blk_frozen BK126.out 8
                        have hfz77_9 := blk_frozen BK126.out 9
                        go_wp2_with (first | ((with_reducible refine gate_callee (f := 23) rfl ?_); refine goesL_ (some 79) rfl rfl Try.func23 (by kernel_rfl) rfl #[.int .i64 a0_2] rfl (by (try simp only [List.map_toArray, List.map_cons, List.map_nil]); first | done | rfl | (simp only [List.length_drop, List.length_take]; rfl)) ?_; (with_reducible refine (flocculusref21_fits.calls a0_2 true _ A65.out).mono ?_); rintro e w' ⟨rfl, ⟨nd, rfl⟩⟩; refine ⟨_, rfl, ?_⟩; obtain ⟨Ao78, co78, eo78⟩ := Kd.R_slice HO_3.out; subst eo78) | ((with_reducible refine gate_callee (f := 24) rfl ?_); refine goesL_ (some 92) rfl rfl Try.func24 (by kernel_rfl) rfl #[.slice Ao78 y127.length co78, .int .u64 (IntKind.u64.wrap (a0_2)), .int .i64 4] rfl (by (try simp only [List.map_toArray, List.map_cons, List.map_nil]); first | done | rfl | (simp only [List.length_drop, List.length_take]; rfl)) ?_; (with_reducible refine (flocculusref21_num.calls kj57 (fun k_ => some k_ = (.slice Ao78 y127.length co78 : Value).ownBlock) (.slice Ao78 y127.length co78) y127 (IntKind.u64.wrap (a0_2)) 4 t153 w _ ?side1 ?side2 A76.out).mono ?_); (case side1 => repeat (first | (with_reducible first | exact HB.out | apply below_alloc | apply pw_below_drewN | apply below_drew1 | refine below_set ?_ GE126.out) | exact HB.out)); (case side2 => exact Kd.R_tight rfl HO_3.out); rintro e w79 ⟨v154, rfl, ho0, hb, hkp⟩; refine ⟨_, rfl, ?_⟩; have n0_ := Aside0.mk (blk_kept (by (with_reducible repeat (first | refine blk_drewN ?_ _ | refine blk_drew ?_ | refine blk_alloc ?_ _)); exact BK126.out) hkp (fun hs_ => (fun e_ => (Kd.R_ne HO_3.out BK126.out (by decide)) e_) hs_)); have n1_ := Aside0.mk (Kd.R_mono (ok' := fun k_ => True) ho0 (fun k_ hk_ => trivial)); have n2_ := Aside0.mk (hb); clear BK126; clear HB; clear HO_3; have BK126 := n0_; have HO155 := n1_; have HB := n2_; clear n0_ n1_ n2_; (try clear hb); (try clear hkp); (try clear ho0)))
                        go_ret
                        exact ⟨_, by first | rfl | (simp [errW_none, errW_some] <;> rfl) | (simp [*, errW_none, errW_some] <;> rfl), by (with_reducible repeat (first | apply Kd.R_alloc | apply Kd.R_drewN | apply Kd.R_drew)); exact HO155.out, by repeat (first | (with_reducible first | exact HB.out | apply below_alloc | apply pw_below_drewN | apply below_drew1 | refine below_set ?_ GE126.out) | exact HB.out)⟩
                    · replace c66 := Bool.eq_false_iff.mpr c66
                      subst c66
                      have H1 : (some ([] : List Int)) = some r := by rw [if_neg (show ¬ (false = true) by decide)] at H; exact H
                      clear H
                      have H := H1
                      clear H1
                      obtain rfl := Option.some.inj H
                      have hcz80_0 : wc.cell? ⟨gb126, 0, none⟩ = some (.int .i64 a0_0) := (blk_cell BK126.out 0).trans rfl
                      have hcz80_1 : wc.cell? ⟨gb126, 1, none⟩ = some (.int .i64 a0_1) := (blk_cell BK126.out 1).trans rfl
                      have hcz80_2 : wc.cell? ⟨gb126, 2, none⟩ = some (.int .i64 a0_2) := (blk_cell BK126.out 2).trans rfl
                      have hcz80_3 : wc.cell? ⟨gb126, 3, none⟩ = some (.int .u64 a0_3) := (blk_cell BK126.out 3).trans rfl
                      have hcz80_4 : wc.cell? ⟨gb126, 4, none⟩ = some (.int .u64 a0_4) := (blk_cell BK126.out 4).trans rfl
                      have hcz80_5 : wc.cell? ⟨gb126, 5, none⟩ = some (.int .i64 a0_5) := (blk_cell BK126.out 5).trans rfl
                      have hcz80_6 : wc.cell? ⟨gb126, 6, none⟩ = some (.int .u64 a0_6) := (blk_cell BK126.out 6).trans rfl
                      have hcz80_7 : wc.cell? ⟨gb126, 7, none⟩ = some (.int .u64 a0_7) := (blk_cell BK126.out 7).trans rfl
                      have hcz80_8 : wc.cell? ⟨gb126, 8, none⟩ = some (.int .u64 a0_8) := (blk_cell BK126.out 8).trans rfl
                      have hcz80_9 : wc.cell? ⟨gb126, 9, none⟩ = some (.slice A0_9 l0_9.length c0_9) := (blk_cell BK126.out 9).trans rfl
                      have hfz80_0 := blk_frozen BK126.out 0
                      have hfz80_1 := blk_frozen BK126.out 1
                      have hfz80_2 := blk_frozen BK126.out 2
                      have hfz80_3 := blk_frozen BK126.out 3
                      have hfz80_4 := blk_frozen BK126.out 4
                      have hfz80_5 := blk_frozen BK126.out 5
                      have hfz80_6 := blk_frozen BK126.out 6
                      have hfz80_7 := blk_frozen BK126.out 7
                      have hfz80_8 := blk_frozen BK126.out 8
                      have hfz80_9 := blk_frozen BK126.out 9
                      go_wp2_with (first | ((with_reducible refine gate_callee (f := 23) rfl ?_); refine goesL_ (some 79) rfl rfl Try.func23 (by kernel_rfl) rfl #[.int .i64 a0_2] rfl (by (try simp only [List.map_toArray, List.map_cons, List.map_nil]); first | done | rfl | (simp only [List.length_drop, List.length_take]; rfl)) ?_; (with_reducible refine (flocculusref21_fits.calls a0_2 false _ A65.out).mono ?_); rintro e w' ⟨rfl, ⟨nd, rfl⟩⟩; refine ⟨_, rfl, ?_⟩))
                      go_ret
                      exact ⟨_, by first | rfl | (simp [errW_none, errW_some] <;> rfl) | (simp [*, errW_none, errW_some] <;> rfl), by first | exact Kd.R_nil _ _ _ _ _ | exact Kd.N_nil _ _ _ _ _ | exact Kd.V_nil _ _ _ _ _ | exact Kd.Q_nil _ _ _ _ _ | exact Kd.S_nil _ _ _ _ _, by repeat (first | (with_reducible first | exact HB.out | apply below_alloc | apply pw_below_drewN | apply below_drew1 | refine below_set ?_ GE126.out) | exact HB.out)⟩
                  · replace c64 := Bool.eq_false_iff.mpr c64
                    subst c64
                    have H1 : (if a0_0 = 7 then (if (l0_9.length : Int) > 20 then (some ([] : List Int)) else (if y127.length < 140737488355328 then (flocculusref21_CommandBytes.l0 kj57 (y127 ++ [((l0_9.length : Int)) % 256]) 0 a0_0 a0_1 a0_2 a0_3 a0_4 a0_5 a0_6 a0_7 a0_8 l0_9) else (none))) else (some y127)) = some r := by rw [if_neg (show ¬ (false = true) by decide)] at H; exact H
                    clear H
                    have H := H1
                    clear H1
                    by_cases c81 : a0_0 = 7
                    · rw [if_pos c81] at H
                      have c81b0 : (a0_0 == 7) = true := beq_iff_eq.mpr c81
                      have c81b1 : (a0_0 != 7) = false := bne_eq_false_iff_eq.mpr c81
                      clear c81
                      by_cases c82 : (l0_9.length : Int) > 20
                      · rw [if_pos c82] at H
                        have c82b0 : decide (20 < (l0_9.length : Int)) = true := decide_eq_true c82
                        have c82b1 : decide (20 < l0_9.length) = true := decide_eq_true (by omega)
                        clear c82
                        obtain rfl := Option.some.inj H
                        have hcz83_0 : wc.cell? ⟨gb126, 0, none⟩ = some (.int .i64 a0_0) := (blk_cell BK126.out 0).trans rfl
                        have hcz83_1 : wc.cell? ⟨gb126, 1, none⟩ = some (.int .i64 a0_1) := (blk_cell BK126.out 1).trans rfl
                        have hcz83_2 : wc.cell? ⟨gb126, 2, none⟩ = some (.int .i64 a0_2) := (blk_cell BK126.out 2).trans rfl
                        have hcz83_3 : wc.cell? ⟨gb126, 3, none⟩ = some (.int .u64 a0_3) := (blk_cell BK126.out 3).trans rfl
                        have hcz83_4 : wc.cell? ⟨gb126, 4, none⟩ = some (.int .u64 a0_4) := (blk_cell BK126.out 4).trans rfl
                        have hcz83_5 : wc.cell? ⟨gb126, 5, none⟩ = some (.int .i64 a0_5) := (blk_cell BK126.out 5).trans rfl
                        have hcz83_6 : wc.cell? ⟨gb126, 6, none⟩ = some (.int .u64 a0_6) := (blk_cell BK126.out 6).trans rfl
                        have hcz83_7 : wc.cell? ⟨gb126, 7, none⟩ = some (.int .u64 a0_7) := (blk_cell BK126.out 7).trans rfl
                        have hcz83_8 : wc.cell? ⟨gb126, 8, none⟩ = some (.int .u64 a0_8) := (blk_cell BK126.out 8).trans rfl
                        have hcz83_9 : wc.cell? ⟨gb126, 9, none⟩ = some (.slice A0_9 l0_9.length c0_9) := (blk_cell BK126.out 9).trans rfl
                        have hfz83_0 := blk_frozen BK126.out 0
                        have hfz83_1 := blk_frozen BK126.out 1
                        have hfz83_2 := blk_frozen BK126.out 2
                        have hfz83_3 := blk_frozen BK126.out 3
                        have hfz83_4 := blk_frozen BK126.out 4
                        have hfz83_5 := blk_frozen BK126.out 5
                        have hfz83_6 := blk_frozen BK126.out 6
                        have hfz83_7 := blk_frozen BK126.out 7
                        have hfz83_8 := blk_frozen BK126.out 8
                        have hfz83_9 := blk_frozen BK126.out 9
                        go_wp2
                        go_ret
                        exact ⟨_, by first | rfl | (simp [errW_none, errW_some] <;> rfl) | (simp [*, errW_none, errW_some] <;> rfl), by first | exact Kd.R_nil _ _ _ _ _ | exact Kd.N_nil _ _ _ _ _ | exact Kd.V_nil _ _ _ _ _ | exact Kd.Q_nil _ _ _ _ _ | exact Kd.S_nil _ _ _ _ _, by repeat (first | (with_reducible first | exact HB.out | apply below_alloc | apply pw_below_drewN | apply below_drew1 | refine below_set ?_ GE126.out) | exact HB.out)⟩
                      · rw [if_neg c82] at H
                        have c82b0 : decide (20 < (l0_9.length : Int)) = false := decide_eq_false c82
                        have c82b1 : decide (20 < l0_9.length) = false := decide_eq_false (by omega)
                        clear c82
                        by_cases c84 : y127.length < 140737488355328
                        · rw [if_pos c84] at H
                          have LMc84 := Aside0.mk c84
                          clear c84
                          obtain ⟨y156, hy156⟩ : ∃ y_ : List Int, y_ = (y127 ++ [((l0_9.length : Int)) % 256]) := ⟨_, rfl⟩
                          replace H : (flocculusref21_CommandBytes.l0 kj57 y156 0 a0_0 a0_1 a0_2 a0_3 a0_4 a0_5 a0_6 a0_7 a0_8 l0_9) = some r := by first | (rw [hy156]; with_reducible exact H) | (have H2_ := (Option.bind_some _ _).symm.trans H; rw [hy156]; with_reducible exact H2_) | (have H2_ := (Option.bind_some _ _).symm.trans H; with_reducible exact H2_) | with_reducible exact H | (rw [hy156]; exact H) | exact H
                          have Ny156 := Aside0.mk hy156
                          clear hy156
                          have H' := Aside0.mk H
                          clear H
                          have hcz85_0 : wc.cell? ⟨gb126, 0, none⟩ = some (.int .i64 a0_0) := (blk_cell BK126.out 0).trans rfl
                          have hcz85_1 : wc.cell? ⟨gb126, 1, none⟩ = some (.int .i64 a0_1) := (blk_cell BK126.out 1).trans rfl
                          have hcz85_2 : wc.cell? ⟨gb126, 2, none⟩ = some (.int .i64 a0_2) := (blk_cell BK126.out 2).trans rfl
                          have hcz85_3 : wc.cell? ⟨gb126, 3, none⟩ = some (.int .u64 a0_3) := (blk_cell BK126.out 3).trans rfl
                          have hcz85_4 : wc.cell? ⟨gb126, 4, none⟩ = some (.int .u64 a0_4) := (blk_cell BK126.out 4).trans rfl
                          have hcz85_5 : wc.cell? ⟨gb126, 5, none⟩ = some (.int .i64 a0_5) := (blk_cell BK126.out 5).trans rfl
                          have hcz85_6 : wc.cell? ⟨gb126, 6, none⟩ = some (.int .u64 a0_6) := (blk_cell BK126.out 6).trans rfl
                          have hcz85_7 : wc.cell? ⟨gb126, 7, none⟩ = some (.int .u64 a0_7) := (blk_cell BK126.out 7).trans rfl
                          have hcz85_8 : wc.cell? ⟨gb126, 8, none⟩ = some (.int .u64 a0_8) := (blk_cell BK126.out 8).trans rfl
                          have hcz85_9 : wc.cell? ⟨gb126, 9, none⟩ = some (.slice A0_9 l0_9.length c0_9) := (blk_cell BK126.out 9).trans rfl
                          have hfz85_0 := blk_frozen BK126.out 0
                          have hfz85_1 := blk_frozen BK126.out 1
                          have hfz85_2 := blk_frozen BK126.out 2
                          have hfz85_3 := blk_frozen BK126.out 3
                          have hfz85_4 := blk_frozen BK126.out 4
                          have hfz85_5 := blk_frozen BK126.out 5
                          have hfz85_6 := blk_frozen BK126.out 6
                          have hfz85_7 := blk_frozen BK126.out 7
                          have hfz85_8 := blk_frozen BK126.out 8
                          have hfz85_9 := blk_frozen BK126.out 9
                          go_wp2_with (first | ((with_reducible refine gate_builtin (b := .append) (xs := #[.tmp 99, .tmp 104]) rfl ?_); at_builtin; refine Kd.R_append (Kd.int .u8) (w0 := w) w.heap.size rfl (.tmp 99) (.tmp 104) 30 5 (.int .u8 0) 1 rfl Try.underlying30 info5 rfl (by decide) (by omega) v128 y127 (((l0_9.length : Int)) % 256) [.int .u8 (((l0_9.length : Int)) % 256)] (fun _ => True) (fun _ => False) rfl rfl ?aP (fun _ hk => hk.elim) ?aF ?aO ?aB ?aS ?aL ?_; (case aP => exact rfl); (case aB => exact (by repeat (first | (with_reducible first | exact HB.out | apply below_alloc | apply pw_below_drewN | apply below_drew1 | refine below_set ?_ GE126.out) | exact HB.out))); (case aF => exact (fun _ _ => trivial)); (case aO => exact (by (with_reducible repeat (first | apply Kd.R_alloc | apply Kd.R_drewN | apply Kd.R_drew)); exact HO_3.out)); (case aS => exact (below_size (by repeat (first | (with_reducible first | exact HB.out | apply below_alloc | apply pw_below_drewN | apply below_drew1 | refine below_set ?_ GE126.out) | exact HB.out)))); (case aL => have := LMc84.out; omega); intro v157 w86 ho hb hg hat; rw [← Ny156.out] at ho; have n0_ := Aside0.mk (blk_grown (g := gb126) (o := .cells #[.int .i64 a0_0, .int .i64 a0_1, .int .i64 a0_2, .int .u64 a0_3, .int .u64 a0_4, .int .i64 a0_5, .int .u64 a0_6, .int .u64 a0_7, .int .u64 a0_8, .slice A0_9 l0_9.length c0_9] 29 (0, 0)) (by (with_reducible repeat (first | refine blk_drewN ?_ _ | refine blk_drew ?_ | refine blk_alloc ?_ _)); exact BK126.out) hg (Kd.R_ne HO_3.out BK126.out (by decide))); have n1_ := Aside0.mk (hb); have n2_ := Aside0.mk (ho); clear BK126; clear HB; clear HO_3; have BK126 := n0_; have HB := n1_; have HO158 := n2_; clear n0_ n1_ n2_; clear ho hb hg hat))
                          go_loopg [3, 4] kj57 (fun kq v3 v4 w' => ∃ (x3_3 : List Int) (x4_3 : Int), v4 = .int .i64 x4_3 ∧ Aside0 (flocculusref21_CommandBytes.l0 kq x3_3 x4_3 a0_0 a0_1 a0_2 a0_3 a0_4 a0_5 a0_6 a0_7 a0_8 l0_9 = some r) ∧ Aside0 (kq ≤ kj57) ∧ Aside0 (Kd.R (Kd.int .u8) 5 w' w.heap.size (fun _ => True) v3 x3_3) ∧ Aside0 (w'.heap[gb126]? = some (.cells #[.int .i64 a0_0, .int .i64 a0_1, .int .i64 a0_2, .int .u64 a0_3, .int .u64 a0_4, .int .i64 a0_5, .int .u64 a0_6, .int .u64 a0_7, .int .u64 a0_8, (.slice A0_9 l0_9.length c0_9)] 29 (0, 0))) ∧ Aside0 (Below w.heap.size w w'))
                          case atStart => exact ⟨(y156), (0), (by first | rfl | (simp; done) | (simp [*]; done)), H', ⟨Nat.le_refl _⟩, ⟨by (with_reducible repeat (first | apply Kd.R_alloc | apply Kd.R_drewN | apply Kd.R_drew)); exact HO158.out⟩, ⟨by (with_reducible repeat (first | refine blk_drewN ?_ _ | refine blk_drew ?_ | refine blk_alloc ?_ _)); exact BK126.out⟩, ⟨by repeat (first | (with_reducible first | exact HB.out | apply below_alloc | apply pw_below_drewN | apply below_drew1 | refine below_set ?_ GE126.out) | exact HB.out)⟩⟩
                          case round =>
                            clear H'
                            try clear c2
                            try clear p2
                            try clear c3
                            try clear c4
                            try clear c6
                            try clear c8
                            try clear c8b0
                            try clear c8b1
                            try clear c20
                            try clear c23
                            try clear c24
                            try clear c25
                            try clear c28
                            try clear c28b0
                            try clear c28b1
                            try clear c29
                            try clear c29b0
                            try clear c34
                            try clear c34b0
                            try clear c46
                            try clear c46b0
                            try clear c46b1
                            try clear c63
                            try clear c63b0
                            try clear c63b1
                            try clear c64
                            try clear c66
                            try clear c67
                            try clear c67b0
                            try clear c67b1
                            try clear c81
                            try clear c81b0
                            try clear c81b1
                            try clear c82
                            try clear c82b0
                            try clear c82b1
                            try clear c84
                            try clear hcz17_6
                            try clear hcz17_7
                            try clear hcz17_8
                            try clear hcz17_9
                            try clear hcz19_0
                            try clear hcz19_1
                            try clear hcz19_2
                            try clear hcz19_3
                            try clear hcz19_4
                            try clear hcz19_5
                            try clear hcz19_6
                            try clear hcz19_7
                            try clear hcz19_8
                            try clear hcz19_9
                            try clear hcz30_0
                            try clear hcz30_1
                            try clear hcz30_2
                            try clear hcz30_3
                            try clear hcz30_4
                            try clear hcz30_5
                            try clear hcz30_6
                            try clear hcz30_7
                            try clear hcz30_8
                            try clear hcz30_9
                            try clear hcz33_0
                            try clear hcz33_1
                            try clear hcz33_2
                            try clear hcz33_3
                            try clear hcz33_4
                            try clear hcz33_5
                            try clear hcz33_6
                            try clear hcz33_7
                            try clear hcz33_8
                            try clear hcz33_9
                            try clear hcz35_0
                            try clear hcz35_1
                            try clear hcz35_2
                            try clear hcz35_3
                            try clear hcz35_4
                            try clear hcz35_5
                            try clear hcz35_6
                            try clear hcz35_7
                            try clear hcz35_8
                            try clear hcz35_9
                            try clear hcz38_0
                            try clear hcz38_1
                            try clear hcz38_2
                            try clear hcz38_3
                            try clear hcz38_4
                            try clear hcz38_5
                            try clear hcz38_6
                            try clear hcz38_7
                            try clear hcz38_8
                            try clear hcz38_9
                            try clear hcz40_0
                            try clear hcz40_1
                            try clear hcz40_2
                            try clear hcz40_3
                            try clear hcz40_4
                            try clear hcz40_5
                            try clear hcz40_6
                            try clear hcz40_7
                            try clear hcz40_8
                            try clear hcz40_9
                            try clear hcz43_0
                            try clear hcz43_1
                            try clear hcz43_2
                            try clear hcz43_3
                            try clear hcz43_4
                            try clear hcz43_5
                            try clear hcz43_6
                            try clear hcz43_7
                            try clear hcz43_8
                            try clear hcz43_9
                            try clear hcz49_0
                            try clear hcz49_1
                            try clear hcz49_2
                            try clear hcz49_3
                            try clear hcz49_4
                            try clear hcz49_5
                            try clear hcz49_6
                            try clear hcz49_7
                            try clear hcz49_8
                            try clear hcz49_9
                            try clear hcz52_0
                            try clear hcz52_1
                            try clear hcz52_2
                            try clear hcz52_3
                            try clear hcz52_4
                            try clear hcz52_5
                            try clear hcz52_6
                            try clear hcz52_7
                            try clear hcz52_8
                            try clear hcz52_9
                            try clear hcz59_0
                            try clear hcz59_1
                            try clear hcz59_2
                            try clear hcz59_3
                            try clear hcz59_4
                            try clear hcz59_5
                            try clear hcz59_6
                            try clear hcz59_7
                            try clear hcz59_8
                            try clear hcz59_9
                            try clear hcz5_0
                            try clear hcz5_1
                            try clear hcz5_2
                            try clear hcz5_3
                            try clear hcz5_4
                            try clear hcz5_5
                            try clear hcz5_6
                            try clear hcz5_7
                            try clear hcz5_8
                            try clear hcz5_9
                            try clear hcz62_0
                            try clear hcz62_1
                            try clear hcz62_2
                            try clear hcz62_3
                            try clear hcz62_4
                            try clear hcz62_5
                            try clear hcz62_6
                            try clear hcz62_7
                            try clear hcz62_8
                            try clear hcz62_9
                            try clear hcz6_0
                            try clear hcz6_1
                            try clear hcz6_2
                            try clear hcz6_3
                            try clear hcz6_4
                            try clear hcz6_5
                            try clear hcz6_6
                            try clear hcz6_7
                            try clear hcz6_8
                            try clear hcz6_9
                            try clear hcz70_0
                            try clear hcz70_1
                            try clear hcz70_2
                            try clear hcz70_3
                            try clear hcz70_4
                            try clear hcz70_5
                            try clear hcz70_6
                            try clear hcz70_7
                            try clear hcz70_8
                            try clear hcz70_9
                            try clear hcz73_0
                            try clear hcz73_1
                            try clear hcz73_2
                            try clear hcz73_3
                            try clear hcz73_4
                            try clear hcz73_5
                            try clear hcz73_6
                            try clear hcz73_7
                            try clear hcz73_8
                            try clear hcz73_9
                            try clear hcz77_0
                            try clear hcz77_1
                            try clear hcz77_2
                            try clear hcz77_3
                            try clear hcz77_4
                            try clear hcz77_5
                            try clear hcz77_6
                            try clear hcz77_7
                            try clear hcz77_8
                            try clear hcz77_9
                            try clear hcz80_0
                            try clear hcz80_1
                            try clear hcz80_2
                            try clear hcz80_3
                            try clear hcz80_4
                            try clear hcz80_5
                            try clear hcz80_6
                            try clear hcz80_7
                            try clear hcz80_8
                            try clear hcz80_9
                            try clear hcz83_0
                            try clear hcz83_1
                            try clear hcz83_2
                            try clear hcz83_3
                            try clear hcz83_4
                            try clear hcz83_5
                            try clear hcz83_6
                            try clear hcz83_7
                            try clear hcz83_8
                            try clear hcz83_9
                            try clear hcz85_0
                            try clear hcz85_1
                            try clear hcz85_2
                            try clear hcz85_3
                            try clear hcz85_4
                            try clear hcz85_5
                            try clear hcz85_6
                            try clear hcz85_7
                            try clear hcz85_8
                            try clear hcz85_9
                            try clear hfz10_0
                            try clear hfz10_1
                            try clear hfz10_2
                            try clear hfz10_3
                            try clear hfz10_4
                            try clear hfz10_5
                            try clear hfz10_6
                            try clear hfz10_7
                            try clear hfz10_8
                            try clear hfz10_9
                            try clear hfz13_0
                            try clear hfz13_1
                            try clear hfz13_2
                            try clear hfz13_3
                            try clear hfz13_4
                            try clear hfz13_5
                            try clear hfz13_6
                            try clear hfz13_7
                            try clear hfz13_8
                            try clear hfz13_9
                            try clear hfz15_0
                            try clear hfz15_1
                            try clear hfz15_2
                            try clear hfz15_3
                            try clear hfz15_4
                            try clear hfz15_5
                            try clear hfz15_6
                            try clear hfz15_7
                            try clear hfz15_8
                            try clear hfz15_9
                            try clear hfz17_0
                            try clear hfz17_1
                            try clear hfz17_2
                            try clear hfz17_3
                            try clear hfz17_4
                            try clear hfz17_5
                            try clear hfz17_6
                            try clear hfz17_7
                            try clear hfz17_8
                            try clear hfz17_9
                            try clear hfz19_0
                            try clear hfz19_1
                            try clear hfz19_2
                            try clear hfz19_3
                            try clear hfz19_4
                            try clear hfz19_5
                            try clear hfz19_6
                            try clear hfz19_7
                            try clear hfz19_8
                            try clear hfz19_9
                            try clear hfz30_0
                            try clear hfz30_1
                            try clear hfz30_2
                            try clear hfz30_3
                            try clear hfz30_4
                            try clear hfz30_5
                            try clear hfz30_6
                            try clear hfz30_7
                            try clear hfz30_8
                            try clear hfz30_9
                            try clear hfz33_0
                            try clear hfz33_1
                            try clear hfz33_2
                            try clear hfz33_3
                            try clear hfz33_4
                            try clear hfz33_5
                            try clear hfz33_6
                            try clear hfz33_7
                            try clear hfz33_8
                            try clear hfz33_9
                            try clear hfz35_0
                            try clear hfz35_1
                            try clear hfz35_2
                            try clear hfz35_3
                            try clear hfz35_4
                            try clear hfz35_5
                            try clear hfz35_6
                            try clear hfz35_7
                            try clear hfz35_8
                            try clear hfz35_9
                            try clear hfz38_0
                            try clear hfz38_1
                            try clear hfz38_2
                            try clear hfz38_3
                            try clear hfz38_4
                            try clear hfz38_5
                            try clear hfz38_6
                            try clear hfz38_7
                            try clear hfz38_8
                            try clear hfz38_9
                            try clear hfz40_0
                            try clear hfz40_1
                            try clear hfz40_2
                            try clear hfz40_3
                            try clear hfz40_4
                            try clear hfz40_5
                            try clear hfz40_6
                            try clear hfz40_7
                            try clear hfz40_8
                            try clear hfz40_9
                            try clear hfz43_0
                            try clear hfz43_1
                            try clear hfz43_2
                            try clear hfz43_3
                            try clear hfz43_4
                            try clear hfz43_5
                            try clear hfz43_6
                            try clear hfz43_7
                            try clear hfz43_8
                            try clear hfz43_9
                            try clear hfz49_0
                            try clear hfz49_1
                            try clear hfz49_2
                            try clear hfz49_3
                            try clear hfz49_4
                            try clear hfz49_5
                            try clear hfz49_6
                            try clear hfz49_7
                            try clear hfz49_8
                            try clear hfz49_9
                            try clear hfz52_0
                            try clear hfz52_1
                            try clear hfz52_2
                            try clear hfz52_3
                            try clear hfz52_4
                            try clear hfz52_5
                            try clear hfz52_6
                            try clear hfz52_7
                            try clear hfz52_8
                            try clear hfz52_9
                            try clear hfz59_0
                            try clear hfz59_1
                            try clear hfz59_2
                            try clear hfz59_3
                            try clear hfz59_4
                            try clear hfz59_5
                            try clear hfz59_6
                            try clear hfz59_7
                            try clear hfz59_8
                            try clear hfz59_9
                            try clear hfz5_0
                            try clear hfz5_1
                            try clear hfz5_2
                            try clear hfz5_3
                            try clear hfz5_4
                            try clear hfz5_5
                            try clear hfz5_6
                            try clear hfz5_7
                            try clear hfz5_8
                            try clear hfz5_9
                            try clear hfz62_0
                            try clear hfz62_1
                            try clear hfz62_2
                            try clear hfz62_3
                            try clear hfz62_4
                            try clear hfz62_5
                            try clear hfz62_6
                            try clear hfz62_7
                            try clear hfz62_8
                            try clear hfz62_9
                            try clear hfz6_0
                            try clear hfz6_1
                            try clear hfz6_2
                            try clear hfz6_3
                            try clear hfz6_4
                            try clear hfz6_5
                            try clear hfz6_6
                            try clear hfz6_7
                            try clear hfz6_8
                            try clear hfz6_9
                            try clear hfz70_0
                            try clear hfz70_1
                            try clear hfz70_2
                            try clear hfz70_3
                            try clear hfz70_4
                            try clear hfz70_5
                            try clear hfz70_6
                            try clear hfz70_7
                            try clear hfz70_8
                            try clear hfz70_9
                            try clear hfz73_0
                            try clear hfz73_1
                            try clear hfz73_2
                            try clear hfz73_3
                            try clear hfz73_4
                            try clear hfz73_5
                            try clear hfz73_6
                            try clear hfz73_7
                            try clear hfz73_8
                            try clear hfz73_9
                            try clear hfz77_0
                            try clear hfz77_1
                            try clear hfz77_2
                            try clear hfz77_3
                            try clear hfz77_4
                            try clear hfz77_5
                            try clear hfz77_6
                            try clear hfz77_7
                            try clear hfz77_8
                            try clear hfz77_9
                            try clear hfz80_0
                            try clear hfz80_1
                            try clear hfz80_2
                            try clear hfz80_3
                            try clear hfz80_4
                            try clear hfz80_5
                            try clear hfz80_6
                            try clear hfz80_7
                            try clear hfz80_8
                            try clear hfz80_9
                            try clear hfz83_0
                            try clear hfz83_1
                            try clear hfz83_2
                            try clear hfz83_3
                            try clear hfz83_4
                            try clear hfz83_5
                            try clear hfz83_6
                            try clear hfz83_7
                            try clear hfz83_8
                            try clear hfz83_9
                            try clear hfz85_0
                            try clear hfz85_1
                            try clear hfz85_2
                            try clear hfz85_3
                            try clear hfz85_4
                            try clear hfz85_5
                            try clear hfz85_6
                            try clear hfz85_7
                            try clear hfz85_8
                            try clear hfz85_9
                            try clear p2
                            obtain ⟨x3_3, x4_3, rfl, HA, HK3, HO_3, BK126, HB⟩ := hrel
                            cases gk with
                            | zero => exact absurd HA.out (by simp [flocculusref21_CommandBytes.l0])
                            | succ k3 =>
                              have H := HA.out
                              clear HA
                              simp only [flocculusref21_CommandBytes.l0] at H
                              by_cases c87 : x4_3 < (l0_9.length : Int)
                              · rw [if_pos c87] at H
                                have c87b0 : decide (x4_3 < (l0_9.length : Int)) = true := decide_eq_true c87
                                clear c87
                                by_cases c88 : 0 ≤ x4_3
                                · rw [if_pos c88] at H
                                  have c88b0 : decide (0 ≤ x4_3) = true := decide_eq_true c88
                                  clear c88
                                  have HC89 := Aside0.mk H
                                  clear H
                                  have hcz90_0 : wr.cell? ⟨gb126, 0, none⟩ = some (.int .i64 a0_0) := (blk_cell BK126.out 0).trans rfl
                                  have hcz90_1 : wr.cell? ⟨gb126, 1, none⟩ = some (.int .i64 a0_1) := (blk_cell BK126.out 1).trans rfl
                                  have hcz90_2 : wr.cell? ⟨gb126, 2, none⟩ = some (.int .i64 a0_2) := (blk_cell BK126.out 2).trans rfl
                                  have hcz90_3 : wr.cell? ⟨gb126, 3, none⟩ = some (.int .u64 a0_3) := (blk_cell BK126.out 3).trans rfl
                                  have hcz90_4 : wr.cell? ⟨gb126, 4, none⟩ = some (.int .u64 a0_4) := (blk_cell BK126.out 4).trans rfl
                                  have hcz90_5 : wr.cell? ⟨gb126, 5, none⟩ = some (.int .i64 a0_5) := (blk_cell BK126.out 5).trans rfl
                                  have hcz90_6 : wr.cell? ⟨gb126, 6, none⟩ = some (.int .u64 a0_6) := (blk_cell BK126.out 6).trans rfl
                                  have hcz90_7 : wr.cell? ⟨gb126, 7, none⟩ = some (.int .u64 a0_7) := (blk_cell BK126.out 7).trans rfl
                                  have hcz90_8 : wr.cell? ⟨gb126, 8, none⟩ = some (.int .u64 a0_8) := (blk_cell BK126.out 8).trans rfl
                                  have hcz90_9 : wr.cell? ⟨gb126, 9, none⟩ = some (.slice A0_9 l0_9.length c0_9) := (blk_cell BK126.out 9).trans rfl
                                  have hfz90_0 := blk_frozen BK126.out 0
                                  have hfz90_1 := blk_frozen BK126.out 1
                                  have hfz90_2 := blk_frozen BK126.out 2
                                  have hfz90_3 := blk_frozen BK126.out 3
                                  have hfz90_4 := blk_frozen BK126.out 4
                                  have hfz90_5 := blk_frozen BK126.out 5
                                  have hfz90_6 := blk_frozen BK126.out 6
                                  have hfz90_7 := blk_frozen BK126.out 7
                                  have hfz90_8 := blk_frozen BK126.out 8
                                  have hfz90_9 := blk_frozen BK126.out 9
                                  have p159 : 0 ≤ (x4_3 : Int) := of_decide_eq_true (by first | (with_reducible assumption) | assumption)
                                  have q159 : x4_3 < (l0_9.length : Int) := of_decide_eq_true (by first | (with_reducible assumption) | assumption)
                                  obtain ⟨ad159, A159_9, c159_9, e159, hx159_0, hx159_1, hx159_2, hx159_3, hx159_4, hx159_5, hx159_6, hx159_7, hx159_8, hx159_9, hl159_9, hi159_9⟩ := at_T29 HR0_9.out x4_3 p159 q159
                                  cases e159
                                  replace hx159_0 := (HB.out.cell (World.block_lt_of_cell? w _ hx159_0)).trans hx159_0
                                  replace hx159_1 := (HB.out.cell (World.block_lt_of_cell? w _ hx159_1)).trans hx159_1
                                  replace hx159_2 := (HB.out.cell (World.block_lt_of_cell? w _ hx159_2)).trans hx159_2
                                  replace hx159_3 := (HB.out.cell (World.block_lt_of_cell? w _ hx159_3)).trans hx159_3
                                  replace hx159_4 := (HB.out.cell (World.block_lt_of_cell? w _ hx159_4)).trans hx159_4
                                  replace hx159_5 := (HB.out.cell (World.block_lt_of_cell? w _ hx159_5)).trans hx159_5
                                  replace hx159_6 := (HB.out.cell (World.block_lt_of_cell? w _ hx159_6)).trans hx159_6
                                  replace hx159_7 := (HB.out.cell (World.block_lt_of_cell? w _ hx159_7)).trans hx159_7
                                  replace hx159_8 := (HB.out.cell (World.block_lt_of_cell? w _ hx159_8)).trans hx159_8
                                  replace hx159_9 := (HB.out.cell (World.block_lt_of_cell? w _ hx159_9)).trans hx159_9
                                  have HR159_9 := Aside0.mk hi159_9
                                  have HC159_9 := Aside0.mk hl159_9
                                  clear hi159_9 hl159_9
                                  replace p159 := eq_true p159
                                  replace q159 := eq_true q159
                                  go_upto_region 30 with (fail)
                                  go_cut [124] (fun v124 wc => ∃ (kq : Nat) (x124_88 : Bool), v124 = .bool x124_88 ∧ Aside0 (flocculusref21_CommandBytes.j4 kq x3_3 x4_3 x124_88 a0_0 a0_1 a0_2 a0_3 a0_4 a0_5 a0_6 a0_7 a0_8 l0_9 = some r) ∧ Aside0 (kq ≤ k3) ∧ Aside0 (Kd.R (Kd.int .u8) 5 wc w.heap.size (fun _ => True) u3 x3_3) ∧ Aside0 (wc.heap[gb126]? = some (.cells #[.int .i64 a0_0, .int .i64 a0_1, .int .i64 a0_2, .int .u64 a0_3, .int .u64 a0_4, .int .i64 a0_5, .int .u64 a0_6, .int .u64 a0_7, .int .u64 a0_8, (.slice (some ad159) l0_9.length c0_9)] 29 (0, 0))) ∧ Aside0 (Below w.heap.size w wc))
                                  case first =>
                                    have H := HC89.out
                                    clear HC89
                                    by_cases c91 : ((rd_T29 l0_9 x4_3).f0) = 1
                                    · rw [if_pos c91] at H
                                      have c91b0 : (((rd_T29 l0_9 x4_3).f0) == 1) = true := beq_iff_eq.mpr c91
                                      have c91b1 : (((rd_T29 l0_9 x4_3).f0) != 1) = false := bne_eq_false_iff_eq.mpr c91
                                      clear c91
                                      (first | rw [c91b0] | (simp only [i64_w, i32_w]; rw [c91b0]) | skip)
                                      have H' := Aside0.mk H
                                      clear H
                                      go_wp2
                                      go_meet
                                      case rel => exact ⟨_, (false), (by first | rfl | (simp; done) | (simp [*]; done)), H', ⟨by have := HJ1.out; have := HJ57.out; have := HK3.out; first | omega | exact Nat.le_refl _⟩, ⟨by (with_reducible repeat (first | apply Kd.R_alloc | apply Kd.R_drewN | apply Kd.R_drew)); exact HO_3.out⟩, ⟨by (with_reducible repeat (first | refine blk_drewN ?_ _ | refine blk_drew ?_ | refine blk_alloc ?_ _)); exact BK126.out⟩, ⟨by repeat (first | (with_reducible first | exact HB.out | apply below_alloc | apply pw_below_drewN | apply below_drew1 | refine below_set ?_ GE126.out) | exact HB.out)⟩⟩
                                    · rw [if_neg c91] at H
                                      have c91b0 : (((rd_T29 l0_9 x4_3).f0) == 1) = false := beq_eq_false_iff_ne.mpr c91
                                      have c91b1 : (((rd_T29 l0_9 x4_3).f0) != 1) = true := bne_iff_ne.mpr c91
                                      (first | rw [c91b0] | (simp only [i64_w, i32_w]; rw [c91b0]) | skip)
                                      have H' := Aside0.mk H
                                      clear H
                                      go_wp2
                                      go_meet
                                      case rel => exact ⟨_, ((((rd_T29 l0_9 x4_3).f0) != 2)), (by first | rfl | (simp; done) | (simp [*]; done)), H', ⟨by have := HJ1.out; have := HJ57.out; have := HK3.out; first | omega | exact Nat.le_refl _⟩, ⟨by (with_reducible repeat (first | apply Kd.R_alloc | apply Kd.R_drewN | apply Kd.R_drew)); exact HO_3.out⟩, ⟨by (with_reducible repeat (first | refine blk_drewN ?_ _ | refine blk_drew ?_ | refine blk_alloc ?_ _)); exact BK126.out⟩, ⟨by repeat (first | (with_reducible first | exact HB.out | apply below_alloc | apply pw_below_drewN | apply below_drew1 | refine below_set ?_ GE126.out) | exact HB.out)⟩⟩
                                  case rest =>
                                    clear HC89
                                    try clear c1
                                    try clear p1
                                    try clear q1
                                    try clear hx1
                                    try clear c2
                                    try clear p2
                                    try clear c3
                                    try clear c4
                                    try clear c6
                                    try clear c8
                                    try clear c8b0
                                    try clear c8b1
                                    try clear c9
                                    try clear c15
                                    try clear p15
                                    try clear q15
                                    try clear hx15
                                    try clear c20
                                    try clear c23
                                    try clear c24
                                    try clear c25
                                    try clear c28
                                    try clear c28b0
                                    try clear c28b1
                                    try clear c29
                                    try clear c29b0
                                    try clear c34
                                    try clear c34b0
                                    try clear c46
                                    try clear c46b0
                                    try clear c46b1
                                    try clear c63
                                    try clear c63b0
                                    try clear c63b1
                                    try clear c64
                                    try clear c66
                                    try clear c67
                                    try clear c67b0
                                    try clear c67b1
                                    try clear c81
                                    try clear c81b0
                                    try clear c81b1
                                    try clear c82
                                    try clear c82b0
                                    try clear c82b1
                                    try clear c84
                                    try clear c87
                                    try clear c87b0
                                    try clear c88
                                    try clear c88b0
                                    try clear c91
                                    try clear c91b0
                                    try clear c91b1
                                    try clear hcz17_6
                                    try clear hcz17_7
                                    try clear hcz17_8
                                    try clear hcz17_9
                                    try clear hcz19_0
                                    try clear hcz19_1
                                    try clear hcz19_2
                                    try clear hcz19_3
                                    try clear hcz19_4
                                    try clear hcz19_5
                                    try clear hcz19_6
                                    try clear hcz19_7
                                    try clear hcz19_8
                                    try clear hcz19_9
                                    try clear hcz30_0
                                    try clear hcz30_1
                                    try clear hcz30_2
                                    try clear hcz30_3
                                    try clear hcz30_4
                                    try clear hcz30_5
                                    try clear hcz30_6
                                    try clear hcz30_7
                                    try clear hcz30_8
                                    try clear hcz30_9
                                    try clear hcz33_0
                                    try clear hcz33_1
                                    try clear hcz33_2
                                    try clear hcz33_3
                                    try clear hcz33_4
                                    try clear hcz33_5
                                    try clear hcz33_6
                                    try clear hcz33_7
                                    try clear hcz33_8
                                    try clear hcz33_9
                                    try clear hcz35_0
                                    try clear hcz35_1
                                    try clear hcz35_2
                                    try clear hcz35_3
                                    try clear hcz35_4
                                    try clear hcz35_5
                                    try clear hcz35_6
                                    try clear hcz35_7
                                    try clear hcz35_8
                                    try clear hcz35_9
                                    try clear hcz38_0
                                    try clear hcz38_1
                                    try clear hcz38_2
                                    try clear hcz38_3
                                    try clear hcz38_4
                                    try clear hcz38_5
                                    try clear hcz38_6
                                    try clear hcz38_7
                                    try clear hcz38_8
                                    try clear hcz38_9
                                    try clear hcz40_0
                                    try clear hcz40_1
                                    try clear hcz40_2
                                    try clear hcz40_3
                                    try clear hcz40_4
                                    try clear hcz40_5
                                    try clear hcz40_6
                                    try clear hcz40_7
                                    try clear hcz40_8
                                    try clear hcz40_9
                                    try clear hcz43_0
                                    try clear hcz43_1
                                    try clear hcz43_2
                                    try clear hcz43_3
                                    try clear hcz43_4
                                    try clear hcz43_5
                                    try clear hcz43_6
                                    try clear hcz43_7
                                    try clear hcz43_8
                                    try clear hcz43_9
                                    try clear hcz49_0
                                    try clear hcz49_1
                                    try clear hcz49_2
                                    try clear hcz49_3
                                    try clear hcz49_4
                                    try clear hcz49_5
                                    try clear hcz49_6
                                    try clear hcz49_7
                                    try clear hcz49_8
                                    try clear hcz49_9
                                    try clear hcz52_0
                                    try clear hcz52_1
                                    try clear hcz52_2
                                    try clear hcz52_3
                                    try clear hcz52_4
                                    try clear hcz52_5
                                    try clear hcz52_6
                                    try clear hcz52_7
                                    try clear hcz52_8
                                    try clear hcz52_9
                                    try clear hcz59_0
                                    try clear hcz59_1
                                    try clear hcz59_2
                                    try clear hcz59_3
                                    try clear hcz59_4
                                    try clear hcz59_5
                                    try clear hcz59_6
                                    try clear hcz59_7
                                    try clear hcz59_8
                                    try clear hcz59_9
                                    try clear hcz5_0
                                    try clear hcz5_1
                                    try clear hcz5_2
                                    try clear hcz5_3
                                    try clear hcz5_4
                                    try clear hcz5_5
                                    try clear hcz5_6
                                    try clear hcz5_7
                                    try clear hcz5_8
                                    try clear hcz5_9
                                    try clear hcz62_0
                                    try clear hcz62_1
                                    try clear hcz62_2
                                    try clear hcz62_3
                                    try clear hcz62_4
                                    try clear hcz62_5
                                    try clear hcz62_6
                                    try clear hcz62_7
                                    try clear hcz62_8
                                    try clear hcz62_9
                                    try clear hcz6_0
                                    try clear hcz6_1
                                    try clear hcz6_2
                                    try clear hcz6_3
                                    try clear hcz6_4
                                    try clear hcz6_5
                                    try clear hcz6_6
                                    try clear hcz6_7
                                    try clear hcz6_8
                                    try clear hcz6_9
                                    try clear hcz70_0
                                    try clear hcz70_1
                                    try clear hcz70_2
                                    try clear hcz70_3
                                    try clear hcz70_4
                                    try clear hcz70_5
                                    try clear hcz70_6
                                    try clear hcz70_7
                                    try clear hcz70_8
                                    try clear hcz70_9
                                    try clear hcz73_0
                                    try clear hcz73_1
                                    try clear hcz73_2
                                    try clear hcz73_3
                                    try clear hcz73_4
                                    try clear hcz73_5
                                    try clear hcz73_6
                                    try clear hcz73_7
                                    try clear hcz73_8
                                    try clear hcz73_9
                                    try clear hcz77_0
                                    try clear hcz77_1
                                    try clear hcz77_2
                                    try clear hcz77_3
                                    try clear hcz77_4
                                    try clear hcz77_5
                                    try clear hcz77_6
                                    try clear hcz77_7
                                    try clear hcz77_8
                                    try clear hcz77_9
                                    try clear hcz80_0
                                    try clear hcz80_1
                                    try clear hcz80_2
                                    try clear hcz80_3
                                    try clear hcz80_4
                                    try clear hcz80_5
                                    try clear hcz80_6
                                    try clear hcz80_7
                                    try clear hcz80_8
                                    try clear hcz80_9
                                    try clear hcz83_0
                                    try clear hcz83_1
                                    try clear hcz83_2
                                    try clear hcz83_3
                                    try clear hcz83_4
                                    try clear hcz83_5
                                    try clear hcz83_6
                                    try clear hcz83_7
                                    try clear hcz83_8
                                    try clear hcz83_9
                                    try clear hcz85_0
                                    try clear hcz85_1
                                    try clear hcz85_2
                                    try clear hcz85_3
                                    try clear hcz85_4
                                    try clear hcz85_5
                                    try clear hcz85_6
                                    try clear hcz85_7
                                    try clear hcz85_8
                                    try clear hcz85_9
                                    try clear hcz90_0
                                    try clear hcz90_1
                                    try clear hcz90_2
                                    try clear hcz90_3
                                    try clear hcz90_4
                                    try clear hcz90_5
                                    try clear hcz90_6
                                    try clear hcz90_7
                                    try clear hcz90_8
                                    try clear hcz90_9
                                    try clear hfz10_0
                                    try clear hfz10_1
                                    try clear hfz10_2
                                    try clear hfz10_3
                                    try clear hfz10_4
                                    try clear hfz10_5
                                    try clear hfz10_6
                                    try clear hfz10_7
                                    try clear hfz10_8
                                    try clear hfz10_9
                                    try clear hfz13_0
                                    try clear hfz13_1
                                    try clear hfz13_2
                                    try clear hfz13_3
                                    try clear hfz13_4
                                    try clear hfz13_5
                                    try clear hfz13_6
                                    try clear hfz13_7
                                    try clear hfz13_8
                                    try clear hfz13_9
                                    try clear hfz15_0
                                    try clear hfz15_1
                                    try clear hfz15_2
                                    try clear hfz15_3
                                    try clear hfz15_4
                                    try clear hfz15_5
                                    try clear hfz15_6
                                    try clear hfz15_7
                                    try clear hfz15_8
                                    try clear hfz15_9
                                    try clear hfz17_0
                                    try clear hfz17_1
                                    try clear hfz17_2
                                    try clear hfz17_3
                                    try clear hfz17_4
                                    try clear hfz17_5
                                    try clear hfz17_6
                                    try clear hfz17_7
                                    try clear hfz17_8
                                    try clear hfz17_9
                                    try clear hfz19_0
                                    try clear hfz19_1
                                    try clear hfz19_2
                                    try clear hfz19_3
                                    try clear hfz19_4
                                    try clear hfz19_5
                                    try clear hfz19_6
                                    try clear hfz19_7
                                    try clear hfz19_8
                                    try clear hfz19_9
                                    try clear hfz30_0
                                    try clear hfz30_1
                                    try clear hfz30_2
                                    try clear hfz30_3
                                    try clear hfz30_4
                                    try clear hfz30_5
                                    try clear hfz30_6
                                    try clear hfz30_7
                                    try clear hfz30_8
                                    try clear hfz30_9
                                    try clear hfz33_0
                                    try clear hfz33_1
                                    try clear hfz33_2
                                    try clear hfz33_3
                                    try clear hfz33_4
                                    try clear hfz33_5
                                    try clear hfz33_6
                                    try clear hfz33_7
                                    try clear hfz33_8
                                    try clear hfz33_9
                                    try clear hfz35_0
                                    try clear hfz35_1
                                    try clear hfz35_2
                                    try clear hfz35_3
                                    try clear hfz35_4
                                    try clear hfz35_5
                                    try clear hfz35_6
                                    try clear hfz35_7
                                    try clear hfz35_8
                                    try clear hfz35_9
                                    try clear hfz38_0
                                    try clear hfz38_1
                                    try clear hfz38_2
                                    try clear hfz38_3
                                    try clear hfz38_4
                                    try clear hfz38_5
                                    try clear hfz38_6
                                    try clear hfz38_7
                                    try clear hfz38_8
                                    try clear hfz38_9
                                    try clear hfz40_0
                                    try clear hfz40_1
                                    try clear hfz40_2
                                    try clear hfz40_3
                                    try clear hfz40_4
                                    try clear hfz40_5
                                    try clear hfz40_6
                                    try clear hfz40_7
                                    try clear hfz40_8
                                    try clear hfz40_9
                                    try clear hfz43_0
                                    try clear hfz43_1
                                    try clear hfz43_2
                                    try clear hfz43_3
                                    try clear hfz43_4
                                    try clear hfz43_5
                                    try clear hfz43_6
                                    try clear hfz43_7
                                    try clear hfz43_8
                                    try clear hfz43_9
                                    try clear hfz49_0
                                    try clear hfz49_1
                                    try clear hfz49_2
                                    try clear hfz49_3
                                    try clear hfz49_4
                                    try clear hfz49_5
                                    try clear hfz49_6
                                    try clear hfz49_7
                                    try clear hfz49_8
                                    try clear hfz49_9
                                    try clear hfz52_0
                                    try clear hfz52_1
                                    try clear hfz52_2
                                    try clear hfz52_3
                                    try clear hfz52_4
                                    try clear hfz52_5
                                    try clear hfz52_6
                                    try clear hfz52_7
                                    try clear hfz52_8
                                    try clear hfz52_9
                                    try clear hfz59_0
                                    try clear hfz59_1
                                    try clear hfz59_2
                                    try clear hfz59_3
                                    try clear hfz59_4
                                    try clear hfz59_5
                                    try clear hfz59_6
                                    try clear hfz59_7
                                    try clear hfz59_8
                                    try clear hfz59_9
                                    try clear hfz5_0
                                    try clear hfz5_1
                                    try clear hfz5_2
                                    try clear hfz5_3
                                    try clear hfz5_4
                                    try clear hfz5_5
                                    try clear hfz5_6
                                    try clear hfz5_7
                                    try clear hfz5_8
                                    try clear hfz5_9
                                    try clear hfz62_0
                                    try clear hfz62_1
                                    try clear hfz62_2
                                    try clear hfz62_3
                                    try clear hfz62_4
                                    try clear hfz62_5
                                    try clear hfz62_6
                                    try clear hfz62_7
                                    try clear hfz62_8
                                    try clear hfz62_9
                                    try clear hfz6_0
                                    try clear hfz6_1
                                    try clear hfz6_2
                                    try clear hfz6_3
                                    try clear hfz6_4
                                    try clear hfz6_5
                                    try clear hfz6_6
                                    try clear hfz6_7
                                    try clear hfz6_8
                                    try clear hfz6_9
                                    try clear hfz70_0
                                    try clear hfz70_1
                                    try clear hfz70_2
                                    try clear hfz70_3
                                    try clear hfz70_4
                                    try clear hfz70_5
                                    try clear hfz70_6
                                    try clear hfz70_7
                                    try clear hfz70_8
                                    try clear hfz70_9
                                    try clear hfz73_0
                                    try clear hfz73_1
                                    try clear hfz73_2
                                    try clear hfz73_3
                                    try clear hfz73_4
                                    try clear hfz73_5
                                    try clear hfz73_6
                                    try clear hfz73_7
                                    try clear hfz73_8
                                    try clear hfz73_9
                                    try clear hfz77_0
                                    try clear hfz77_1
                                    try clear hfz77_2
                                    try clear hfz77_3
                                    try clear hfz77_4
                                    try clear hfz77_5
                                    try clear hfz77_6
                                    try clear hfz77_7
                                    try clear hfz77_8
                                    try clear hfz77_9
                                    try clear hfz80_0
                                    try clear hfz80_1
                                    try clear hfz80_2
                                    try clear hfz80_3
                                    try clear hfz80_4
                                    try clear hfz80_5
                                    try clear hfz80_6
                                    try clear hfz80_7
                                    try clear hfz80_8
                                    try clear hfz80_9
                                    try clear hfz83_0
                                    try clear hfz83_1
                                    try clear hfz83_2
                                    try clear hfz83_3
                                    try clear hfz83_4
                                    try clear hfz83_5
                                    try clear hfz83_6
                                    try clear hfz83_7
                                    try clear hfz83_8
                                    try clear hfz83_9
                                    try clear hfz85_0
                                    try clear hfz85_1
                                    try clear hfz85_2
                                    try clear hfz85_3
                                    try clear hfz85_4
                                    try clear hfz85_5
                                    try clear hfz85_6
                                    try clear hfz85_7
                                    try clear hfz85_8
                                    try clear hfz85_9
                                    try clear hfz90_0
                                    try clear hfz90_1
                                    try clear hfz90_2
                                    try clear hfz90_3
                                    try clear hfz90_4
                                    try clear hfz90_5
                                    try clear hfz90_6
                                    try clear hfz90_7
                                    try clear hfz90_8
                                    try clear hfz90_9
                                    try clear hx159_0
                                    try clear hx159_1
                                    try clear hx159_2
                                    try clear hx159_3
                                    try clear hx159_4
                                    try clear hx159_5
                                    try clear hx159_6
                                    try clear hx159_7
                                    try clear hx159_8
                                    try clear hx159_9
                                    try clear p159
                                    try clear p2
                                    try clear q159
                                    obtain ⟨kq, x124_88, rfl, HA, HJ88, HO_3, BK126, HB⟩ := hcut
                                    cases kq with
                                    | zero => exact absurd HA.out (by simp [flocculusref21_CommandBytes.j4])
                                    | succ kj88 =>
                                      have H := HA.out
                                      clear HA
                                      simp only [flocculusref21_CommandBytes.j4] at H
                                      by_cases c92 : x124_88 = true
                                      · subst c92
                                        have H1 : (some ([] : List Int)) = some r := by rw [if_pos rfl] at H; exact H
                                        clear H
                                        have H := H1
                                        clear H1
                                        obtain rfl := Option.some.inj H
                                        go_wp2
                                        go_ret
                                        exact ⟨_, by first | rfl | (simp [errW_none, errW_some] <;> rfl) | (simp [*, errW_none, errW_some] <;> rfl), by first | exact Kd.R_nil _ _ _ _ _ | exact Kd.N_nil _ _ _ _ _ | exact Kd.V_nil _ _ _ _ _ | exact Kd.Q_nil _ _ _ _ _ | exact Kd.S_nil _ _ _ _ _, by repeat (first | (with_reducible first | exact HB.out | apply below_alloc | apply pw_below_drewN | apply below_drew1 | refine below_set ?_ GE126.out) | exact HB.out)⟩
                                      · replace c92 := Bool.eq_false_iff.mpr c92
                                        subst c92
                                        have H1 : (if 0 ≤ x4_3 then (if x4_3 < (l0_9.length : Int) then ((flocculusref21_CommandBytes.f kj88 ((rd_T29 l0_9 x4_3).f0) ((rd_T29 l0_9 x4_3).f1) ((rd_T29 l0_9 x4_3).f2) ((rd_T29 l0_9 x4_3).f3.f0.f0) ((rd_T29 l0_9 x4_3).f3.f0.f1) ((rd_T29 l0_9 x4_3).f3.f1) ((rd_T29 l0_9 x4_3).f4.f0) ((rd_T29 l0_9 x4_3).f4.f1) ((rd_T29 l0_9 x4_3).f5) ((rd_T29 l0_9 x4_3).f6)).bind fun t161 => (if (t161.length : Int) = 0 then (some ([] : List Int)) else (if x3_3.length + t161.length < 140737488355328 then (flocculusref21_CommandBytes.l0 kj88 (x3_3 ++ t161) (wrap64 (x4_3 + 1)) a0_0 a0_1 a0_2 a0_3 a0_4 a0_5 a0_6 a0_7 a0_8 l0_9) else (none)))) else (none)) else (none)) = some r := by rw [if_neg (show ¬ (false = true) by decide)] at H; exact H
                                        clear H
                                        have H := H1
                                        clear H1
                                        by_cases c93 : 0 ≤ x4_3
                                        · rw [if_pos c93] at H
                                          have c93b0 : decide (0 ≤ x4_3) = true := decide_eq_true c93
                                          clear c93
                                          by_cases c94 : x4_3 < (l0_9.length : Int)
                                          · rw [if_pos c94] at H
                                            have c94b0 : decide (x4_3 < (l0_9.length : Int)) = true := decide_eq_true c94
                                            clear c94
                                            replace H := Option.bind_eq_some_iff.mp H
                                            obtain ⟨t161, A950, H⟩ := H
                                            replace H : (if (t161.length : Int) = 0 then (some ([] : List Int)) else (if x3_3.length + t161.length < 140737488355328 then (flocculusref21_CommandBytes.l0 kj88 (x3_3 ++ t161) (wrap64 (x4_3 + 1)) a0_0 a0_1 a0_2 a0_3 a0_4 a0_5 a0_6 a0_7 a0_8 l0_9) else (none))) = some r := H
                                            have A95 := Aside0.mk A950
                                            clear A950
                                            by_cases c96 : (t161.length : Int) = 0
                                            · rw [if_pos c96] at H
                                              have c96b0 : ((t161.length : Int) == 0) = true := beq_iff_eq.mpr c96
                                              have c96b1 : ((t161.length : Int) != 0) = false := bne_eq_false_iff_eq.mpr c96
                                              clear c96
                                              obtain rfl := Option.some.inj H
                                              have hcz97_0 : wc.cell? ⟨gb126, 0, none⟩ = some (.int .i64 a0_0) := (blk_cell BK126.out 0).trans rfl
                                              have hcz97_1 : wc.cell? ⟨gb126, 1, none⟩ = some (.int .i64 a0_1) := (blk_cell BK126.out 1).trans rfl
                                              have hcz97_2 : wc.cell? ⟨gb126, 2, none⟩ = some (.int .i64 a0_2) := (blk_cell BK126.out 2).trans rfl
                                              have hcz97_3 : wc.cell? ⟨gb126, 3, none⟩ = some (.int .u64 a0_3) := (blk_cell BK126.out 3).trans rfl
                                              have hcz97_4 : wc.cell? ⟨gb126, 4, none⟩ = some (.int .u64 a0_4) := (blk_cell BK126.out 4).trans rfl
                                              have hcz97_5 : wc.cell? ⟨gb126, 5, none⟩ = some (.int .i64 a0_5) := (blk_cell BK126.out 5).trans rfl
                                              have hcz97_6 : wc.cell? ⟨gb126, 6, none⟩ = some (.int .u64 a0_6) := (blk_cell BK126.out 6).trans rfl
                                              have hcz97_7 : wc.cell? ⟨gb126, 7, none⟩ = some (.int .u64 a0_7) := (blk_cell BK126.out 7).trans rfl
                                              have hcz97_8 : wc.cell? ⟨gb126, 8, none⟩ = some (.int .u64 a0_8) := (blk_cell BK126.out 8).trans rfl
                                              have hcz97_9 : wc.cell? ⟨gb126, 9, none⟩ = some (.slice (some ad159) l0_9.length c0_9) := (blk_cell BK126.out 9).trans rfl
                                              have hfz97_0 := blk_frozen BK126.out 0
                                              have hfz97_1 := blk_frozen BK126.out 1
                                              have hfz97_2 := blk_frozen BK126.out 2
                                              have hfz97_3 := blk_frozen BK126.out 3
                                              have hfz97_4 := blk_frozen BK126.out 4
                                              have hfz97_5 := blk_frozen BK126.out 5
                                              have hfz97_6 := blk_frozen BK126.out 6
                                              have hfz97_7 := blk_frozen BK126.out 7
                                              have hfz97_8 := blk_frozen BK126.out 8
                                              have hfz97_9 := blk_frozen BK126.out 9
                                              have p160 : 0 ≤ (x4_3 : Int) := of_decide_eq_true (by first | (with_reducible assumption) | assumption)
                                              have q160 : x4_3 < (l0_9.length : Int) := of_decide_eq_true (by first | (with_reducible assumption) | assumption)
                                              obtain ⟨ad160, A160_9, c160_9, e160, hx160_0, hx160_1, hx160_2, hx160_3, hx160_4, hx160_5, hx160_6, hx160_7, hx160_8, hx160_9, hl160_9, hi160_9⟩ := at_T29 HR0_9.out x4_3 p160 q160
                                              obtain rfl : ad159 = ad160 := (by injection e160)
                                              replace hx160_0 := (HB.out.cell (World.block_lt_of_cell? w _ hx160_0)).trans hx160_0
                                              replace hx160_1 := (HB.out.cell (World.block_lt_of_cell? w _ hx160_1)).trans hx160_1
                                              replace hx160_2 := (HB.out.cell (World.block_lt_of_cell? w _ hx160_2)).trans hx160_2
                                              replace hx160_3 := (HB.out.cell (World.block_lt_of_cell? w _ hx160_3)).trans hx160_3
                                              replace hx160_4 := (HB.out.cell (World.block_lt_of_cell? w _ hx160_4)).trans hx160_4
                                              replace hx160_5 := (HB.out.cell (World.block_lt_of_cell? w _ hx160_5)).trans hx160_5
                                              replace hx160_6 := (HB.out.cell (World.block_lt_of_cell? w _ hx160_6)).trans hx160_6
                                              replace hx160_7 := (HB.out.cell (World.block_lt_of_cell? w _ hx160_7)).trans hx160_7
                                              replace hx160_8 := (HB.out.cell (World.block_lt_of_cell? w _ hx160_8)).trans hx160_8
                                              replace hx160_9 := (HB.out.cell (World.block_lt_of_cell? w _ hx160_9)).trans hx160_9
                                              have HR160_9 := Aside0.mk hi160_9
                                              have HC160_9 := Aside0.mk hl160_9
                                              clear hi160_9 hl160_9
                                              replace p160 := eq_true p160
                                              replace q160 := eq_true q160
                                              go_wp2_with (first | ((with_reducible refine gate_callee (f := 10) rfl ?_); refine goesL_ (some 130) rfl rfl Try.func10 (by kernel_rfl) rfl #[.agg #[.int .i64 ((rd_T29 l0_9 x4_3).f0), .int .i64 ((rd_T29 l0_9 x4_3).f1), .int .i64 ((rd_T29 l0_9 x4_3).f2), .int .u64 ((rd_T29 l0_9 x4_3).f3.f0.f0), .int .u64 ((rd_T29 l0_9 x4_3).f3.f0.f1), .int .i64 ((rd_T29 l0_9 x4_3).f3.f1), .int .u64 ((rd_T29 l0_9 x4_3).f4.f0), .int .u64 ((rd_T29 l0_9 x4_3).f4.f1), .int .u64 ((rd_T29 l0_9 x4_3).f5), .slice A160_9 ((rd_T29 l0_9 x4_3).f6).length c160_9]] rfl (by (try simp only [List.map_toArray, List.map_cons, List.map_nil]); first | done | rfl | (simp only [List.length_drop, List.length_take]; rfl)) ?_; (with_reducible refine (ih kj88 (by have := HJ1.out; have := HJ57.out; have := HK3.out; have := HJ88.out; omega) ((rd_T29 l0_9 x4_3).f0) ((rd_T29 l0_9 x4_3).f1) ((rd_T29 l0_9 x4_3).f2) ((rd_T29 l0_9 x4_3).f3.f0.f0) ((rd_T29 l0_9 x4_3).f3.f0.f1) ((rd_T29 l0_9 x4_3).f3.f1) ((rd_T29 l0_9 x4_3).f4.f0) ((rd_T29 l0_9 x4_3).f4.f1) ((rd_T29 l0_9 x4_3).f5) _ _ ((rd_T29 l0_9 x4_3).f6) t161 _ ?side1 ?side2 A95.out).mono ?_); (case side1 => repeat (first | exact (Kd.C_below HR160_9.out HB.out) | (with_reducible refine Kd.C_alloc ?_ _) | (with_reducible refine Kd.C_drewN ?_ _) | (with_reducible refine Kd.C_drew ?_))); (case side2 => exact HC160_9.out); rintro e w98 ⟨v162, rfl, ho0, hb⟩; refine ⟨_, rfl, ?_⟩; have n0_ := Aside0.mk (Kd.R_elder' (by (with_reducible repeat (first | apply Kd.R_alloc | apply Kd.R_drewN | apply Kd.R_drew)); exact HO_3.out) (Kd.R_base ho0) hb); have n1_ := Aside0.mk (Kd.R_lower (Kd.R_new' ho0 (Kd.R_lt (by (with_reducible repeat (first | apply Kd.R_alloc | apply Kd.R_drewN | apply Kd.R_drew)); exact HO_3.out))) (below_size (by repeat (first | (with_reducible first | exact HB.out | apply below_alloc | apply pw_below_drewN | apply below_drew1 | refine below_set ?_ GE126.out) | exact HB.out)))); have n2_ := Aside0.mk (blk_below (g := gb126) (o := .cells #[.int .i64 a0_0, .int .i64 a0_1, .int .i64 a0_2, .int .u64 a0_3, .int .u64 a0_4, .int .i64 a0_5, .int .u64 a0_6, .int .u64 a0_7, .int .u64 a0_8, .slice (some ad159) l0_9.length c0_9] 29 (0, 0)) (by (with_reducible repeat (first | refine blk_drewN ?_ _ | refine blk_drew ?_ | refine blk_alloc ?_ _)); exact BK126.out) hb); have n3_ := Aside0.mk (below_step (by repeat (first | (with_reducible first | exact HB.out | apply below_alloc | apply pw_below_drewN | apply below_drew1 | refine below_set ?_ GE126.out) | exact HB.out)) hb); clear HO_3; clear BK126; clear HB; have HO_3 := n0_; have HO163 := n1_; have BK126 := n2_; have HB := n3_; clear n0_ n1_ n2_ n3_; (try clear hb); (try clear hb2); (try clear hk); (try clear hi); (try clear ho0); obtain ⟨Ao99, co99, eo99⟩ := Kd.R_slice HO163.out; subst eo99))
                                              go_ret
                                              exact ⟨_, by first | rfl | (simp [errW_none, errW_some] <;> rfl) | (simp [*, errW_none, errW_some] <;> rfl), by first | exact Kd.R_nil _ _ _ _ _ | exact Kd.N_nil _ _ _ _ _ | exact Kd.V_nil _ _ _ _ _ | exact Kd.Q_nil _ _ _ _ _ | exact Kd.S_nil _ _ _ _ _, by repeat (first | (with_reducible first | exact HB.out | apply below_alloc | apply pw_below_drewN | apply below_drew1 | refine below_set ?_ GE126.out) | exact HB.out)⟩
                                            · rw [if_neg c96] at H
                                              have c96b0 : ((t161.length : Int) == 0) = false := beq_eq_false_iff_ne.mpr c96
                                              have c96b1 : ((t161.length : Int) != 0) = true := bne_iff_ne.mpr c96
                                              have c96b2 : ¬ (t161 = []) := fun h_ => c96 (by rw [h_]; rfl)
                                              by_cases c100 : x3_3.length + t161.length < 140737488355328
                                              · rw [if_pos c100] at H
                                                have LMc100 := Aside0.mk c100
                                                clear c100
                                                obtain ⟨y164, hy164⟩ : ∃ y_ : List Int, y_ = (x3_3 ++ t161) := ⟨_, rfl⟩
                                                replace H : (flocculusref21_CommandBytes.l0 kj88 y164 (wrap64 (x4_3 + 1)) a0_0 a0_1 a0_2 a0_3 a0_4 a0_5 a0_6 a0_7 a0_8 l0_9) = some r := by first | (rw [hy164]; with_reducible exact H) | (have H2_ := (Option.bind_some _ _).symm.trans H; rw [hy164]; with_reducible exact H2_) | (have H2_ := (Option.bind_some _ _).symm.trans H; with_reducible exact H2_) | with_reducible exact H | (rw [hy164]; exact H) | exact H
                                                have Ny164 := Aside0.mk hy164
                                                clear hy164
                                                have H' := Aside0.mk H
                                                clear H
                                                have hcz101_0 : wc.cell? ⟨gb126, 0, none⟩ = some (.int .i64 a0_0) := (blk_cell BK126.out 0).trans rfl
                                                have hcz101_1 : wc.cell? ⟨gb126, 1, none⟩ = some (.int .i64 a0_1) := (blk_cell BK126.out 1).trans rfl
                                                have hcz101_2 : wc.cell? ⟨gb126, 2, none⟩ = some (.int .i64 a0_2) := (blk_cell BK126.out 2).trans rfl
                                                have hcz101_3 : wc.cell? ⟨gb126, 3, none⟩ = some (.int .u64 a0_3) := (blk_cell BK126.out 3).trans rfl
                                                have hcz101_4 : wc.cell? ⟨gb126, 4, none⟩ = some (.int .u64 a0_4) := (blk_cell BK126.out 4).trans rfl
                                                have hcz101_5 : wc.cell? ⟨gb126, 5, none⟩ = some (.int .i64 a0_5) := (blk_cell BK126.out 5).trans rfl
                                                have hcz101_6 : wc.cell? ⟨gb126, 6, none⟩ = some (.int .u64 a0_6) := (blk_cell BK126.out 6).trans rfl
                                                have hcz101_7 : wc.cell? ⟨gb126, 7, none⟩ = some (.int .u64 a0_7) := (blk_cell BK126.out 7).trans rfl
                                                have hcz101_8 : wc.cell? ⟨gb126, 8, none⟩ = some (.int .u64 a0_8) := (blk_cell BK126.out 8).trans rfl
                                                have hcz101_9 : wc.cell? ⟨gb126, 9, none⟩ = some (.slice (some ad159) l0_9.length c0_9) := (blk_cell BK126.out 9).trans rfl
                                                have hfz101_0 := blk_frozen BK126.out 0
                                                have hfz101_1 := blk_frozen BK126.out 1
                                                have hfz101_2 := blk_frozen BK126.out 2
                                                have hfz101_3 := blk_frozen BK126.out 3
                                                have hfz101_4 := blk_frozen BK126.out 4
                                                have hfz101_5 := blk_frozen BK126.out 5
                                                have hfz101_6 := blk_frozen BK126.out 6
                                                have hfz101_7 := blk_frozen BK126.out 7
                                                have hfz101_8 := blk_frozen BK126.out 8
                                                have hfz101_9 := blk_frozen BK126.out 9
                                                have p160 : 0 ≤ (x4_3 : Int) := of_decide_eq_true (by first | (with_reducible assumption) | assumption)
                                                have q160 : x4_3 < (l0_9.length : Int) := of_decide_eq_true (by first | (with_reducible assumption) | assumption)
                                                obtain ⟨ad160, A160_9, c160_9, e160, hx160_0, hx160_1, hx160_2, hx160_3, hx160_4, hx160_5, hx160_6, hx160_7, hx160_8, hx160_9, hl160_9, hi160_9⟩ := at_T29 HR0_9.out x4_3 p160 q160
                                                obtain rfl : ad159 = ad160 := (by injection e160)
                                                replace hx160_0 := (HB.out.cell (World.block_lt_of_cell? w _ hx160_0)).trans hx160_0
                                                replace hx160_1 := (HB.out.cell (World.block_lt_of_cell? w _ hx160_1)).trans hx160_1
                                                replace hx160_2 := (HB.out.cell (World.block_lt_of_cell? w _ hx160_2)).trans hx160_2
                                                replace hx160_3 := (HB.out.cell (World.block_lt_of_cell? w _ hx160_3)).trans hx160_3
                                                replace hx160_4 := (HB.out.cell (World.block_lt_of_cell? w _ hx160_4)).trans hx160_4
                                                replace hx160_5 := (HB.out.cell (World.block_lt_of_cell? w _ hx160_5)).trans hx160_5
                                                replace hx160_6 := (HB.out.cell (World.block_lt_of_cell? w _ hx160_6)).trans hx160_6
                                                replace hx160_7 := (HB.out.cell (World.block_lt_of_cell? w _ hx160_7)).trans hx160_7
                                                replace hx160_8 := (HB.out.cell (World.block_lt_of_cell? w _ hx160_8)).trans hx160_8
                                                replace hx160_9 := (HB.out.cell (World.block_lt_of_cell? w _ hx160_9)).trans hx160_9
                                                have HR160_9 := Aside0.mk hi160_9
                                                have HC160_9 := Aside0.mk hl160_9
                                                clear hi160_9 hl160_9
                                                replace p160 := eq_true p160
                                                replace q160 := eq_true q160
                                                go_wp2_with (first | ((with_reducible refine gate_callee (f := 10) rfl ?_); refine goesL_ (some 130) rfl rfl Try.func10 (by kernel_rfl) rfl #[.agg #[.int .i64 ((rd_T29 l0_9 x4_3).f0), .int .i64 ((rd_T29 l0_9 x4_3).f1), .int .i64 ((rd_T29 l0_9 x4_3).f2), .int .u64 ((rd_T29 l0_9 x4_3).f3.f0.f0), .int .u64 ((rd_T29 l0_9 x4_3).f3.f0.f1), .int .i64 ((rd_T29 l0_9 x4_3).f3.f1), .int .u64 ((rd_T29 l0_9 x4_3).f4.f0), .int .u64 ((rd_T29 l0_9 x4_3).f4.f1), .int .u64 ((rd_T29 l0_9 x4_3).f5), .slice A160_9 ((rd_T29 l0_9 x4_3).f6).length c160_9]] rfl (by (try simp only [List.map_toArray, List.map_cons, List.map_nil]); first | done | rfl | (simp only [List.length_drop, List.length_take]; rfl)) ?_; (with_reducible refine (ih kj88 (by have := HJ1.out; have := HJ57.out; have := HK3.out; have := HJ88.out; omega) ((rd_T29 l0_9 x4_3).f0) ((rd_T29 l0_9 x4_3).f1) ((rd_T29 l0_9 x4_3).f2) ((rd_T29 l0_9 x4_3).f3.f0.f0) ((rd_T29 l0_9 x4_3).f3.f0.f1) ((rd_T29 l0_9 x4_3).f3.f1) ((rd_T29 l0_9 x4_3).f4.f0) ((rd_T29 l0_9 x4_3).f4.f1) ((rd_T29 l0_9 x4_3).f5) _ _ ((rd_T29 l0_9 x4_3).f6) t161 _ ?side1 ?side2 A95.out).mono ?_); (case side1 => repeat (first | exact (Kd.C_below HR160_9.out HB.out) | (with_reducible refine Kd.C_alloc ?_ _) | (with_reducible refine Kd.C_drewN ?_ _) | (with_reducible refine Kd.C_drew ?_))); (case side2 => exact HC160_9.out); rintro e w102 ⟨v162, rfl, ho0, hb⟩; refine ⟨_, rfl, ?_⟩; have n0_ := Aside0.mk (Kd.R_elder' (by (with_reducible repeat (first | apply Kd.R_alloc | apply Kd.R_drewN | apply Kd.R_drew)); exact HO_3.out) (Kd.R_base ho0) hb); have n1_ := Aside0.mk (Kd.R_lower (Kd.R_new' ho0 (Kd.R_lt (by (with_reducible repeat (first | apply Kd.R_alloc | apply Kd.R_drewN | apply Kd.R_drew)); exact HO_3.out))) (below_size (by repeat (first | (with_reducible first | exact HB.out | apply below_alloc | apply pw_below_drewN | apply below_drew1 | refine below_set ?_ GE126.out) | exact HB.out)))); have n2_ := Aside0.mk (blk_below (g := gb126) (o := .cells #[.int .i64 a0_0, .int .i64 a0_1, .int .i64 a0_2, .int .u64 a0_3, .int .u64 a0_4, .int .i64 a0_5, .int .u64 a0_6, .int .u64 a0_7, .int .u64 a0_8, .slice (some ad159) l0_9.length c0_9] 29 (0, 0)) (by (with_reducible repeat (first | refine blk_drewN ?_ _ | refine blk_drew ?_ | refine blk_alloc ?_ _)); exact BK126.out) hb); have n3_ := Aside0.mk (below_step (by repeat (first | (with_reducible first | exact HB.out | apply below_alloc | apply pw_below_drewN | apply below_drew1 | refine below_set ?_ GE126.out) | exact HB.out)) hb); clear HO_3; clear BK126; clear HB; have HO_3 := n0_; have HO163 := n1_; have BK126 := n2_; have HB := n3_; clear n0_ n1_ n2_ n3_; (try clear hb); (try clear hb2); (try clear hk); (try clear hi); (try clear ho0); obtain ⟨Ao103, co103, eo103⟩ := Kd.R_slice HO163.out; subst eo103) | ((with_reducible refine gate_builtin (b := .append) (xs := #[.tmp 134, .tmp 135]) rfl ?_); at_builtin; refine Kd.R_append_rows (Kd.int .u8) (w0 := w) w.heap.size rfl (.tmp 134) (.tmp 135) 30 5 (.int .u8 0) 1 rfl Try.underlying30 info5 rfl (by decide) (by omega) u3 x3_3 t161 _ _ _ (fun k_ => some k_ ≠ (.slice Ao103 t161.length co103 : Value).ownBlock) (fun _ => False) rfl rfl ?aO ?aR (fun _ _ h => h) (fun _ h => h.elim) ?aF ?aB ?aS ?aL ?_; (case aR => repeat (first | exact (Kd.R_reads' HO163.out).2.2 | (with_reducible refine Kd.C_alloc ?_ _) | (with_reducible refine Kd.C_drewN ?_ _) | (with_reducible refine Kd.C_drew ?_))); (case aB => exact (by repeat (first | (with_reducible first | exact HB.out | apply below_alloc | apply pw_below_drewN | apply below_drew1 | refine below_set ?_ GE126.out) | exact HB.out))); (case aF => exact (fun k_ hk => Kd.fresh' (Kd.R_lt (by (with_reducible repeat (first | apply Kd.R_alloc | apply Kd.R_drewN | apply Kd.R_drew)); exact HO163.out)) k_ hk)); (case aO => exact (by (with_reducible repeat (first | apply Kd.R_alloc | apply Kd.R_drewN | apply Kd.R_drew)); exact Kd.R_mono HO_3.out (fun _ hk => hk.2))); (case aS => exact (below_size (by repeat (first | (with_reducible first | exact HB.out | apply below_alloc | apply pw_below_drewN | apply below_drew1 | refine below_set ?_ GE126.out) | exact HB.out)))); (case aL => have := LMc100.out; omega); intro v165 w104 ho hb hg hat; rw [← Ny164.out] at ho; have n0_ := Aside0.mk (blk_grown (g := gb126) (o := .cells #[.int .i64 a0_0, .int .i64 a0_1, .int .i64 a0_2, .int .u64 a0_3, .int .u64 a0_4, .int .i64 a0_5, .int .u64 a0_6, .int .u64 a0_7, .int .u64 a0_8, .slice (some ad159) l0_9.length c0_9] 29 (0, 0)) (by (with_reducible repeat (first | refine blk_drewN ?_ _ | refine blk_drew ?_ | refine blk_alloc ?_ _)); exact BK126.out) hg (Kd.R_ne HO_3.out BK126.out (by decide))); have n1_ := Aside0.mk (Kd.R_after (ok := (fun _ => True)) (by (with_reducible repeat (first | apply Kd.R_alloc | apply Kd.R_drewN | apply Kd.R_drew)); exact HO163.out) hg hat); have n2_ := Aside0.mk (hb); have n3_ := Aside0.mk (ho); clear BK126; clear HO163; clear HB; clear HO_3; have BK126 := n0_; have HO163 := n1_; have HB := n2_; have HO166 := n3_; clear n0_ n1_ n2_ n3_; clear ho hb hg hat))
                                                go_roundg kj88
                                                case measure => have := HJ1.out; have := HJ57.out; have := HK3.out; have := HJ88.out; omega
                                                case rel => exact ⟨(y164), (wrap64 (x4_3 + 1)), (by first | rfl | (simp; done) | (simp [*]; done)), H', ⟨by have := HJ1.out; have := HJ57.out; have := HK3.out; have := HJ88.out; omega⟩, ⟨by (with_reducible repeat (first | apply Kd.R_alloc | apply Kd.R_drewN | apply Kd.R_drew)); exact Kd.R_mono HO166.out (fun _ hk => trivial)⟩, ⟨by (with_reducible repeat (first | refine blk_drewN ?_ _ | refine blk_drew ?_ | refine blk_alloc ?_ _)); exact BK126.out⟩, ⟨by repeat (first | (with_reducible first | exact HB.out | apply below_alloc | apply pw_below_drewN | apply below_drew1 | refine below_set ?_ GE126.out) | exact HB.out)⟩⟩
                                              · rw [if_neg c100] at H
                                                exact absurd H (by simp)
                                          · rw [if_neg c94] at H
                                            exact absurd H (by simp)
                                        · rw [if_neg c93] at H
                                          exact absurd H (by simp)
                                · rw [if_neg c88] at H
                                  exact absurd H (by simp)
                              · rw [if_neg c87] at H
                                have c87b0 : decide (x4_3 < (l0_9.length : Int)) = false := decide_eq_false c87
                                clear c87
                                obtain rfl := Option.some.inj H
                                have hcz105_0 : wr.cell? ⟨gb126, 0, none⟩ = some (.int .i64 a0_0) := (blk_cell BK126.out 0).trans rfl
                                have hcz105_1 : wr.cell? ⟨gb126, 1, none⟩ = some (.int .i64 a0_1) := (blk_cell BK126.out 1).trans rfl
                                have hcz105_2 : wr.cell? ⟨gb126, 2, none⟩ = some (.int .i64 a0_2) := (blk_cell BK126.out 2).trans rfl
                                have hcz105_3 : wr.cell? ⟨gb126, 3, none⟩ = some (.int .u64 a0_3) := (blk_cell BK126.out 3).trans rfl
                                have hcz105_4 : wr.cell? ⟨gb126, 4, none⟩ = some (.int .u64 a0_4) := (blk_cell BK126.out 4).trans rfl
                                have hcz105_5 : wr.cell? ⟨gb126, 5, none⟩ = some (.int .i64 a0_5) := (blk_cell BK126.out 5).trans rfl
                                have hcz105_6 : wr.cell? ⟨gb126, 6, none⟩ = some (.int .u64 a0_6) := (blk_cell BK126.out 6).trans rfl
                                have hcz105_7 : wr.cell? ⟨gb126, 7, none⟩ = some (.int .u64 a0_7) := (blk_cell BK126.out 7).trans rfl
                                have hcz105_8 : wr.cell? ⟨gb126, 8, none⟩ = some (.int .u64 a0_8) := (blk_cell BK126.out 8).trans rfl
                                have hcz105_9 : wr.cell? ⟨gb126, 9, none⟩ = some (.slice A0_9 l0_9.length c0_9) := (blk_cell BK126.out 9).trans rfl
                                have hfz105_0 := blk_frozen BK126.out 0
                                have hfz105_1 := blk_frozen BK126.out 1
                                have hfz105_2 := blk_frozen BK126.out 2
                                have hfz105_3 := blk_frozen BK126.out 3
                                have hfz105_4 := blk_frozen BK126.out 4
                                have hfz105_5 := blk_frozen BK126.out 5
                                have hfz105_6 := blk_frozen BK126.out 6
                                have hfz105_7 := blk_frozen BK126.out 7
                                have hfz105_8 := blk_frozen BK126.out 8
                                have hfz105_9 := blk_frozen BK126.out 9
                                go_wp2
                                go_ret
                                exact ⟨_, by first | rfl | (simp [errW_none, errW_some] <;> rfl) | (simp [*, errW_none, errW_some] <;> rfl), by (with_reducible repeat (first | apply Kd.R_alloc | apply Kd.R_drewN | apply Kd.R_drew)); exact HO_3.out, by repeat (first | (with_reducible first | exact HB.out | apply below_alloc | apply pw_below_drewN | apply below_drew1 | refine below_set ?_ GE126.out) | exact HB.out)⟩
                        · rw [if_neg c84] at H
                          exact absurd H (by simp)
                    · rw [if_neg c81] at H
                      have c81b0 : (a0_0 == 7) = false := beq_eq_false_iff_ne.mpr c81
                      have c81b1 : (a0_0 != 7) = true := bne_iff_ne.mpr c81
                      obtain rfl := Option.some.inj H
                      go_wp2
                      go_ret
                      exact ⟨_, by first | rfl | (simp [errW_none, errW_some] <;> rfl) | (simp [*, errW_none, errW_some] <;> rfl), by (with_reducible repeat (first | apply Kd.R_alloc | apply Kd.R_drewN | apply Kd.R_drew)); exact HO_3.out, by repeat (first | (with_reducible first | exact HB.out | apply below_alloc | apply pw_below_drewN | apply below_drew1 | refine below_set ?_ GE126.out) | exact HB.out)⟩

end Go.Proofs.Ytliighhedmfgjaa.PRefC
