/- The law LevelsTell: the walk through its code. -/
import Derived.Test.YtlklehliapbgeaaLRLevelsTell
import Derived.Test.YtlklehliapbgeaaRLLevelsTell
namespace Go.Proofs.Ytlklehliapbgeaa.Tell
open Go.RowKit Go.Proofs.Ytlklehliapbgeaa.PLevelsTell Go.Proofs.YtlklehliapbgeaaW.PrintWords Go.Proofs.YtlklehliapbgeaaW.PrintLast Go.Proofs.YtlklehliapbgeaaW.PrintMore Go.Proofs.Ytlklehliapbgeaa.Histo
open Go.Proofs.Ytlklehliapbgeaa.Lev (Goes Able Right Goes.le chooseP)

theorem same_l (l : List Int) (hl : l.length ≤ 1000) : ∀ (xs : List Int) (j : Nat), l.drop j = xs → Ev (fun k => flocculusref1_SameInts.l0 k l l j) true
  | [], j, h => by
    refine ⟨1, fun k hk => ?_⟩
    obtain ⟨k, rfl⟩ : ∃ k', k = k' + 1 := ⟨k - 1, by omega⟩
    show flocculusref1_SameInts.l0 (k + 1) l l j = some true
    have := drop_nil h
    simp only [flocculusref1_SameInts.l0]
    rw [if_neg (by omega)]
  | x :: xs, j, h => by
    obtain ⟨h1, h2, h3⟩ := drop_cons h
    refine Ev.step (f := fun k => flocculusref1_SameInts.l0 k l l ((j + 1 : Nat) : Int)) (fun k => ?_) (same_l l hl xs (j + 1) h3)
    simp only [flocculusref1_SameInts.l0]
    rw [if_pos (by omega), if_pos (by omega), if_pos (by omega), if_pos trivial, wrap_of (by omega) (by omega)]; rfl
theorem same_f (l : List Int) (hl : l.length ≤ 1000) : Ev (fun k => flocculusref1_SameInts.f k l l) true := by
  obtain ⟨K, hK⟩ := same_l l hl l 0 rfl
  refine ⟨K, fun k hk => ?_⟩
  have h : flocculusref1_SameInts.l0 k l l ((0 : Nat) : Int) = some true := hK k hk
  show flocculusref1_SameInts.f k l l = some true
  unfold flocculusref1_SameInts.f
  rw [if_pos rfl]
  exact h

theorem choose_len (a b c d : Int) (l : List Int) : (chooseP a b c d l).1.length ≤ 1000 := by
  rcases Lev.choose_tells a b c d l with ⟨_, h, _⟩ | ⟨h, _⟩
  · have h1 := h.2.1
    have h2 := h.1
    unfold Able at h2
    omega
  · rw [h]; exact Nat.zero_le _

set_option maxRecDepth 20000 in
set_option maxHeartbeats 4000000 in
theorem Tell_in (w : World) (a b c d : Int) (A4 : Option Addr) (c4 : Nat) (l4 : List Int) (A5 : Option Addr) (c5 : Nat) (l5 : List Int) (hC4 : (Kd.int .i64).C w A4 l4.length l4) (hc4 : l4.length ≤ c4) (hC5 : (Kd.int .i64).C w A5 l5.length l5) (hc5 : l5.length ≤ c5)
    (hl4 : l4.length ≤ 200) (hl5 : l5.length ≤ 200) (ha : ¬ (40 < a ∧ a ≤ 128)) (hbig : ∀ x ∈ l5, x < 9223372036854775808) :
    Calls Try.prog 10 #[.int .i64 a, .int .i64 b, .int .i64 c, .int .i64 d, .slice A4 l4.length c4, .slice A5 l5.length c5] w fun e w' => e = .returned (.bool true) ∧ Below w.heap.size w w' := by
  have HC4 := Lib.hid hC4
  have HC5 := Lib.hid hC5
  clear hC4 hC5
  obtain ⟨K, hK⟩ := LRLevelsTell.alive_f
  have HAL : Hid (flocculuslaw17_alive.f K = some true) := hK K (Nat.le_refl _)
  clear hK
  obtain ⟨K1, hK1⟩ := same_f (chooseP a b c d l4).1 (choose_len _ _ _ _ _)
  have HSA : Hid (flocculusref1_SameInts.f K1 (chooseP a b c d l4).1 (chooseP a b c d l4).1 = some true) := hK1 K1 (Nat.le_refl _)
  clear hK1
  obtain ⟨v, hv⟩ : ∃ v : Bool, v = true ↔ Right a b c d l5 := by
    by_cases h : Right a b c d l5
    · exact ⟨true, fun _ => h, fun _ => rfl⟩
    · exact ⟨false, (fun e => (by cases e)), (fun e => absurd e h)⟩
  obtain ⟨K2, hK2⟩ := LRLevelsTell.right_f a b c d l5 v hv
  have HRA : Hid (levels_Right.f K2 a b c d l5 = some v) := hK2 K2 (Nat.le_refl _)
  obtain ⟨K3, hK3⟩ := RLLevelsTell.right_f a b c d l5 hbig v hv
  have HRB : Hid (flocculusref11_RightLevels.f K3 a b c d l5 = some v) := hK3 K3 (Nat.le_refl _)
  clear hK2 hK3 hv
  obtain ⟨r1, r2, hr⟩ : ∃ r1 r2, chooseP a b c d l4 = (r1, r2) := ⟨_, _, rfl⟩
  rw [hr] at HSA
  have hf : levels_Choose.f a b c d l4 = some (r1, r2) := (LRLevelsTell.choose_f a b c d l4 (by omega)).trans (by rw [hr])
  have HF := Lib.hid hf
  have hf2 : flocculusref11_Choose.f a b c d l4 = some (r1, r2) := hf
  have HF2 := Lib.hid hf2
  clear hr hf hf2 hbig
  have g4 : ¬ (200 : Int) < (l4.length : Int) := by omega
  have g5 : ¬ (200 : Int) < (l5.length : Int) := by omega
  by_cases g0 : 40 < a
  · have g1 : ¬ a ≤ 128 := fun h => ha ⟨g0, h⟩
    go_enter Try.func10, Try.ntmps10
    go_wp2_with fail
    refine (flocculuslaw17_alive.calls K true _ HAL.out).mono ?_
    rintro e w1 ⟨rfl, hB1⟩
    have HB1 := Lib.hid hB1
    clear hB1
    go_wp2_with (first
      | (at_builtin; refine Kd.R_append_row (w0 := w) (Value.int .i64) (0 : Int) w.heap.size rfl _ _ 35 3 (.int .i64 0) 8 rfl Try.underlying35 Lev.info3 rfl (by decide) (.slice none 0 0) [] l4 A4 l4.length c4 (fun _ => True) rfl rfl (fun _ _ => trivial) (Kd.R_nil _ _ _ _ _) (Kd.C_below HC4.out HB1.out) HB1.out HB1.out.size (by simp only [List.length_nil]; omega) ?_; intro v1 w2 ho hb hg hat; rw [List.nil_append] at ho; obtain ⟨A6, c6, he6, hl6, hr6⟩ := Kd.R_reads ho; subst he6; have HR6 := Lib.hid hr6; have HB2 := Lib.hid hb; clear ho hb hg hat hr6)
      | fail)
    refine (levels_Choose.calls a b c d A6 c6 l4 r1 r2 _ HR6.out hl6 HF.out).mono ?_
    rintro e w3 ⟨v3, rfl, hR3, hB3⟩
    have hB3' := HB2.out.trans (hB3.mono HB2.out.size)
    have HB3 := Lib.hid hB3'
    have HR3 := Lib.hid hR3
    clear hB3 hB3' hR3
    go_wp2_with fail
    refine (flocculusref11_Choose.calls a b c d A4 c4 l4 r1 r2 _ (Kd.C_below HC4.out HB3.out) hc4 HF2.out).mono ?_
    rintro e w4 ⟨v4, rfl, hR4, hB4⟩
    have hR34 := Kd.R_below HR3.out hB4
    have hB4' := HB3.out.trans (hB4.mono HB3.out.size)
    have HB4 := Lib.hid hB4'
    obtain ⟨A7, c7, he7, hl7, hr7⟩ := Kd.R_reads hR34
    obtain ⟨A8, c8, he8, hl8, hr8⟩ := Kd.R_reads hR4
    subst he7 he8
    have HR7 := Lib.hid hr7
    have HR8 := Lib.hid hr8
    clear hB4 hB4' hR4 hR34 hr7 hr8 HR3
    go_wp2_with fail
    refine (flocculusref1_SameInts.calls K1 A7 c7 r1 A8 c8 r1 true _ HR7.out hl7 HR8.out hl8 HSA.out).mono ?_
    rintro e w5 ⟨rfl, ⟨n5, rfl⟩⟩
    go_wp2_with fail
    refine (flocculuslaw17_num.calls r2 r2 _ rfl).mono ?_
    rintro e w6 ⟨rfl, ⟨n6, rfl⟩⟩
    go_wp2_with fail
    refine (levels_Right.calls K2 a b c d A5 c5 l5 v _ (Kd.C_below HC5.out (by repeat (first | exact HB4.out | apply pw_below_drewN))) hc5 HRA.out).mono ?_
    rintro e w7 ⟨rfl, ⟨n7, rfl⟩⟩
    go_wp2_with fail
    refine (flocculusref11_RightLevels.calls K3 a b c d A5 c5 l5 v _ (Kd.C_below HC5.out (by repeat (first | exact HB4.out | apply pw_below_drewN))) hc5 HRB.out).mono ?_
    rintro e w8 ⟨rfl, ⟨n8, rfl⟩⟩
    go_wp2
    go_ret
    exact ⟨by simp, (by repeat (first | exact HB4.out | apply pw_below_drewN))⟩
  · go_enter Try.func10, Try.ntmps10
    go_wp2_with fail
    refine (flocculuslaw17_alive.calls K true _ HAL.out).mono ?_
    rintro e w1 ⟨rfl, hB1⟩
    have HB1 := Lib.hid hB1
    clear hB1
    go_wp2_with (first
      | (at_builtin; refine Kd.R_append_row (w0 := w) (Value.int .i64) (0 : Int) w.heap.size rfl _ _ 35 3 (.int .i64 0) 8 rfl Try.underlying35 Lev.info3 rfl (by decide) (.slice none 0 0) [] l4 A4 l4.length c4 (fun _ => True) rfl rfl (fun _ _ => trivial) (Kd.R_nil _ _ _ _ _) (Kd.C_below HC4.out HB1.out) HB1.out HB1.out.size (by simp only [List.length_nil]; omega) ?_; intro v1 w2 ho hb hg hat; rw [List.nil_append] at ho; obtain ⟨A6, c6, he6, hl6, hr6⟩ := Kd.R_reads ho; subst he6; have HR6 := Lib.hid hr6; have HB2 := Lib.hid hb; clear ho hb hg hat hr6)
      | fail)
    refine (levels_Choose.calls a b c d A6 c6 l4 r1 r2 _ HR6.out hl6 HF.out).mono ?_
    rintro e w3 ⟨v3, rfl, hR3, hB3⟩
    have hB3' := HB2.out.trans (hB3.mono HB2.out.size)
    have HB3 := Lib.hid hB3'
    have HR3 := Lib.hid hR3
    clear hB3 hB3' hR3
    go_wp2_with fail
    refine (flocculusref11_Choose.calls a b c d A4 c4 l4 r1 r2 _ (Kd.C_below HC4.out HB3.out) hc4 HF2.out).mono ?_
    rintro e w4 ⟨v4, rfl, hR4, hB4⟩
    have hR34 := Kd.R_below HR3.out hB4
    have hB4' := HB3.out.trans (hB4.mono HB3.out.size)
    have HB4 := Lib.hid hB4'
    obtain ⟨A7, c7, he7, hl7, hr7⟩ := Kd.R_reads hR34
    obtain ⟨A8, c8, he8, hl8, hr8⟩ := Kd.R_reads hR4
    subst he7 he8
    have HR7 := Lib.hid hr7
    have HR8 := Lib.hid hr8
    clear hB4 hB4' hR4 hR34 hr7 hr8 HR3
    go_wp2_with fail
    refine (flocculusref1_SameInts.calls K1 A7 c7 r1 A8 c8 r1 true _ HR7.out hl7 HR8.out hl8 HSA.out).mono ?_
    rintro e w5 ⟨rfl, ⟨n5, rfl⟩⟩
    go_wp2_with fail
    refine (flocculuslaw17_num.calls r2 r2 _ rfl).mono ?_
    rintro e w6 ⟨rfl, ⟨n6, rfl⟩⟩
    go_wp2_with fail
    refine (levels_Right.calls K2 a b c d A5 c5 l5 v _ (Kd.C_below HC5.out (by repeat (first | exact HB4.out | apply pw_below_drewN))) hc5 HRA.out).mono ?_
    rintro e w7 ⟨rfl, ⟨n7, rfl⟩⟩
    go_wp2_with fail
    refine (flocculusref11_RightLevels.calls K3 a b c d A5 c5 l5 v _ (Kd.C_below HC5.out (by repeat (first | exact HB4.out | apply pw_below_drewN))) hc5 HRB.out).mono ?_
    rintro e w8 ⟨rfl, ⟨n8, rfl⟩⟩
    go_wp2
    go_ret
    exact ⟨by simp, (by repeat (first | exact HB4.out | apply pw_below_drewN))⟩
set_option maxRecDepth 20000 in
set_option maxHeartbeats 4000000 in
theorem Tell_out (w : World) (a b c d : Int) (A4 : Option Addr) (c4 n4 : Nat) (A5 : Option Addr) (c5 n5 : Nat) (h : (40 < a ∧ a ≤ 128) ∨ (200 : Int) < n4 ∨ (200 : Int) < n5) :
    Calls Try.prog 10 #[.int .i64 a, .int .i64 b, .int .i64 c, .int .i64 d, .slice A4 n4 c4, .slice A5 n5 c5] w fun e w' => e = .returned (.bool true) ∧ Below w.heap.size w w' := by
  obtain ⟨K, hK⟩ := LRLevelsTell.alive_f
  have HAL : Hid (flocculuslaw17_alive.f K = some true) := hK K (Nat.le_refl _)
  clear hK
  by_cases g4 : (200 : Int) < n4
  · by_cases g0 : 40 < a
    · go_enter Try.func10, Try.ntmps10
      go_wp2_with fail
      refine (flocculuslaw17_alive.calls K true _ HAL.out).mono ?_
      rintro e w1 ⟨rfl, hB1⟩
      clear h
      by_cases g1 : a ≤ 128
      · go_wp2
        go_ret
        exact ⟨rfl, hB1⟩
      · go_wp2
        go_ret
        exact ⟨rfl, hB1⟩
    · go_enter Try.func10, Try.ntmps10
      go_wp2_with fail
      refine (flocculuslaw17_alive.calls K true _ HAL.out).mono ?_
      rintro e w1 ⟨rfl, hB1⟩
      clear h
      go_wp2
      go_ret
      exact ⟨rfl, hB1⟩
  · by_cases g0 : 40 < a
    · go_enter Try.func10, Try.ntmps10
      go_wp2_with fail
      refine (flocculuslaw17_alive.calls K true _ HAL.out).mono ?_
      rintro e w1 ⟨rfl, hB1⟩
      by_cases g1 : a ≤ 128
      · clear h
        go_wp2
        go_ret
        exact ⟨rfl, hB1⟩
      · have g5 : (200 : Int) < n5 := by omega
        clear h
        go_wp2
        go_ret
        exact ⟨rfl, hB1⟩
    · have g5 : (200 : Int) < n5 := by omega
      clear h
      go_enter Try.func10, Try.ntmps10
      go_wp2_with fail
      refine (flocculuslaw17_alive.calls K true _ HAL.out).mono ?_
      rintro e w1 ⟨rfl, hB1⟩
      go_wp2
      go_ret
      exact ⟨rfl, hB1⟩
theorem Tell_walk {w : World} (a : Int) (_ : (Lit.int .i64 a).wf = true) (b : Int) (_ : (Lit.int .i64 b).wf = true) (c : Int) (_ : (Lit.int .i64 c).wf = true) (d : Int) (_ : (Lit.int .i64 d).wf = true)
    (A4 : Option Addr) (l4 : List Int) (c4 : Nat) (hC4 : (Kd.int .i64).C w A4 l4.length l4) (hc4 : l4.length ≤ c4) (_ : l4.length ≤ maxLen) {B4 : Nat} (_ : l4.length * B4 ≤ 140737488351232) (_ : ∀ y ∈ l4, (Lit.int .i64 y).wf = true)
    (A5 : Option Addr) (l5 : List Int) (c5 : Nat) (hC5 : (Kd.int .i64).C w A5 l5.length l5) (hc5 : l5.length ≤ c5) (_ : l5.length ≤ maxLen) {B5 : Nat} (_ : l5.length * B5 ≤ 140737488351232) (hok5 : ∀ y ∈ l5, (Lit.int .i64 y).wf = true) (_ : World) :
    Calls Try.prog 10 #[.int .i64 a, .int .i64 b, .int .i64 c, .int .i64 d, .slice A4 l4.length c4, .slice A5 l5.length c5] w fun e w' => e = .returned (.bool true) ∧ Below w.heap.size w w' := by
  by_cases h : (40 < a ∧ a ≤ 128) ∨ (200 : Int) < l4.length ∨ (200 : Int) < l5.length
  · exact Tell_out w a b c d A4 c4 _ A5 c5 _ h
  · refine Tell_in w a b c d A4 c4 l4 A5 c5 l5 hC4 hc4 hC5 hc5 (by omega) (by omega) (fun hh => h (.inl hh)) fun x hx => ?_
    have := hok5 x hx
    simp only [Lit.wf, Bool.and_eq_true, decide_eq_true_eq] at this
    have h2 := this.2
    have e : IntKind.i64.max = 9223372036854775807 := by rfl
    omega
end Go.Proofs.Ytlklehliapbgeaa.Tell
