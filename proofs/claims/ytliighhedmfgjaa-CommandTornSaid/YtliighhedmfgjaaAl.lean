/- The laws of chapter 24: their example. -/
import Derived.Test.YtliighhedmfgjaaRe5
import Derived.Test.YtliighhedmfgjaaPRefCx3
namespace Go.Proofs.Ytliighhedmfgjaa.Cmd
open Go.RowKit Go.Proofs.Ytliighhedmfgjaa.PRefC Go.Proofs.YtliighhedmfgjaaW.PrintWords Go.Proofs.YtliighhedmfgjaaW.PrintLast Go.Proofs.YtliighhedmfgjaaW.PrintMore

def exC : S29 := ⟨1, 4, 0, z26, z24, 0, []⟩
theorem rdE_nil : rdE [] = 2 := by kernel_rfl
theorem rdE_ex : rdE (encP exC) = 0 := by kernel_rfl
theorem rdV_ex : (rdV (encP exC)).f1 = 4 := by kernel_rfl
theorem ex_len : (encP exC).length = 22 := by kernel_rfl
theorem ex_byte : ∀ x ∈ encP exC, 0 ≤ x ∧ x < 256 := by
  have h : (encP exC).all (fun x => decide (0 ≤ x) && decide (x < 256)) = true := by kernel_rfl
  intro x hx
  have := List.all_eq_true.mp h x hx
  simp only [Bool.and_eq_true, decide_eq_true_eq] at this
  exact this

set_option maxRecDepth 20000 in
set_option maxHeartbeats 4000000 in
theorem alive_is (w : World) : Calls Try.prog 6 #[] w fun e w' => e = .returned (.bool true) ∧ Below w.heap.size w w' := by
  go_enter Try.func6, Try.ntmps6
  go_wp2_with fail
  refine (read_is w none 0 [] (Kd.C_nil _ _) (Nat.le_refl _) (fun x hx => by cases hx) (Nat.zero_le _)).mono ?_
  rintro e w1 ⟨v1, rfl, hr1, hB1⟩
  rw [rdE_nil]
  obtain ⟨A1, c1, hv1⟩ := Kd.R_slice hr1
  subst hv1
  obtain ⟨x1, hx1⟩ : ∃ x1, x1 = rdV [] := ⟨_, rfl⟩
  rw [← hx1]
  unfold cells29
  have HB1 := Lib.hid hB1
  clear hr1 hB1 hx1
  go_wp2_with fail
  refine (bytes_is _ 1 4 0 0 0 0 0 0 0 none 0 [] (Kd.C_nil _ _) ⟨⟨⟨by decide, by decide⟩, ⟨by decide, by decide⟩⟩, ⟨by decide, by decide⟩, ⟨by decide, by decide⟩, ⟨by decide, by decide⟩⟩ (fun x hx => by cases hx) (by decide)).mono ?_
  rintro e w2 ⟨v2, rfl, hr2, hB2⟩
  obtain ⟨A2, c2, he2, hl2, hC2⟩ := Kd.R_reads hr2
  subst he2
  have HC2 := Lib.hid hC2
  have HB2 := Lib.hid ((below_alloc HB1.out _).trans (hB2.mono (below_alloc HB1.out _).size))
  clear hr2 hB2 hC2
  go_wp2_with fail
  refine (read_is w2 A2 c2 (encP exC) HC2.out hl2 ex_byte (by rw [ex_len]; decide)).mono ?_
  rintro e w3 ⟨v3, rfl, hr3, hB3⟩
  rw [rdE_ex]
  obtain ⟨A3, c3, hv3⟩ := Kd.R_slice hr3
  subst hv3
  have hx3 := rdV_ex
  obtain ⟨x3, hx3e⟩ : ∃ x3, x3 = rdV (encP exC) := ⟨_, rfl⟩
  rw [← hx3e] at hx3 ⊢
  unfold cells29
  have HB3 := Lib.hid (HB2.out.trans (hB3.mono HB2.out.size))
  clear hr3 hB3 hx3e HC2 hl2
  go_wp2_with fail
  refine (flocculuslaw24_num.calls 2 2 _ rfl).mono ?_
  rintro e w4 ⟨rfl, ⟨n4, rfl⟩⟩
  go_wp2_with fail
  refine (flocculuslaw24_num.calls 0 0 _ rfl).mono ?_
  rintro e w5 ⟨rfl, ⟨n5, rfl⟩⟩
  go_wp2
  go_ret
  exact ⟨by simp, by repeat (first | exact HB3.out | apply pw_below_drewN | apply below_alloc)⟩
end Go.Proofs.Ytliighhedmfgjaa.Cmd
