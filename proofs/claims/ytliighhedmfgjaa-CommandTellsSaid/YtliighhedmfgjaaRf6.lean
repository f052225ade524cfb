/- The reference's reader of commands: any command. -/
import Derived.Test.YtliighhedmfgjaaRf5
namespace Go.Proofs.Ytliighhedmfgjaa.Cmd
open Go.RowKit Go.Proofs.Ytliighhedmfgjaa.PRefC Go.Proofs.YtliighhedmfgjaaW.PrintWords Go.Proofs.YtliighhedmfgjaaW.PrintLast Go.Proofs.YtliighhedmfgjaaW.PrintMore

def ftV (s : St) : S29 := if gv 1 s = 7 then ⟨7, 0, 0, z26, z24, 0, (fbL (gv 1 (fs 1 s)).toNat (fs 1 (fs 1 s))).1⟩ else fcV (gv 1 s) (fs 1 s)
def ftS (s : St) : St := if gv 1 s = 7 then (fbL (gv 1 (fs 1 s)).toNat (fs 1 (fs 1 s))).2 else fcS (gv 1 s) (fs 1 s)
theorem fcV_f6 (k : Int) (s : St) : (fcV k s).f6 = [] := by
  unfold fcV
  repeat' split
  all_goals rfl
theorem ftrue_st (w0 W : World) (rb : Nat) (s : St) (h : Rf w0 W rb s) :
    Calls Try.prog 22 #[.pointer (some ⟨rb, 0, none⟩), .bool true] W fun e w' => ∃ v, e = .returned (.agg (cells29 (ftV s) v)) ∧ k29.R 29 w' w0.heap.size (fun j => W.heap.size ≤ j) v (ftV s).f6 ∧ Rf w0 w' rb (ftS s) ∧ Only W w' rb := by
  unfold ftV ftS
  by_cases h7 : gv 1 s = 7
  · rw [if_pos h7, if_pos h7]
    have hr := gv_range 1 (fs 1 s) (fs_byte h.byte)
    exact fcmd7_yes w0 W rb (gv 1 (fs 1 s)).toNat s h h7 (by omega)
  · rw [if_neg h7, if_neg h7]
    refine (fcmd_st w0 W rb true s h h7).mono ?_
    rintro e w' ⟨rfl, h1, h2⟩
    exact ⟨.slice none 0 0, rfl, by rw [fcV_f6]; exact Kd.R_nil _ _ _ _ _, h1, h2⟩
end Go.Proofs.Ytliighhedmfgjaa.Cmd
