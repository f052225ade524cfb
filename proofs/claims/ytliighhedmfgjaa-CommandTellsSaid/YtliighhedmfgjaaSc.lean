/- The reference's SameCommand of a command and itself. -/
import Derived.Test.YtliighhedmfgjaaRg
import Derived.Test.YtliighhedmfgjaaPRefCx6
namespace Go.Proofs.Ytliighhedmfgjaa.Cmd
open Go.RowKit Go.Proofs.Ytliighhedmfgjaa.PRefC Go.Proofs.YtliighhedmfgjaaW.PrintWords Go.Proofs.YtliighhedmfgjaaW.PrintLast Go.Proofs.YtliighhedmfgjaaW.PrintMore

def scF (k : Nat) (c : S29) : Option Bool := flocculusref21_SameCommand.f k c.f0 c.f1 c.f2 c.f3.f0.f0 c.f3.f0.f1 c.f3.f1 c.f4.f0 c.f4.f1 c.f5 c.f6 c.f0 c.f1 c.f2 c.f3.f0.f0 c.f3.f0.f1 c.f3.f1 c.f4.f0 c.f4.f1 c.f5 c.f6
def slF (k : Nat) (i : Int) (c : S29) : Option Bool := flocculusref21_SameCommand.l0 k i c.f0 c.f1 c.f2 c.f3.f0.f0 c.f3.f0.f1 c.f3.f1 c.f4.f0 c.f4.f1 c.f5 c.f6 c.f0 c.f1 c.f2 c.f3.f0.f0 c.f3.f0.f1 c.f3.f1 c.f4.f0 c.f4.f1 c.f5 c.f6
theorem scF_slF (k : Nat) (c : S29) : scF (k + 2) c = slF k 0 c := by
  unfold scF slF
  simp [flocculusref21_SameCommand.f, flocculusref21_SameCommand.j0]
theorem slF_end (k i : Nat) (c : S29) (h : i = c.f6.length) : slF (k + 1) (i : Int) c = some true := by
  unfold slF
  simp only [flocculusref21_SameCommand.l0]
  rw [if_neg (by omega)]
theorem slF_step (k i : Nat) (c x : S29) (h : i < c.f6.length) (hx : x = rd_T29 c.f6 (i : Int)) : slF (k + 1) (i : Int) c = (scF k x).bind fun t => if t = true then slF k (wrap64 ((i : Int) + 1)) c else some false := by
  unfold slF scF
  simp only [flocculusref21_SameCommand.l0]
  rw [if_pos (by omega), if_pos (by omega), if_pos (by omega), ← hx]
theorem sc_flat (x : S29) (h : x.f6 = []) (k : Nat) : scF (k + 3) x = some true := by
  rw [scF_slF]
  exact slF_end k 0 x (by rw [h]; rfl)
theorem sc_l (c : S29) (hl : c.f6.length ≤ 255) (hf : ∀ x ∈ c.f6, x.f6 = []) : ∀ (d i : Nat), i + d = c.f6.length → Ev (fun k => slF k (i : Int) c) true
  | 0, i, hi => by
    refine ⟨1, fun k hk => ?_⟩
    obtain ⟨k, rfl⟩ : ∃ k', k = k' + 1 := ⟨k - 1, by omega⟩
    exact slF_end k i c (by omega)
  | d + 1, i, hi => by
    have hil : i < c.f6.length := by omega
    obtain ⟨x, hxe⟩ : ∃ x, x = rd_T29 c.f6 (i : Int) := ⟨_, rfl⟩
    have hx : x.f6 = [] := by rw [hxe, rd_at _ _ hil]; exact hf _ (List.getElem_mem hil)
    obtain ⟨K, e⟩ := sc_l c hl hf d (i + 1) (by omega)
    refine ⟨K + 4, fun k hk => ?_⟩
    obtain ⟨k, rfl⟩ : ∃ k', k = k' + 4 := ⟨k - 4, by omega⟩
    have g : slF (k + 3) ((i + 1 : Nat) : Int) c = some true := e (k + 3) (by omega)
    show slF (k + 3 + 1) (i : Int) c = _
    rw [slF_step _ _ _ x hil hxe, sc_flat x hx, Option.bind_some, if_pos rfl, wrap_of (by omega) (by omega), show (i : Int) + 1 = ((i + 1 : Nat) : Int) by omega, g]
/-- A command is the same as itself. -/
theorem sc_self (c : S29) (hl : c.f6.length ≤ 255) (hf : ∀ x ∈ c.f6, x.f6 = []) : Ev (fun k => scF k c) true := by
  obtain ⟨K, e⟩ := sc_l c hl hf c.f6.length 0 (by omega)
  refine ⟨K + 2, fun k hk => ?_⟩
  obtain ⟨k, rfl⟩ : ∃ k', k = k' + 2 := ⟨k - 2, by omega⟩
  show scF (k + 2) c = _
  rw [scF_slF]
  exact e k (by omega)
end Go.Proofs.Ytliighhedmfgjaa.Cmd
