/- A reply that came in, read as data. -/
import Derived.Test.YtliighhedmfgjaaOpC
import Derived.Test.YtliighhedmfgjaaPt
import Derived.DataShut
namespace Go.Proofs.Ytliighhedmfgjaa.Cmd
open Go.ChangeShapes Go.WideShapes Go.RowKit Go.Deep Go.Proofs.Ytliighhedmfgjaa.Opens Go.Proofs.YtliighhedmfgjaaW.PrintWords

instance : Inhabited PRefD.S70 := ⟨PRefD.z70⟩
def ok24d (x : PRefD.S24) : Prop := (Lit.int .u64 x.f0).wf = true ∧ (Lit.int .u64 x.f1).wf = true
theorem op24d : Opens Try.prog 24 PRefD.k24 ok24d := opens_of_succ fun n => (opens_struct (fun x : PRefD.S24 => (x.f0, x.f1)) (fun p => ⟨p.1, p.2⟩) (fun _ => rfl) Try.underlying24 (by kernel_rfl) (fields_cons rfl (by kernel_rfl) (off' := 1) rfl (opens_int (Try.underlying22) n) (fields_one rfl (by kernel_rfl) (opens_int (Try.underlying22) n)))).weaken fun _ h => h
def ok26d (x : PRefD.S26) : Prop := ok24d x.f0 ∧ (Lit.int .i64 x.f1).wf = true
theorem op26d : Opens Try.prog 26 PRefD.k26 ok26d := opens_of_succ fun n => (opens_struct (fun x : PRefD.S26 => (x.f0, x.f1)) (fun p => ⟨p.1, p.2⟩) (fun _ => rfl) Try.underlying26 (by kernel_rfl) (fields_cons rfl (by kernel_rfl) (off' := 2) rfl (op24d n) (fields_one rfl (by kernel_rfl) (opens_int (Try.underlying3) n)))).weaken fun _ h => h
def ok70d (x : PRefD.S70) : Prop := ok26d x.f0 ∧ (Lit.int .i64 x.f1).wf = true
theorem op70d : Opens Try.prog 70 PRefD.k70 ok70d := opens_of_succ fun n => (opens_struct (fun x : PRefD.S70 => (x.f0, x.f1)) (fun p => ⟨p.1, p.2⟩) (fun _ => rfl) Try.underlying70 (by kernel_rfl) (fields_cons rfl (by kernel_rfl) (off' := 3) rfl (op26d n) (fields_one rfl (by kernel_rfl) (opens_int (Try.underlying3) n)))).weaken fun _ h => h
/-- A reply in memory. -/
def k45 : Kd Rp := Kd.iso (Kd.pair (Kd.int .i64) (Kd.pair (Kd.int .i64) (Kd.pair (Kd.int .i64) (Kd.pair (Kd.int .i64) (Kd.pair (Kd.slice 3 (Kd.int .i64)) (Kd.slice 70 PRefD.k70)))))) (fun x : Rp => (x.e, x.hop, x.n, x.at_, x.P, x.R))
theorem k45_open {w : World} {x : Rp} {cs : List Value} (h : k45.K w x cs) : ∃ A4 c4 A5 c5, cs = [.int .i64 x.e, .int .i64 x.hop, .int .i64 x.n, .int .i64 x.at_, .slice A4 x.P.length c4, .slice A5 x.R.length c5] ∧ x.P.length ≤ c4 ∧ (Kd.int .i64).C w A4 x.P.length x.P ∧ x.R.length ≤ c5 ∧ PRefD.k70.C w A5 x.R.length x.R := by
  obtain ⟨_, _, rfl, rfl, ⟨_, _, rfl, rfl, ⟨_, _, rfl, rfl, ⟨_, _, rfl, rfl, ⟨_, _, rfl, ⟨A4, c4, rfl, l4, g4⟩, ⟨A5, c5, rfl, l5, g5⟩⟩⟩⟩⟩⟩ := h
  exact ⟨A4, c4, A5, c5, rfl, l4, g4, l5, g5⟩
def ok45 (x : Rp) : Prop := (Lit.int .i64 x.e).wf = true ∧ (Lit.int .i64 x.hop).wf = true ∧ (Lit.int .i64 x.n).wf = true ∧ (Lit.int .i64 x.at_).wf = true ∧ (x.P.length ≤ maxLen ∧ ∀ y ∈ x.P, (Lit.int .i64 y).wf = true) ∧ (x.R.length ≤ maxLen ∧ ∀ y ∈ x.R, ok70d y)
theorem op45 : Opens Try.prog 45 k45 ok45 := opens_of_succ fun n => (opens_struct (fun x : Rp => (x.e, x.hop, x.n, x.at_, x.P, x.R)) (fun p => ⟨p.1, p.2.1, p.2.2.1, p.2.2.2.1, p.2.2.2.2.1, p.2.2.2.2.2⟩) (fun _ => rfl) Try.underlying45 (by kernel_rfl)
  (fields_cons rfl (by kernel_rfl) (off' := 1) rfl (opens_int (Try.underlying33) n) (fields_cons rfl (by kernel_rfl) (off' := 2) rfl (opens_int (Try.underlying3) n) (fields_cons rfl (by kernel_rfl) (off' := 3) rfl (opens_int (Try.underlying3) n) (fields_cons rfl (by kernel_rfl) (off' := 4) rfl (opens_int (Try.underlying3) n)
    (fields_cons rfl (by kernel_rfl) (off' := 5) rfl (opensN_slice (Try.underlying42) (by kernel_rfl) n (fun k _ => opens_int (Try.underlying3) k)) (fields_one rfl (by kernel_rfl) (opensN_slice (Try.underlying43) (by kernel_rfl) n (fun k _ => op70d k))))))))).weaken fun _ h => h
theorem u64_wf {n : Int} (h : (Lit.int .u64 n).wf = true) : u64 n := by
  obtain ⟨h1, h2⟩ := (Lit.wf_int_iff _ _).1 h
  have e1 : IntKind.u64.min = 0 := by decide
  have e2 : IntKind.u64.max = 18446744073709551615 := by decide
  rw [e1] at h1
  rw [e2] at h2
  exact ⟨h1, by omega⟩
theorem okD_C {m : Nat} {x : PRefC.S29} (h : okD (m + 1) x) : okC x := ⟨⟨u64_wf h.2.2.2.1.1.1, u64_wf h.2.2.2.1.1.2⟩, u64_wf h.2.2.2.2.1.1, u64_wf h.2.2.2.2.1.2, u64_wf h.2.2.2.2.2.1⟩
theorem ok29_C {x : PRefC.S29} (h : ok29 x) : okC x ∧ (∀ y ∈ x.f6, okA y) ∧ x.f6.length ≤ maxLen := ⟨okD_C h, fun y hy => (okD_C (h.2.2.2.2.2.2.2 y hy)).1, h.2.2.2.2.2.2.1⟩
theorem ok45_R {x : Rp} (h : ok45 x) : ∀ y ∈ x.R, okRt y := fun y hy => ⟨u64_wf (h.2.2.2.2.2.2 y hy).1.1.1, u64_wf (h.2.2.2.2.2.2 y hy).1.1.2⟩
end Go.Proofs.Ytliighhedmfgjaa.Cmd
