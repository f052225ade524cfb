/- A command that came in, read as data: what its fields are, batch in batch. -/
import Derived.Test.YtliighhedmfgjaaOpens
import Derived.Test.YtliighhedmfgjaaPRefCx0
namespace Go.Proofs.Ytliighhedmfgjaa.Cmd
open Go.ChangeShapes Go.WideShapes Go.RowKit Go.Deep Go.Proofs.Ytliighhedmfgjaa.PRefC Go.Proofs.Ytliighhedmfgjaa.Opens Go.Proofs.YtliighhedmfgjaaW.PrintWords

instance : Inhabited S29 := ⟨z29⟩
def ok24 (x : S24) : Prop := (Lit.int .u64 x.f0).wf = true ∧ (Lit.int .u64 x.f1).wf = true
theorem op24 : Opens Try.prog 24 k24 ok24 := opens_of_succ fun n => (opens_struct (fun x : S24 => (x.f0, x.f1)) (fun p => ⟨p.1, p.2⟩) (fun _ => rfl) Try.underlying24 (by kernel_rfl) (fields_cons rfl (by kernel_rfl) (off' := 1) rfl (opens_int (Try.underlying22) n) (fields_one rfl (by kernel_rfl) (opens_int (Try.underlying22) n)))).weaken fun _ h => h
def ok26 (x : S26) : Prop := ok24 x.f0 ∧ (Lit.int .i64 x.f1).wf = true
theorem op26 : Opens Try.prog 26 k26 ok26 := opens_of_succ fun n => (opens_struct (fun x : S26 => (x.f0, x.f1)) (fun p => ⟨p.1, p.2⟩) (fun _ => rfl) Try.underlying26 (by kernel_rfl) (fields_cons rfl (by kernel_rfl) (off' := 2) rfl (op24 n) (fields_one rfl (by kernel_rfl) (opens_int (Try.underlying3) n)))).weaken fun _ h => h
/-- Its fields, down to so many batches in batches. -/
def okD : Nat → S29 → Prop
  | 0, _ => True
  | m + 1, x => (Lit.int .i64 x.f0).wf = true ∧ (Lit.int .i64 x.f1).wf = true ∧ (Lit.int .i64 x.f2).wf = true ∧ ok26 x.f3 ∧ ok24 x.f4 ∧ (Lit.int .u64 x.f5).wf = true ∧ (x.f6.length ≤ maxLen ∧ ∀ y ∈ x.f6, okD m y)
theorem k29_fold {w : World} {x : S29} {cs : List Value} (h : (F29 k29).K w x cs) : k29.K w x cs := by
  obtain ⟨_, _, rfl, rfl, ⟨_, _, rfl, rfl, ⟨_, _, rfl, rfl, ⟨_, _, rfl, s3, ⟨_, _, rfl, s6, ⟨_, _, rfl, rfl, ⟨A9, c9, rfl, l9, g9⟩⟩⟩⟩⟩⟩⟩ := h
  obtain rfl := k26_open s3
  obtain rfl := k24_open s6
  exact k29_mk w x l9 g9
theorem opensN_slice {α : Type} [Inhabited α] {P : Program} {t e : TypeId} {d : Kd α} {ok : α → Prop} (ht : P.underlying t = some (.slice e)) (hs : P.cellsOf e = d.sz) : ∀ n, (∀ m, m < n → OpensN P e d ok m) → OpensN P t (Kd.slice e d) (fun xs => xs.length ≤ maxLen ∧ ∀ x ∈ xs, ok x) n
  | 0, _ => opensN_zero
  | n + 1, h => opens_slice ht hs (h n (Nat.lt_succ_self n))
theorem op29_all : ∀ (n m : Nat), OpensN Try.prog 29 k29 (okD m) n := by
  intro n
  induction n using Nat.strongRecOn with
  | _ n ih =>
  cases n with
  | zero => exact fun _ => opensN_zero
  | succ n =>
    have key : ∀ m, OpensN Try.prog 29 (F29 k29) (okD (m + 1)) (n + 1) := fun m =>
      (opens_struct (fun x : S29 => (x.f0, x.f1, x.f2, x.f3, x.f4, x.f5, x.f6)) (fun p => ⟨p.1, p.2.1, p.2.2.1, p.2.2.2.1, p.2.2.2.2.1, p.2.2.2.2.2.1, p.2.2.2.2.2.2⟩) (fun _ => rfl) Try.underlying29 (by kernel_rfl)
        (fields_cons rfl (by kernel_rfl) (off' := 1) rfl (opens_int (Try.underlying3) n) (fields_cons rfl (by kernel_rfl) (off' := 2) rfl (opens_int (Try.underlying3) n) (fields_cons rfl (by kernel_rfl) (off' := 3) rfl (opens_int (Try.underlying3) n)
          (fields_cons rfl (by kernel_rfl) (off' := 6) rfl (op26 n) (fields_cons rfl (by kernel_rfl) (off' := 8) rfl (op24 n) (fields_cons rfl (by kernel_rfl) (off' := 9) rfl (opens_int (Try.underlying22) n)
            (fields_one rfl (by kernel_rfl) (opensN_slice (Try.underlying27) (by kernel_rfl) n (fun k hk => ih k (by omega) m)))))))))).weaken fun _ h => h
    intro m H enc W base spare held fuel cs x hn hx
    cases m with
    | zero =>
      obtain ⟨v, hv, _⟩ := key 0 H enc W base spare held fuel cs x hn hx
      exact ⟨v, k29_fold hv, trivial⟩
    | succ m =>
      obtain ⟨v, hv, hov⟩ := key m H enc W base spare held fuel cs x hn hx
      exact ⟨v, k29_fold hv, hov⟩
/-- A command's fields, and those of what is in its batch. -/
def ok29 (x : S29) : Prop := okD 2 x
theorem op29 : Opens Try.prog 29 k29 ok29 := fun n => op29_all n 2
end Go.Proofs.Ytliighhedmfgjaa.Cmd
