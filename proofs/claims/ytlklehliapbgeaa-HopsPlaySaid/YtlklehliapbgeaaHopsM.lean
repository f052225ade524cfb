/- The law HopsPlay: the walk for every input. -/
import Derived.Test.YtlklehliapbgeaaHopsW
namespace Go.Proofs.Ytlklehliapbgeaa.Hops
open Go.RowKit Go.Proofs.Ytlklehliapbgeaa.PLev Go.Proofs.YtlklehliapbgeaaW.PrintWords Go.Proofs.YtlklehliapbgeaaW.PrintLast Go.Proofs.YtlklehliapbgeaaW.PrintMore

theorem HopsPlay_walk {w : World} (most : Int) (_ : (Lit.int .i64 most).wf = true) (A : Option Addr) (l : List S38) (cl : Nat) (hC : Kd.C k38 w A l.length l) (_ : l.length ≤ cl) (_ : l.length ≤ maxLen) {B : Nat} (_ : l.length * B ≤ 140737488351232)
    (hok : ∀ y ∈ l, True ∧ (Lit.int .i64 y.f1).wf = true) (_ : World) :
    Calls Try.prog 5 #[.int .i64 most, .slice A l.length cl] w fun e w' => e = .returned (.bool true) ∧ Below w.heap.size w w' := by
  by_cases hl : (l.length : Int) > 200
  · exact HopsPlay_long most A l.length cl w hl
  · refine HopsPlay_in most A cl l w (by omega) hC fun i hi => ?_
    have : rd_T38 l (i : Int) = l[i] := by
      unfold rd_T38
      rw [List.getD_eq_getElem?_getD, Int.toNat_natCast, List.getElem?_eq_getElem hi]; rfl
    rw [this]
    exact (hok _ (List.getElem_mem hi)).2
end Go.Proofs.Ytlklehliapbgeaa.Hops
