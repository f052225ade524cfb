/- The frame of chapter 2's and 3's rows: what is listed gives the walk what the library's variables hold. -/
import Derived.Test.YtjhlgfafjjmooaaDoorRows
import Derived.Test.YtjhlgfafjjmooaaDoorDot
import Derived.Test.YtjhlgfafjjmooaaDoorFub
import Derived.WalkKit
import Derived.ProofKit
import Derived.OpenShut
import Derived.ChangeOld
import Derived.Below
import Derived.LaidMore
import Derived.Lay
import Derived.SevenTiedAt
import Derived.Stop.Joined
import Derived.Stop.LaidErr
import Derived.Shelf.Vars
namespace Go.Proofs.YtjhlgfafjjmooaaDoor.Frame
open Go.ChangeShapes Go.WideShapes Go.ChangeAt Go.RowKit
open Dot
set_option linter.unusedVariables false

theorem own : ownKnob Tryd.prog.godebug = none := by kernel_rfl
/-- The wrap that hands on what is listed and the world's shape. -/
theorem wrap {H : Type} {enc : TypeId × Value → H} {a : Assume} {C : Checked} {os : Os} {f : FuncId} {fn : Func} {s : ChangeSpec} {conds : List PathCond} {apart fresh handsOn again : Bool} {X : World → Array Value → Prop}
    (hX : ∀ (w w' : World) (args : Array Value), w.heap = w'.heap → X w args → X w' args)
    (own : ownKnob C.prog.godebug = none) (started : os.Started) (noInit : C.prog.inits.idxOf? f = none) (hfn : C.prog.funcs[f]? = some fn)
    (witness : ∃ (w : World) (tape : Tape) (i : Input), w.os = os ∧ (w.forCall tape i).Shaped C.prog ∧ i.vars = [] ∧ Input.okWide C.prog (w.forCall tape i) .any w.heap.size f i ∧
      ((s.pre enc C.prog fn conds apart (w.forCall tape i).memory i.args ∧ X (w.forCall tape i).memory i.args) ∧ sizedMet enc C.prog fn (OpenSpec.ofChange s) apart (w.forCall tape i).memory i.args) ∧ a.holds C.prog (lone (Frame.enter C.prog f i.args .normal) [] (w.forCall tape i)))
    (contract : ∀ (W : World) (base : Nat) (args : Array Value) (ds gs : List (DataW H)) (before : List MemPlace),
      (∀ (j : Nat) t v, fn.params[j]? = some t → args[j]? = some v → Value.okWide C.prog W .any base t v) →
      DataW.Whole enc C.prog fn.params.toList s.vars apart W args.toList ds gs before →
      (DataW.weightsEach C.prog (fn.params.toList ++ s.plain.varTypes C.prog) (ds ++ gs)).all (· ≤ reachBytes) = true → X W args → W.ShapedOpen C.prog →
      Calls C.prog f args W fun e W' => ∃ v, e = .returned v ∧ s.post enc C.prog fn apart fresh handsOn again W args v W') :
    ReturnsInHanded a C os f .any (fun w args => (s.pre enc C.prog fn conds apart w args ∧ X w args) ∧ sizedMet enc C.prog fn (OpenSpec.ofChange s) apart w args) (s.post enc C.prog fn apart fresh handsOn again) := by
  refine returnsInHanded_of_calls own started noInit witness ?_
  intro w tape i _ hsh _ hok hpre hholds
  obtain ⟨_, _, _, fn', hfn', _, _, _, _, hval⟩ := hok
  have e : fn' = fn := Option.some.inj (hfn'.symm.trans hfn)
  subst e
  obtain ⟨⟨⟨ds, gs, before, hw, hc⟩, hx⟩, hz⟩ := hpre
  have hw' := DataW.Whole.of_heap (w' := w.forCall tape i) (by rfl) hw
  refine (contract (w.forCall tape i) w.heap.size i.args ds gs before hval hw' (hz.weights hw) (hX _ _ _ (by rfl) hx) hsh).mono fun e W' ⟨v, he, hp⟩ => ?_
  subst he
  exact ChangeSpec.post_blind hp
/-- An array of numbers that is listed. -/
theorem laid_nums {P : Program} {n : String} {k : IntKind} {zs : List Int} {r : List (String × DataW Unit)} {W : World} {g : Nat} {t e : TypeId}
    (h : laidMet P ((n, .agg (zs.map fun z => .lit (.int k z))) :: r) W) (hg : P.globalNamed n = some g) (ht : (P.globals[g]?).map (·.type) = some t) (hu : P.underlying t = some (.array zs.length e)) (he : P.underlying e = some (.int k)) (hc : P.cellsOf e = 1) (hct : P.cellsOf t = zs.length) :
    Lib.TabIs P W n k zs := by
  obtain ⟨ps, ⟨g0, t0, cs, fuel, p, q, hg0, ht0, hv, hd, _, _⟩, _, _⟩ := h
  obtain rfl := Option.some.inj (hg.symm.trans hg0)
  obtain rfl := Option.some.inj (ht.symm.trans ht0)
  obtain ⟨xs, m, _, ex, hcl, hl, hel⟩ := DataW.trod_array hu hd
  unfold Lib.TabIs
  rw [hv]
  refine congrArg some (Array.ext' ?_)
  rw [List.toList_toArray]
  refine List.ext_getElem? fun i => ?_
  by_cases hi : i < zs.length
  · have hE := hel i hi
    rw [hc, Nat.mul_one, List.getElem?_eq_getElem (by omega)] at hE
    obtain ⟨z, e1, e2, _⟩ := DataW.trod_int he hE
    have e3 : xs.map (·.1) = zs.map fun z => .lit (.int k z) := (DataW.agg.inj (Prod.mk.inj ex).1).symm
    have e4 : (xs.map (·.1))[i]? = (zs.map fun z => (DataW.lit (.int k z) : DataW Unit))[i]? := by rw [e3]
    rw [List.getElem?_map, List.getElem?_map, List.getElem?_eq_getElem (by omega : i < xs.length), List.getElem?_eq_getElem hi, e2] at e4
    have hz : z = zs[i] := by simpa using e4
    have h0 : ((cs.toList.drop i).take 1)[0]? = some (.int k z) := by rw [e1]; rfl
    rw [List.getElem?_map, List.getElem?_eq_getElem hi, Option.map_some, ← hz]
    simpa using h0
  · rw [List.getElem?_eq_none (by rw [hcl, hct]; omega), List.getElem?_eq_none (by rw [List.length_map]; omega)]

/-! ### What is listed gives the walk what the library's variables hold -/
theorem star : "*" ++ "errors.errorString" = "*errors.errorString" := by decide
theorem row126 (u : TypeId) (h : Tryd.prog.typeName? 3 u = some "*errors.errorString") : u = 126 :=
  typeName_ptr_named (nm := "errors.errorString") (by rw [star]; kernel_rfl) (by kernel_rfl) (by decide) u (by rw [star]; exact h)
theorem c128 : Tryd.prog.cellsOf 128 = 1 := by kernel_rfl
theorem c9 : Tryd.prog.cellsOf 9 = 1 := by kernel_rfl
theorem c22 : Tryd.prog.cellsOf 22 = 1 := by kernel_rfl
theorem c117 : Tryd.prog.cellsOf 117 = Lib.pow10Tab.length := by kernel_rfl
theorem tS : (Tryd.prog.globals[1]?).map (·.type) = some 69 := by kernel_rfl
theorem tR : (Tryd.prog.globals[2]?).map (·.type) = some 69 := by kernel_rfl
theorem tT : (Tryd.prog.globals[3]?).map (·.type) = some 117 := by kernel_rfl
theorem env_of {W : World} (h : laidMetH Tryd.prog Rows.cidrWrongRow.laid W) (hsh : W.ShapedOpen Tryd.prog) : Env W := by
  rw [MakeChecks.laidMetH_plain _ _ _ (by kernel_rfl)] at h
  have h2 : laidMet Tryd.prog [("internal/strconv.uint64pow10", Rows.laid_internal_strconv_uint64pow10), ("unicode/utf8.acceptRanges", Rows.laid_unicode_utf8_acceptRanges), ("strconv.ErrRange", Rows.laid_strconv_ErrRange), ("strconv.ErrSyntax", Rows.laid_strconv_ErrSyntax), ("unicode/utf8.first", Rows.laid_unicode_utf8_first)] W := (laidMet.tail (laidMet.tail h))
  have h4 := laidMet.tail (laidMet.tail h2)
  have h5 := laidMet.tail h4
  have tab : Lib.TabIs Tryd.prog W "internal/strconv.uint64pow10" .u64 Lib.pow10Tab := laid_nums (zs := Lib.pow10Tab) h2 gT tT Tryd.underlying117 Tryd.underlying22 c22 c117
  obtain ⟨a0, s0, hr, -, -, -⟩ := laid_sentinel h4 gR tR Tryd.underlying69 row126 Tryd.underlying126 Tryd.underlying128 rfl rfl Tryd.underlying9 c128 c9
  obtain ⟨a1, s1, hs, -, -, -⟩ := laid_sentinel h5 gS tS Tryd.underlying69 row126 Tryd.underlying126 Tryd.underlying128 rfl rfl Tryd.underlying9 c128 c9
  have hm : ∃ m, W.cell? ⟨0, 0, none⟩ = some (.int .i64 m) := Go.Proofs.cell_of_shapedOpen_int (t := 3) (zero := #[.int .i64 0]) hsh (of_decide_eq_true (by kernel_rfl)) (by kernel_rfl) rfl (by kernel_rfl) (by kernel_rfl) Tryd.underlying3
  refine ⟨hm, tab, ⟨_, _, hs⟩, ⟨_, _, hr⟩, ?_⟩
  rcases Nat.lt_or_ge 3 W.heap.size with h' | h'
  · exact h'
  · exfalso
    unfold Lib.TabIs World.var? at tab
    simp [gT, Array.getElem?_eq_none h'] at tab

def db64 : List Int := [0, 1, 56, 2, 57, 49, 28, 3, 61, 58, 42, 50, 38, 29, 17, 4, 62, 47, 59, 36, 45, 43, 51, 22, 53, 39, 33, 30, 24, 18, 12, 5, 63, 55, 48, 27, 60, 41, 37, 16, 46, 35, 44, 21, 52, 32, 23, 11, 54, 26, 40, 15, 34, 20, 31, 10, 25, 14, 19, 9, 13, 8, 7, 6]
theorem c5 : Tryd.prog.cellsOf 5 = 1 := by kernel_rfl
theorem c131 : Tryd.prog.cellsOf 131 = db64.length := by kernel_rfl
theorem tD : (Tryd.prog.globals[7]?).map (·.type) = some 131 := by kernel_rfl
theorem env2_of {W : World} (h : laidMetH Tryd.prog Rows.cidrWrongRow.laid W) (hsh : W.ShapedOpen Tryd.prog) : Env2 W := by
  have e := env_of h hsh
  rw [MakeChecks.laidMetH_plain _ _ _ (by kernel_rfl)] at h
  have h1 : laidMet Tryd.prog [("math/bits.deBruijn64tab", Rows.laid_math_bits_deBruijn64tab), ("internal/strconv.uint64pow10", Rows.laid_internal_strconv_uint64pow10), ("unicode/utf8.acceptRanges", Rows.laid_unicode_utf8_acceptRanges), ("strconv.ErrRange", Rows.laid_strconv_ErrRange), ("strconv.ErrSyntax", Rows.laid_strconv_ErrSyntax), ("unicode/utf8.first", Rows.laid_unicode_utf8_first)] W := laidMet.tail h
  have tab : Lib.TabIs Tryd.prog W "math/bits.deBruijn64tab" .u8 db64 := laid_nums (zs := db64) h1 gD tD Tryd.underlying131 Tryd.underlying5 c5 c131
  unfold Lib.TabIs World.var? at tab
  simp only [gD] at tab
  simp only [Option.bind_some] at tab
  cases hh : W.heap[7]? with
  | none => rw [hh] at tab; cases tab
  | some o =>
    rw [hh] at tab
    have hlt : 7 < W.heap.size := (Array.getElem?_eq_some_iff.1 hh).1
    cases o with
    | cells cs el fz =>
      have hcs : cs = (List.map (fun z => Value.int IntKind.u8 z) db64).toArray := Option.some.inj tab
      subst hcs
      refine ⟨e, ?_, by omega⟩
      unfold World.cell?
      rw [hh]
      rfl
    | _ => cases tab
end Go.Proofs.YtjhlgfafjjmooaaDoor.Frame
