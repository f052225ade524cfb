/- What came in and can be read as data, as the print's kinds tell it: whole numbers, bools, strings, structs, slices, of whatever depth; and that a slice that came in takes no more than the row's reach. -/
import Derived.Test.YtjhlgfafjjmooaaDoorWMore
import Derived.SizedLaws
import Derived.ChangeSlices
import Derived.Deep.Slices
namespace Go.Proofs.YtjhlgfafjjmooaaDoor.Opens
open Go.ChangeShapes Go.WideShapes Go.RowKit Go.Deep Go.Proofs.YtjhlgfafjjmooaaDoorW.PrintWords

/-- The cells of type t, read as data with at most n steps, are of the kind d, and ok. -/
def OpensN {α : Type} (P : Program) (t : TypeId) (d : Kd α) (ok : α → Prop) (n : Nat) : Prop :=
  ∀ (H : Type) (enc : TypeId × Value → H) (W : World) (base : Nat) (spare : Nat → Bool) (held : Bool) (fuel : Nat) (cs : List Value) (x : DataW H × List MemPlace), fuel ≤ n → DataW.trod enc P W base spare held fuel t cs = some x → ∃ v, d.K W v cs ∧ ok v
def Opens {α : Type} (P : Program) (t : TypeId) (d : Kd α) (ok : α → Prop) : Prop := ∀ n, OpensN P t d ok n

theorem opens_int {P : Program} {t : TypeId} {k : IntKind} (ht : P.underlying t = some (.int k)) : Opens P t (Kd.int k) (fun n => (Lit.int k n).wf = true) := by
  intro n H enc W base spare held fuel cs x _ h
  obtain ⟨v, rfl, _, hw⟩ := DataW.trod_int ht h
  exact ⟨v, rfl, hw⟩
theorem opens_string {P : Program} {t : TypeId} (ht : P.underlying t = some .string) : Opens P t Kd.string (fun s => s.size ≤ maxLen) := by
  intro n H enc W base spare held fuel cs x _ h
  obtain ⟨v, rfl, _, hw⟩ := DataW.trod_string ht h
  exact ⟨v, rfl, hw⟩
theorem opens_bool {P : Program} {t : TypeId} (ht : P.underlying t = some .bool) : Opens P t Kd.bool (fun _ => True) := by
  intro n H enc W base spare held fuel cs x _ h
  obtain ⟨v, rfl, _⟩ := DataW.trod_bool ht h
  exact ⟨v, rfl, trivial⟩

/-- Fields in line, from cell off on. -/
def FieldsN {α : Type} (P : Program) (fs : List Field) (off : Nat) (d : Kd α) (ok : α → Prop) (n : Nat) : Prop :=
  ∀ (H : Type) (enc : TypeId × Value → H) (W : World) (base : Nat) (spare : Nat → Bool) (held : Bool) (fuel : Nat) (cs : List Value), fuel ≤ n →
    (∀ (i : Nat) (f : Field), fs[i]? = some f → ∃ y : DataW H × List MemPlace, DataW.trod enc P W base spare held fuel f.type ((cs.drop f.offset).take (P.cellsOf f.type)) = some y) → ∃ v, d.K W v ((cs.drop off).take d.sz) ∧ ok v
theorem fields_one {P : Program} {f : Field} {off : Nat} {α : Type} {d : Kd α} {ok : α → Prop} {n : Nat} (ho : f.offset = off) (hs : P.cellsOf f.type = d.sz) (h : OpensN P f.type d ok n) : FieldsN P [f] off d ok n := by
  intro H enc W base spare held fuel cs hn hf
  obtain ⟨y, hy⟩ := hf 0 f rfl
  rw [ho, hs] at hy
  exact h H enc W base spare held fuel _ y hn hy
theorem fields_cons {P : Program} {f : Field} {fs : List Field} {off off' : Nat} {α β : Type} {a : Kd α} {b : Kd β} {oka : α → Prop} {okb : β → Prop} {n : Nat} (ho : f.offset = off) (hs : P.cellsOf f.type = a.sz) (hoff : off' = off + a.sz)
    (h : OpensN P f.type a oka n) (hr : FieldsN P fs off' b okb n) : FieldsN P (f :: fs) off (Kd.pair a b) (fun v => oka v.1 ∧ okb v.2) n := by
  intro H enc W base spare held fuel cs hn hf
  obtain ⟨y, hy⟩ := hf 0 f rfl
  rw [ho, hs] at hy
  obtain ⟨v, hv, hov⟩ := h H enc W base spare held fuel _ y hn hy
  obtain ⟨u, hu, hou⟩ := hr H enc W base spare held fuel cs hn (fun i g hg => hf (i + 1) g hg)
  subst hoff
  refine ⟨(v, u), ⟨_, _, ?_, hv, hu⟩, hov, hou⟩
  show List.take (a.sz + b.sz) (cs.drop off) = _
  rw [List.take_add, List.drop_drop]
theorem opens_struct {P : Program} {t : TypeId} {fs : Array Field} {α β : Type} {d : Kd α} {ok : α → Prop} {n : Nat} (f : β → α) (g : α → β) (hfg : ∀ v, f (g v) = v) (ht : P.underlying t = some (.struct fs)) (hs : P.cellsOf t = d.sz)
    (h : FieldsN P fs.toList 0 d ok n) : OpensN P t (Kd.iso d f) (fun x => ok (f x)) (n + 1) := by
  intro H enc W base spare held fuel cs x hn hx
  obtain ⟨xs, m, rfl, _, hl, hlen, hf⟩ := DataW.trod_struct ht hx
  obtain ⟨v, hv, hov⟩ := h H enc W base spare held m cs (by omega) (fun i fl hfl => by
    have hi : i < fs.toList.length := by
      rcases Nat.lt_or_ge i fs.toList.length with h | h
      · exact h
      · rw [List.getElem?_eq_none h] at hfl; cases hfl
    have h1 := hf i fl (by rw [← Array.getElem?_toList]; exact hfl)
    have hi2 : i < xs.length := by rw [hlen]; simpa using hi
    rw [List.getElem?_eq_getElem hi2] at h1
    exact ⟨_, h1⟩)
  rw [List.drop_zero, ← hs, ← hl, List.take_length] at hv
  exact ⟨g v, by show d.K W (f (g v)) cs; rw [hfg]; exact hv, by show ok (f (g v)); rw [hfg]; exact hov⟩
theorem opensN_zero {P : Program} {t : TypeId} {α : Type} {d : Kd α} {ok : α → Prop} : OpensN P t d ok 0 := by
  intro H enc W base spare held fuel cs x hn h
  obtain rfl : fuel = 0 := by omega
  simp [DataW.trod] at h
theorem opens_of_succ {P : Program} {t : TypeId} {α : Type} {d : Kd α} {ok : α → Prop} (h : ∀ n, OpensN P t d ok (n + 1)) : Opens P t d ok := by
  intro n
  cases n with
  | zero => exact opensN_zero
  | succ n => exact h n
theorem OpensN.weaken {P : Program} {t : TypeId} {α : Type} {d : Kd α} {ok ok' : α → Prop} {n : Nat} (h : OpensN P t d ok n) (ho : ∀ x, ok x → ok' x) : OpensN P t d ok' n := by
  intro H enc W base spare held fuel cs x hn hx
  obtain ⟨v, hv, hov⟩ := h H enc W base spare held fuel cs x hn hx
  exact ⟨v, hv, ho _ hov⟩
theorem Opens.weaken {P : Program} {t : TypeId} {α : Type} {d : Kd α} {ok ok' : α → Prop} (h : Opens P t d ok) (ho : ∀ x, ok x → ok' x) : Opens P t d ok' := fun n => (h n).weaken ho

theorem cells_at {w : World} {base : Nat} {a : Addr} {n : Nat} {cs : List Value} (h : w.cells? base a n = some cs) : cs.length = n ∧ ∀ i u, cs[i]? = some u → w.cell? (a.add i) = some u := by
  unfold World.cells? at h
  split at h
  · have hl := mapM_some_length h
    rw [List.length_range] at hl
    refine ⟨hl, fun i u hu => ?_⟩
    have hi : i < cs.length := by
      rcases Nat.lt_or_ge i cs.length with h | h
      · exact h
      · rw [List.getElem?_eq_none h] at hu; cases hu
    have := mapM_some_get h i i (by rw [List.getElem?_range (by omega)])
    rw [this]; exact hu
  · cases h

theorem opens_slice {P : Program} {t e : TypeId} {α : Type} [Inhabited α] {d : Kd α} {ok : α → Prop} {n : Nat} (ht : P.underlying t = some (.slice e)) (hs : P.cellsOf e = d.sz) (h : OpensN P e d ok n) :
    OpensN P t (Kd.slice e d) (fun xs => xs.length ≤ maxLen ∧ ∀ x ∈ xs, ok x) (n + 1) := by
  intro H enc W base spare held fuel cs x hn hx
  rcases DataW.trod_slice ht hx with ⟨rfl, _⟩ | ⟨a, len, cap, elems, rest, m, rfl, rfl, _, hb, hl, hm, hlen, hel, _, _⟩
  · exact ⟨[], ⟨none, 0, rfl, Nat.le_refl _, ⟨rfl, Nat.zero_le _, fun h => absurd h (Nat.lt_irrefl 0)⟩⟩, Nat.zero_le _, fun x hx => by cases hx⟩
  · have hone : ∀ i, i < len → ∃ v : α, ok v ∧ ∃ c, c.length = d.sz ∧ d.K W v c ∧ ∀ j u, c[j]? = some u → W.cell? (a.add (i * d.sz + j)) = some u := fun i hi => by
      have h1 := hel i hi
      rw [List.getElem?_eq_getElem (by omega)] at h1
      obtain ⟨c, hc, ht⟩ := Option.bind_eq_some_iff.mp h1
      obtain ⟨v, hv, hov⟩ := h H enc W base spare held m c _ (by omega) ht
      obtain ⟨hcl, hcc⟩ := cells_at hc
      refine ⟨v, hov, c, by rw [hcl, hs], hv, fun j u hj => ?_⟩
      have := hcc j u hj
      rw [hs, Go.Deep.add_add] at this
      exact this
    obtain ⟨F, hF⟩ := choose_lt hone
    have hlen' : ((List.range len).map F).length = len := by simp
    have hmax : len ≤ maxLen := Nat.le_trans hl hm
    refine ⟨(List.range len).map F, ⟨some a, cap, by rw [hlen'], by rw [hlen']; exact hl, ?_⟩, by rw [hlen']; exact hmax, fun x hx => ?_⟩
    · rw [hlen']
      refine ⟨hlen', hmax, fun _ => ⟨a, rfl, fun j p hp => ?_⟩⟩
      have hj : j < len := by
        rcases Nat.lt_or_ge j len with h | h
        · exact h
        · rw [List.getElem?_eq_none (by rw [hlen']; exact h)] at hp; cases hp
      rw [List.getElem?_map, List.getElem?_range hj] at hp
      simp only [Option.map_some, Option.some.injEq] at hp
      subst hp
      obtain ⟨_, c, hc, hk, hcell⟩ := hF j hj
      exact ⟨c, hc, hk, hcell⟩
    · obtain ⟨i, hi, rfl⟩ := List.mem_map.mp hx
      exact (hF i (List.mem_range.mp hi)).1
theorem Opens.slice {P : Program} {t e : TypeId} {α : Type} [Inhabited α] {d : Kd α} {ok : α → Prop} (ht : P.underlying t = some (.slice e)) (hs : P.cellsOf e = d.sz) (h : Opens P e d ok) :
    Opens P t (Kd.slice e d) (fun xs => xs.length ≤ maxLen ∧ ∀ x ∈ xs, ok x) := opens_of_succ fun n => opens_slice ht hs (h n)

/-- A slice that came in, as an argument: its elements; its length is within the row's reach. -/
theorem slice_arg {P : Program} {t e : TypeId} {α : Type} [Inhabited α] {d : Kd α} {ok : α → Prop} (ht : P.underlying t = some (.slice e)) (hs : P.cellsOf e = d.sz) (h : Opens P e d ok)
    {H : Type} {enc : TypeId × Value → H} {W : World} {base : Nat} {spare : Nat → Bool} {held : Bool} {a : Option Addr} {len cap : Nat} {x : DataW H} {ps : List MemPlace} {ts : List TypeId} {ds : List (DataW H)} {j : Nat}
    (hsz : (DataW.weightsEach P ts ds).all (· ≤ reachBytes) = true) (hts : ts[j]? = some t) (hds : ds[j]? = some x) {B : Nat} (hB : P.bytesOf e = B)
    (hx : DataW.Trod enc P W base spare held t (.slice a len cap) x ps) :
    ∃ xs : List α, xs.length = len ∧ d.C W a len xs ∧ len ≤ cap ∧ len ≤ maxLen ∧ len * B ≤ 140737488351232 ∧ ∀ y ∈ xs, ok y := by
  obtain ⟨fuel, hf⟩ := hx
  have hf' : DataW.trod enc P W base spare held fuel t [.slice a len cap] = some (x, ps) := by simpa [Value.cells] using hf
  obtain ⟨xs, ⟨A, c, hcs, hle, hC⟩, hmax, hok⟩ := (Opens.slice ht hs h) fuel H enc W base spare held fuel _ _ (Nat.le_refl _) hf'
  simp only [List.cons.injEq, Value.slice.injEq, and_true] at hcs
  obtain ⟨rfl, rfl, rfl⟩ := hcs
  refine ⟨xs, rfl, hC, hle, hmax, ?_, hok⟩
  rcases DataW.trod_slice ht hf' with ⟨hcs, _⟩ | ⟨a', len', cap', elems, rest, m, _, hcs, hxx, _, hl, _, hlen, _, _, _⟩
  · simp only [List.cons.injEq, Value.slice.injEq, and_true] at hcs
    obtain ⟨_, h0, _⟩ := hcs
    rw [h0]; omega
  · simp only [List.cons.injEq, Value.slice.injEq, and_true] at hcs
    obtain ⟨_, rfl, _⟩ := hcs
    obtain ⟨rfl, _⟩ := Prod.mk.inj hxx
    have z := sized_slice hsz hts hds ht
    rw [hB, List.length_map, List.length_map, hlen] at z
    exact Nat.le_trans (Nat.mul_le_mul_right _ (Nat.le_add_right _ _)) z
/-- A struct (or anything of several cells) that came in by value. -/
theorem agg_arg {P : Program} {t : TypeId} {α : Type} {d : Kd α} {ok : α → Prop} (h : Opens P t d ok) {H : Type} {enc : TypeId × Value → H} {W : World} {base : Nat} {spare : Nat → Bool} {held : Bool} {v : Value} {x : DataW H} {ps : List MemPlace}
    (hx : DataW.Trod enc P W base spare held t v x ps) : ∃ y : α, d.K W y v.cells.toList ∧ ok y := by
  obtain ⟨fuel, hf⟩ := hx
  exact h fuel H enc W base spare held fuel _ _ (Nat.le_refl _) hf

end Go.Proofs.YtjhlgfafjjmooaaDoor.Opens
