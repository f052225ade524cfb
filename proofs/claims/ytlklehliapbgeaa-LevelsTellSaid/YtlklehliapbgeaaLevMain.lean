/- Package levels: what Choose answers, whole. -/
import Derived.Test.YtlklehliapbgeaaLevChoose
import Derived.Deep.RegionHeld3
import Derived.Deep.RegionLaw
import Derived.Deep.AppendLies
import Derived.StillTactics
namespace Go.Proofs.Ytlklehliapbgeaa.Lev
open Go.RowKit Go.Proofs.Ytlklehliapbgeaa.PLev Go.Proofs.YtlklehliapbgeaaW.PrintWords Go.Proofs.YtlklehliapbgeaaW.PrintLast Go.Proofs.YtlklehliapbgeaaW.PrintMore Go.Proofs.Ytlklehliapbgeaa.Histo

/-- The rows of ways that are made so far. -/
def Ways (W : World) (base : Nat) (c : List Int) (width stride : Nat) (v : Value) (k : Nat) : Prop :=
  ∃ vs : List Value, W.ownsRow base 82 1 v vs.length vs ∧ vs.length = k ∧ ∀ i, i < k → ∃ g, base ≤ g ∧ vs[i]? = some (.slice (some ⟨g, 0, none⟩) (width + 1) (width + 1)) ∧ Is W g (waysL c width stride i)
theorem Ways.below {W W1 : World} {base : Nat} {c : List Int} {width stride : Nat} {v : Value} {k : Nat} (h : Ways W base c width stride v k) (hb : Below W.heap.size W W1) : Ways W1 base c width stride v k := by
  obtain ⟨vs, ho, hl, hi⟩ := h
  exact ⟨vs, pw_own_below ho hb, hl, fun i hik => by
    obtain ⟨g, h1, h2, h3⟩ := hi i hik
    exact ⟨g, h1, h2, h3.moved (hb.block g h3.lt)⟩⟩
theorem Ways.get {W : World} {base : Nat} {c : List Int} {width stride : Nat} {v : Value} {k : Nat} (h : Ways W base c width stride v k) (i : Nat) (hi : i < k) :
    ∃ gv cap g, v = .slice (some ⟨gv, 0, none⟩) k cap ∧ base ≤ gv ∧ gv < W.heap.size ∧ W.cell? ⟨gv, i, none⟩ = some (.slice (some ⟨g, 0, none⟩) (width + 1) (width + 1)) ∧ Is W g (waysL c width stride i) := by
  obtain ⟨vs, ho, hl, hv⟩ := h
  obtain ⟨g, h1, h2, h3⟩ := hv i hi
  have hlt := own_lt ho
  have hbs := own_base ho
  rcases ho.2 with ⟨_, h0⟩ | ⟨gv, cap, cur, hve, _⟩
  · omega
  · subst hve
    have hc := ho.cells (g := gv) rfl i _ h2
    rw [add_plain] at hc
    rw [hl]
    exact ⟨gv, cap, g, rfl, hbs gv (by simp [Value.ownBlock]), hlt gv (by simp [Value.ownBlock]), hc, h3⟩
theorem Ways.form {W : World} {base : Nat} {c : List Int} {width stride : Nat} {v : Value} {k : Nat} (h : Ways W base c width stride v k) : ∃ A cap, v = .slice A k cap := by
  obtain ⟨vs, ho, hl, _⟩ := h
  rw [← hl]
  exact own_slice ho
theorem ways_nil (W : World) (base : Nat) (c : List Int) (width stride : Nat) : Ways W base c width stride (.slice none 0 0) 0 := ⟨[], own_nil _ _ _ _, rfl, fun i hi => by omega⟩

def St (w wr : World) (cb width stride : Nat) (A : Option Addr) (cA : Nat) (counts : List Int) (v : Value) (k : Nat) : Prop :=
  wr.heap[cb]? = some (.cells #[.int .i64 width, .int .i64 stride, .slice A counts.length cA, v] 81 (0, 0)) ∧ Ways wr w.heap.size counts width stride v k ∧ Below w.heap.size w wr ∧ wr.ownsRow w.heap.size 3 1 (.slice A counts.length cA) counts.length (nums .i64 counts)

theorem fr_alloc {W : World} {o : Obj} {cb i : Nat} (h : cb < W.heap.size) : (W.alloc o).frozen? ⟨cb, i, none⟩ = W.frozen? ⟨cb, i, none⟩ := ((Below.refl _ _).alloc (Nat.le_refl _) o).frozen (p := ⟨cb, i, none⟩) h
theorem typed_ne {W : World} {base : Nat} {v : Value} {n : Nat} {vs : List Value} {g : Nat} {cs : Array Value} {t : TypeId} (ho : W.ownsRow base 82 1 v n vs) (hb : W.heap[g]? = some (.cells cs t (0, 0))) (ht : t ≠ 82) : some g ≠ v.ownBlock := fun e => by
  obtain ⟨cells, hc⟩ := own_typed ho g e.symm
  rw [hb] at hc
  injection hc with hc
  injection hc with _ hc
  exact ht hc
theorem cb_kept {w4 w5 : World} {base : Nat} {v : Value} {n : Nat} {vs : List Value} {g : Nat} {cs : Array Value} {t : TypeId} (ho : w4.ownsRow base 82 1 v n vs) (hb : w4.heap[g]? = some (.cells cs t (0, 0))) (ht : t ≠ 82) (hg : w4.grownBy w5 v.ownBlock) : w5.heap[g]? = some (.cells cs t (0, 0)) :=
  (hg.block g (blk_lt hb) (typed_ne ho hb ht)).trans hb
theorem ways_append {w4 w5 : World} {base : Nat} {c : List Int} {width stride : Nat} {v v5 : Value} {vs : List Value} {k g : Nat} (ho : w4.ownsRow base 82 1 v vs.length vs) (hl : vs.length = k)
    (hi : ∀ i, i < k → ∃ g, base ≤ g ∧ vs[i]? = some (.slice (some ⟨g, 0, none⟩) (width + 1) (width + 1)) ∧ Is w4 g (waysL c width stride i))
    (hown5 : w5.ownsRow base 82 1 v5 (vs.length + 1) (vs ++ [.slice (some ⟨g, 0, none⟩) (width + 1) (width + 1)])) (hg5 : w4.grownBy w5 v.ownBlock) (hI : Is w4 g (waysL c width stride k)) (hg : base ≤ g) : Ways w5 base c width stride v5 (k + 1) := by
  have mv : ∀ {g' l}, Is w4 g' l → Is w5 g' l := fun {g' l} h => by
    obtain ⟨cs, hb, h1, h2⟩ := h
    exact ⟨cs, cb_kept ho hb (by decide) hg5, h1, h2⟩
  refine ⟨vs ++ [.slice (some ⟨g, 0, none⟩) (width + 1) (width + 1)], by rw [List.length_append]; exact hown5, by simp [hl], fun i hik => ?_⟩
  by_cases e : i = k
  · subst e
    exact ⟨g, hg, by rw [List.getElem?_append_right (by omega), hl]; simp, mv hI⟩
  · obtain ⟨g', h1, h2, h3⟩ := hi i (by omega)
    exact ⟨g', h1, by rw [List.getElem?_append_left (by omega)]; exact h2, mv h3⟩
theorem ways_set {W : World} {base : Nat} {c : List Int} {width stride : Nat} {v : Value} {k cb : Nat} {cs : Array Value} (h : Ways W base c width stride v k) (hb : W.heap[cb]? = some (.cells cs 81 (0, 0))) (j : Nat) (u : Value) : Ways (W.setCell ⟨cb, j, none⟩ u) base c width stride v k := by
  obtain ⟨vs, ho, hl, hi⟩ := h
  refine ⟨vs, own_setCell (p := ⟨cb, j, none⟩) ho (typed_ne ho hb (by decide)) u, hl, fun i hik => ?_⟩
  obtain ⟨g, h1, h2, cs', hb', h3, h4⟩ := hi i hik
  exact ⟨g, h1, h2, cs', blk_far (p := ⟨cb, j, none⟩) hb' (fun e => by
    have e' : g = cb := e
    rw [e', hb] at hb'
    injection hb' with hb'
    injection hb' with _ hb'
    cases hb') u, h3, h4⟩
theorem St.next {w1 wr w4 w5 : World} {cb width stride n : Nat} {A : Option Addr} {cA k : Nat} {counts : List Int} {v v5 : Value} {vs : List Value} {gv5 : Option Addr} {cap5 : Nat}
    (_ : St w1 wr cb width stride A cA counts v k) (hcb : w1.heap.size ≤ cb) (e5 : w5.heap[cb]? = some (.cells #[.int .i64 width, .int .i64 stride, .slice A counts.length cA, v5] 81 (0, 0)))
    (hW : Ways w5 w1.heap.size counts width stride (.slice gv5 n cap5) (k + 1)) (hB5 : Below w1.heap.size w1 w5)
    (hc : w4.ownsRow w1.heap.size 3 1 (.slice A counts.length cA) counts.length (nums .i64 counts)) (ho : w4.ownsRow w1.heap.size 82 1 v vs.length vs) (hg5 : w4.grownBy w5 v.ownBlock) :
    St w1 (w5.setCell ⟨cb, 3, none⟩ (.slice gv5 n cap5)) cb width stride A cA counts (.slice gv5 n cap5) (k + 1) := by
  have hc5 := own_other hc hg5 (own_type_ne hc ho (by decide))
  exact ⟨blk_set e5 3 _, ways_set hW e5 3 _, hB5.setCell (p := ⟨cb, 3, none⟩) hcb _, own_setCell (p := ⟨cb, 3, none⟩) hc5 (own_ne hc5 e5 (by decide)) _⟩

theorem info82 : (Try.prog.info? 82).map (fun i => (i.zero, i.size, i.bytes)) = some (some (.slice none 0 0), 1, 24) := by kernel_rfl

theorem St.drew {w1 wr : World} {cb width stride : Nat} {A : Option Addr} {cA k : Nat} {counts : List Int} {v : Value} (h : St w1 wr cb width stride A cA counts v k) : St w1 wr.drew cb width stride A cA counts v k := by
  obtain ⟨h1, ⟨vs, ho, hl, hi⟩, h3, h4⟩ := h
  exact ⟨h1, ⟨vs, own_drew ho, hl, hi⟩, below_drew h3, own_drew h4⟩
def St2 (w wr : World) (cb width stride : Nat) (A : Option Addr) (cA : Nat) (counts : List Int) (v : Value) (k : Nat) (vo : Value) (acc : List Int) : Prop :=
  wr.heap[cb]? = some (.cells #[.int .i64 width, .int .i64 stride, .slice A counts.length cA, v] 81 (0, 0)) ∧ Ways wr w.heap.size counts width stride v k ∧ Below w.heap.size w wr ∧ wr.ownsRow w.heap.size 3 1 vo acc.length (nums .i64 acc)
theorem St2.next {w1 wr w2 : World} {cb width stride : Nat} {A : Option Addr} {cA k : Nat} {counts : List Int} {v vo vo2 : Value} {acc acc2 : List Int}
    (h : St2 w1 wr cb width stride A cA counts v k vo acc) (hown : w2.ownsRow w1.heap.size 3 1 vo2 acc2.length (nums .i64 acc2)) (hB : Below w1.heap.size w1 w2) (hg : wr.grownBy w2 vo.ownBlock) : St2 w1 w2 cb width stride A cA counts v k vo2 acc2 := by
  obtain ⟨h1, ⟨vs, ho, hl, hi⟩, h3, h4⟩ := h
  refine ⟨(hg.block cb (blk_lt h1) (own_ne h4 h1 (by decide))).trans h1, ⟨vs, own_other ho hg (own_type_ne ho h4 (by decide)), hl, fun i hik => ?_⟩, hB, hown⟩
  obtain ⟨g, e1, e2, cs, hb, e3, e4⟩ := hi i hik
  exact ⟨g, e1, e2, cs, (hg.block g (blk_lt hb) (own_ne h4 hb (by decide))).trans hb, e3, e4⟩
theorem row_next (W : World) (w1 : World) (cb : Nat) (width stride k : Nat) (A : Option Addr) (cA : Nat) (counts : List Int) (v : Value) (g : Nat)
    (hS : St w1 W cb width stride A cA counts v (k + 1)) (hI : Is W g (waysL counts width stride k)) (hw : width ≤ 128) (hs : 1 ≤ stride ∧ stride ≤ 20) (hk : k ≤ 200) :
    Calls Try.prog 51 #[.pointer (some ⟨cb, 0, none⟩), (.slice (some ⟨g, 0, none⟩) (width + 1) (width + 1))] W fun e w' => ∃ g', e = .returned (.slice (some ⟨g', 0, none⟩) (width + 1) (width + 1)) ∧ W.heap.size ≤ g' ∧ Is w' g' (waysL counts width stride (k + 1)) ∧ Below W.heap.size W w' := by
  have hok := ways_ok counts width stride hw hs k (by omega)
  obtain ⟨A', c', he, hr⟩ := own_reads hS.2.2.2
  injection he with he1 _ he2
  subst he1
  have := row_some W cb width stride A cA counts v g (width + 1) (waysL counts width stride k) (Kd.C_of_reads (d := (0 : Int)) (h1 := fun _ => rfl) hr) (own_le hS.2.2.2) hI (fun m hm => (hok m hm).1) (waysL_length _ _ _ _) hs (fun m hm => Int.le_trans (hok m hm).2 (by omega)) hS.1 hw
  rw [waysL_length] at this
  exact this

set_option maxRecDepth 20000 in
set_option maxHeartbeats 4000000 in
theorem choose_yes (w : World) (width low most stride : Nat) (A0 : Option Addr) (c0 : Nat) (counts : List Int) (hC : Kd.C (Kd.int .i64) w A0 counts.length counts) (hb8 : counts.length * 8 ≤ 140737488351232)
    (h1 : 1 ≤ width) (h2 : width ≤ 128) (h3 : low ≤ width) (h4 : most ≤ 128) (h5 : 1 ≤ stride) (h6 : stride ≤ 20) :
    Calls Try.prog 35 #[.int .i64 width, .int .i64 low, .int .i64 most, .int .i64 stride, .slice A0 counts.length c0] w fun e w' =>
      ∃ v, e = .returned (.tuple #[v, .int .i64 (chooseP width low most stride counts).2]) ∧ (Kd.int .i64).R 3 w' w.heap.size (fun _ => True) v (chooseP width low most stride counts).1 ∧ Below w.heap.size w w' := by
  have HC := Lib.hid hC
  clear hC
  go_enter Try.func35, Try.ntmps35
  go_wp2_with fail
  refine (may_yes _ _ _ _ _ (by omega) (by omega) (by omega) (by omega) (by omega) (by omega) (by omega) (by omega)).mono ?_
  rintro e w1 ⟨rfl, rfl⟩
  go_wp2_with fail
  refine (clone_any _ _ _ _ HC.out (by omega)).mono ?_
  rintro e w2 ⟨A, cA, rfl, hC2, hB2⟩
  go_wp2_with fail
  have hB3 : Below w1.heap.size w1 (w2.alloc (.cells #[.int .i64 width, .int .i64 stride, .slice A counts.length cA, .slice none 0 0] 81)) := hB2.alloc hB2.size _
  have hcb : w1.heap.size ≤ w2.heap.size := hB2.size
  have hS : St w1 (w2.alloc (.cells #[.int .i64 width, .int .i64 stride, .slice A counts.length cA, .slice none 0 0] 81)) w2.heap.size width stride A cA counts (.slice none 0 0) 0 :=
    ⟨heap_alloc_new _ _, ways_nil _ _ _ _ _, hB3, own_alloc hC2 _⟩
  generalize (w2.alloc (.cells #[.int .i64 width, .int .i64 stride, .slice A counts.length cA, .slice none 0 0] 81)) = w3 at hS ⊢
  generalize w2.heap.size = cb at hS hcb ⊢
  clear hB2 hB3 hC2 HC
  have HS := Lib.hid hS
  clear hS
  go_loopw [32] (fun i wr => ∃ (k : Nat) (v : Value), k ≤ most + 1 ∧ i = .int .i64 k ∧ Hid (St w1 wr cb width stride A cA counts v k)) (fun i _ => most + 1 - (intOf i).toNat)
  case atStart => exact ⟨0, _, by omega, rfl, HS.out⟩
  case round =>
    clear HS
    obtain ⟨k, v, hk, rfl, HS⟩ := hrel
    by_cases hlt : k < most + 1
    · obtain ⟨A', cap', hv⟩ := HS.out.2.1.form
      cases k with
      | zero =>
        have q3 := blk_cell HS.out.1 3
        simp only [List.getElem?_toArray, List.getElem?_cons_zero, List.getElem?_cons_succ] at q3
        subst hv
        obtain ⟨vs, ho, hvl, hvi⟩ := HS.out.2.1
        have f3 := blk_frozen HS.out.1 3
        have hcbs : cb < wr.heap.size := blk_lt HS.out.1
        have HO := Lib.hid ho
        have HVI := Lib.hid hvi
        have hvlb : vs.length ≤ 200 := by omega
        have HVL := Lib.hid hvl
        clear ho hvl hvi
        go_wp2_with fail
        go_region_law
          (first
            | (go_simp; go_at_call 51; refine (row_none wr.drew cb width stride A cA counts (.slice A' 0 cap') HS.out.1 h2).mono ?_; rintro e w4 ⟨g, rfl, hg, hI, hb4⟩; have q3' : w4.cell? ⟨cb, 3, none⟩ = some (.slice A' 0 cap') := (hb4.cell (p := ⟨cb, 3, none⟩) hcbs).trans q3; have hcb4 : cb < w4.heap.size := Nat.lt_of_lt_of_le hcbs hb4.size; have hB4 : Below w1.heap.size w1 w4 := (below_drew HS.out.2.2.1).trans (hb4.mono HS.out.2.2.1.size); have HO4 := Lib.hid (pw_own_below (w := wr.drew) HO.out hb4); have HS4 := Lib.hid ((hb4.block cb hcbs).trans HS.out.1); clear q3 f3)
            | (refine step_append_cells (w0 := w1) w1.heap.size (by rfl) _ _ 79 82 (.slice none 0 0) 1 24 (by rfl) Try.underlying79 info82 rfl (by decide) (by decide) (.slice A' 0 cap') vs.length vs [.slice (some ⟨g, 0, none⟩) (width + 1) (width + 1)] (by rfl) (by rfl) rfl (by simp [Value.oneCell']) HO4.out hB4 hB4.size (by omega) ?_; intro v5 w5 hown5 hB5 hg5 hat5; obtain ⟨gv5, cap5, hv5⟩ := own_slice hown5; subst hv5; have e5 := cb_kept HO4.out HS4.out (by decide) hg5; have q5 := blk_cell e5 3; have f5 := blk_frozen e5 3; simp only [List.getElem?_toArray, List.getElem?_cons_zero, List.getElem?_cons_succ] at q5; have hW5 := ways_append HO4.out HVL.out (fun i hi => by omega) hown5 hg5 hI (Nat.le_trans HS.out.2.2.1.size hg); have HW5 := Lib.hid hW5; have HE5 := Lib.hid e5; clear e5 hW5))
        all_goals go_wp2
        all_goals (refine ⟨⟨0 + 1, .slice gv5 (vs.length + 1) cap5, by omega, by go_num, ?_⟩, by simp [intOf] <;> omega⟩)
        all_goals (exact St.next HS.out hcb HE5.out HW5.out hB5 (pw_own_below (w := wr.drew) (own_drew HS.out.2.2.2) hb4) HO4.out hg5)
      | succ k =>
        have q3 := blk_cell HS.out.1 3
        simp only [List.getElem?_toArray, List.getElem?_cons_zero, List.getElem?_cons_succ] at q3
        subst hv
        obtain ⟨gv, capv, g0, hve, hgv1, hgv2, hcell, hI0⟩ := HS.out.2.1.get k (by omega)
        injection hve with hve1 _ hve2
        subst hve1
        subst hve2
        have hI0' := Lib.hid hI0
        clear hI0
        obtain ⟨vs, ho, hvl, hvi⟩ := HS.out.2.1
        have f3 := blk_frozen HS.out.1 3
        have hcbs : cb < wr.heap.size := blk_lt HS.out.1
        have HO := Lib.hid ho
        have HVI := Lib.hid hvi
        have hvlb : vs.length ≤ 200 := by omega
        have HVL := Lib.hid hvl
        clear ho hvl hvi
        have hrow := row_next wr.drew w1 cb width stride k A cA counts (.slice (some ⟨gv, 0, none⟩) (k + 1) cap') g0 HS.out.drew hI0'.out h2 ⟨h5, h6⟩ (by omega)
        have HROW := Lib.hid hrow
        clear hrow
        go_wp2_with fail
        go_region_law
          (first
            | (go_simp; go_at_call 51; refine (HROW.out).mono ?_; rintro e w4 ⟨g, rfl, hg, hI, hb4⟩; have q3' : w4.cell? ⟨cb, 3, none⟩ = some (.slice (some ⟨gv, 0, none⟩) (k + 1) cap') := (hb4.cell (p := ⟨cb, 3, none⟩) hcbs).trans q3; have hcb4 : cb < w4.heap.size := Nat.lt_of_lt_of_le hcbs hb4.size; have hB4 : Below w1.heap.size w1 w4 := (below_drew HS.out.2.2.1).trans (hb4.mono HS.out.2.2.1.size); have HO4 := Lib.hid (pw_own_below (w := wr.drew) HO.out hb4); have HS4 := Lib.hid ((hb4.block cb hcbs).trans HS.out.1); clear q3 f3)
            | (refine step_append_cells (w0 := w1) w1.heap.size (by rfl) _ _ 79 82 (.slice none 0 0) 1 24 (by rfl) Try.underlying79 info82 rfl (by decide) (by decide) (.slice (some ⟨gv, 0, none⟩) (k + 1) cap') vs.length vs [.slice (some ⟨g, 0, none⟩) (width + 1) (width + 1)] (by rfl) (by rfl) rfl (by simp [Value.oneCell']) HO4.out hB4 hB4.size (by omega) ?_; intro v5 w5 hown5 hB5 hg5 hat5; obtain ⟨gv5, cap5, hv5⟩ := own_slice hown5; subst hv5; have e5 := cb_kept HO4.out HS4.out (by decide) hg5; have q5 := blk_cell e5 3; have f5 := blk_frozen e5 3; simp only [List.getElem?_toArray, List.getElem?_cons_zero, List.getElem?_cons_succ] at q5; have hW5 := ways_append HO4.out HVL.out (fun i hi => by obtain ⟨g', e1, e2, e3⟩ := HVI.out i hi; exact ⟨g', e1, e2, e3.moved (hb4.block g' e3.lt)⟩) hown5 hg5 hI (Nat.le_trans HS.out.2.2.1.size hg); have HW5 := Lib.hid hW5; have HE5 := Lib.hid e5; clear e5 hW5))
        all_goals go_wp2
        all_goals (refine ⟨⟨k + 1 + 1, .slice gv5 (vs.length + 1) cap5, by omega, by go_num, ?_⟩, by simp [intOf] <;> omega⟩)
        all_goals (exact St.next HS.out hcb HE5.out HW5.out hB5 (pw_own_below (w := wr.drew) (own_drew HS.out.2.2.2) hb4) HO4.out hg5)
    · obtain rfl : k = most + 1 := by omega
      have q3 := blk_cell HS.out.1 3
      simp only [List.getElem?_toArray, List.getElem?_cons_zero, List.getElem?_cons_succ] at q3
      obtain ⟨gv, capv, g0, hve, hgv1, hgv2, hcell, hI0⟩ := HS.out.2.1.get most (by omega)
      subst hve
      obtain ⟨s0, _, _, _⟩ := hI0.cells low (by rw [waysL_length]; omega)
      clear hI0
      have hST2 : St2 w1 wr cb width stride A cA counts (.slice (some ⟨gv, 0, none⟩) (most + 1) capv) (most + 1) (.slice none 0 0) [] := ⟨HS.out.1, HS.out.2.1, HS.out.2.2.1, own_nil _ _ _ _⟩
      clear HS
      have HST2 := Lib.hid hST2
      clear hST2
      have hmay : mayB width low most stride = true := by unfold mayB; exact decide_eq_true (by omega)
      have hcP : chooseP width low most stride counts = if (rd_T85 (waysL counts width stride most) low).f0 = true then (walkL counts width stride most low, 0) else ([], 1) := by
        unfold chooseP
        rw [if_pos hmay]
        simp only [Int.toNat_natCast]
      have HCP := Lib.hid hcP
      clear hmay hcP
      by_cases hf : (rd_T85 (waysL counts width stride most) low).f0 = true
      case neg =>
        have hf' := Bool.eq_false_iff.mpr hf
        rw [hf'] at s0
        have hcP := HCP.out
        rw [if_neg hf] at hcP
        have HCP' := Lib.hid hcP
        clear hf hf' hcP HCP
        go_wp2
        go_ret2
        exact ⟨.slice none 0 0, by rw [HCP'.out]; rfl, by rw [HCP'.out]; exact Kd.R_nil _ _ _ _ _, HST2.out.2.2.1⟩
      case pos =>
        have hcP := HCP.out
        rw [if_pos hf] at hcP
        have HCP' := Lib.hid hcP
        clear HCP hcP
        rw [hf] at s0
        go_wp2_with fail
        clear s0 q3 hcell
        have HF := Lib.hid hf
        clear hf
        go_loopw [15, 16, 17] (fun vo va vn wr => ∃ (a n : Nat) (acc : List Int) (Ao : Option Addr) (co : Nat), vo = .slice Ao acc.length co ∧ a ≤ width ∧ n ≤ most ∧ va = .int .i64 a ∧ vn = .int .i64 n ∧ acc.length + n = most ∧ Hid ((rd_T85 (waysL counts width stride n) a).f0 = true) ∧ Hid (acc ++ walkL counts width stride n a = walkL counts width stride most low) ∧ Hid (St2 w1 wr cb width stride A cA counts (.slice (some ⟨gv, 0, none⟩) (most + 1) capv) (most + 1) (.slice Ao acc.length co) acc)) (fun _ _ n _ => (intOf n).toNat)
        case atStart => exact ⟨low, most, [], none, 0, rfl, h3, Nat.le_refl _, rfl, rfl, by simp, HF.out, rfl, HST2.out⟩
        case round =>
          clear HF HST2
          obtain ⟨a, n, acc, Ao, co, rfl, ha, hn, rfl, rfl, hacc, HF, HW, HS⟩ := hrel
          by_cases e : a = width
          · subst e
            have hw := HW.out
            rw [walk_end, List.append_nil] at hw
            have HW' := Lib.hid hw
            clear hw HW
            go_wp2
            go_ret2
            exact ⟨.slice Ao acc.length co, by rw [HCP'.out]; rfl, by rw [HCP'.out]; show Kd.R _ _ _ _ _ _ (walkL _ _ _ _ _); rw [← HW'.out]; exact Kd.R_of_own HS.out.2.2.2 (fun _ _ => trivial), HS.out.2.2.1⟩
          · have hlt : a < width := by omega
            have hne : ¬ ((a : Int) = (width : Int)) := by omega
            obtain ⟨n', m, rfl, hm3, hm1, hm2, _, hmf, hcand⟩ := way_step counts width stride n a hlt h5 HF.out
            have q3 := blk_cell HS.out.1 3
            simp only [List.getElem?_toArray, List.getElem?_cons_zero, List.getElem?_cons_succ] at q3
            obtain ⟨gv', capv', gn, hve, hgv1', hgv2', hcell, hI0⟩ := HS.out.2.1.get (n' + 1) (by omega)
            injection hve with hve1 _ hve2
            injection hve1 with hve1
            injection hve1 with hve1
            subst hve1 hve2
            obtain ⟨_, _, _, s3⟩ := hI0.cells a (by rw [waysL_length]; omega)
            rw [hm3] at s3
            have HMF := Lib.hid hmf
            have HM3 := Lib.hid hm3
            clear hcand hm3 hmf HF hI0 e
            have hnn : (0 : Int) ≤ (n' : Int) + 1 := by omega
            have hHO := HS.out.2.2.2
            have hHB := HS.out.2.2.1
            have hHW := HS.out.2.1
            have hE := HS.out.1
            have HO := Lib.hid hHO
            have HB := Lib.hid hHB
            have HWY := Lib.hid hHW
            have HE := Lib.hid hE
            have hal : acc.length ≤ 200 := by omega
            clear hHO hHB hHW hE
            have HACC := Lib.hid hacc
            clear hacc
            go_wp2_with (first
              | (at_builtin; go_must (refine print_append_num (w0 := w1) w1.heap.size rfl _ _ 35 3 .i64 8 rfl Try.underlying35 info3 (by decide) (.slice Ao acc.length co) acc (m : Int) rfl rfl HO.out HB.out HB.out.size (by omega) ?_); intro v1 w2 hown hB1 hg1 hat1; obtain ⟨A1, c1, hv1⟩ := own_slice hown; subst hv1))
            have hst := HS.out.next hown hB1 hg1
            have hwl : (acc ++ [(m : Int)]) ++ walkL counts width stride n' m = walkL counts width stride most low := by
              rw [← HW.out, List.append_assoc]
              simp only [walkL]
              rw [if_neg (by omega), HM3.out]
              simp
            have hlen : (acc ++ [(m : Int)]).length + n' = most := by rw [List.length_append, ← HACC.out]; simp; omega
            go_roundw
            case rel => exact ⟨_, _, _, ⟨m, n', acc ++ [(m : Int)], A1, c1, rfl, hm2, by omega, rfl, rfl, hlen, HMF.out, hwl, hst⟩, by simp, rfl, by go_num⟩
            case measure => simp [intOf] <;> omega
end Go.Proofs.Ytlklehliapbgeaa.Lev
