/- Package levels: what chooser.row makes: the best ways of all places, with one level more. -/
import Derived.Test.YtlklehliapbgeaaLevFrom
namespace Go.Proofs.Ytlklehliapbgeaa.Lev
open Go.RowKit Go.Proofs.Ytlklehliapbgeaa.PLev Go.Proofs.YtlklehliapbgeaaW.PrintWords Go.Proofs.YtlklehliapbgeaaW.PrintLast Go.Proofs.YtlklehliapbgeaaW.PrintMore Go.Proofs.Ytlklehliapbgeaa.Histo

/-- Block g holds the ways l, four cells each. -/
def Is (W : World) (g : Nat) (l : List S85) : Prop :=
  ∃ cs, W.heap[g]? = some (.cells cs 85 (0, 0)) ∧ cs.size = l.length * 4 ∧ ∀ m : Nat, m < l.length → cs[m * 4]? = some (.bool (rd_T85 l m).f0) ∧ cs[m * 4 + 1]? = some (.int .i64 (rd_T85 l m).f1) ∧ cs[m * 4 + 2]? = some (.int .i64 (rd_T85 l m).f2) ∧ cs[m * 4 + 3]? = some (.int .i64 (rd_T85 l m).f3)
theorem Is.cells {W : World} {g : Nat} {l : List S85} (h : Is W g l) (m : Nat) (hm : m < l.length) :
    W.cell? ⟨g, m * 4, none⟩ = some (.bool (rd_T85 l m).f0) ∧ W.cell? ⟨g, m * 4 + 1, none⟩ = some (.int .i64 (rd_T85 l m).f1) ∧ W.cell? ⟨g, m * 4 + 2, none⟩ = some (.int .i64 (rd_T85 l m).f2) ∧ W.cell? ⟨g, m * 4 + 3, none⟩ = some (.int .i64 (rd_T85 l m).f3) := by
  obtain ⟨cs, hb, _, hc⟩ := h
  obtain ⟨h0, h1, h2, h3⟩ := hc m hm
  exact ⟨(blk_cell hb _).trans h0, (blk_cell hb _).trans h1, (blk_cell hb _).trans h2, (blk_cell hb _).trans h3⟩
theorem Is.free {W : World} {g : Nat} {l : List S85} (h : Is W g l) (i : Nat) : W.frozen? ⟨g, i, none⟩ = false := by
  obtain ⟨cs, hb, _, _⟩ := h
  exact blk_frozen hb i
theorem Is.lt {W : World} {g : Nat} {l : List S85} (h : Is W g l) : g < W.heap.size := by
  obtain ⟨cs, hb, _, _⟩ := h
  exact blk_lt hb
theorem Is.moved {W W1 : World} {g : Nat} {l : List S85} (h : Is W g l) (hg : W1.heap[g]? = W.heap[g]?) : Is W1 g l := by
  obtain ⟨cs, hb, h1, h2⟩ := h
  exact ⟨cs, hg.trans hb, h1, h2⟩
/-- A way is stored at m. -/
def put4 (W : World) (g m : Nat) (b : S85) : World := (((W.setCell ⟨g, m * 4, none⟩ (.bool b.f0)).setCell ⟨g, m * 4 + 1, none⟩ (.int .i64 b.f1)).setCell ⟨g, m * 4 + 2, none⟩ (.int .i64 b.f2)).setCell ⟨g, m * 4 + 3, none⟩ (.int .i64 b.f3)
theorem rd_set85 (l : List S85) (m k : Nat) (b : S85) (hm : m < l.length) : rd_T85 (l.set m b) (k : Int) = if m = k then b else rd_T85 l k := by
  unfold rd_T85
  rw [List.getD_eq_getElem?_getD, List.getD_eq_getElem?_getD, List.getElem?_set, Int.toNat_natCast]
  by_cases h : m = k
  · subst h; rw [if_pos rfl, if_pos hm, if_pos rfl]; rfl
  · rw [if_neg h, if_neg h]
theorem Is.put {W : World} {g : Nat} {l : List S85} (h : Is W g l) (m : Nat) (b : S85) (hm : m < l.length) : Is (put4 W g m b) g (l.set m b) := by
  obtain ⟨cs, hb, hs, hc⟩ := h
  refine ⟨_, blk_set (blk_set (blk_set (blk_set hb (m * 4) _) (m * 4 + 1) _) (m * 4 + 2) _) (m * 4 + 3) _, by simp [hs], fun k hk => ?_⟩
  rw [List.length_set] at hk
  rw [rd_set85 l m k b hm]
  obtain ⟨h0, h1, h2, h3⟩ := hc k hk
  by_cases e : m = k
  · subst e
    rw [if_pos rfl]
    refine ⟨?_, ?_, ?_, ?_⟩ <;> simp [Array.getElem?_setIfInBounds, hs] <;> omega
  · rw [if_neg e]
    refine ⟨?_, ?_, ?_, ?_⟩
    · rw [Array.getElem?_setIfInBounds_ne (by omega), Array.getElem?_setIfInBounds_ne (by omega), Array.getElem?_setIfInBounds_ne (by omega), Array.getElem?_setIfInBounds_ne (by omega)]; exact h0
    · rw [Array.getElem?_setIfInBounds_ne (by omega), Array.getElem?_setIfInBounds_ne (by omega), Array.getElem?_setIfInBounds_ne (by omega), Array.getElem?_setIfInBounds_ne (by omega)]; exact h1
    · rw [Array.getElem?_setIfInBounds_ne (by omega), Array.getElem?_setIfInBounds_ne (by omega), Array.getElem?_setIfInBounds_ne (by omega), Array.getElem?_setIfInBounds_ne (by omega)]; exact h2
    · rw [Array.getElem?_setIfInBounds_ne (by omega), Array.getElem?_setIfInBounds_ne (by omega), Array.getElem?_setIfInBounds_ne (by omega), Array.getElem?_setIfInBounds_ne (by omega)]; exact h3
theorem put4_far {W : World} {g g' m : Nat} (b : S85) (hne : g' ≠ g) : (put4 W g m b).heap[g']? = W.heap[g']? := by
  unfold put4
  rw [Below.heap_setCell _ _ _ _ hne, Below.heap_setCell _ _ _ _ hne, Below.heap_setCell _ _ _ _ hne, Below.heap_setCell _ _ _ _ hne]
theorem put4_below {B : Nat} {w W : World} {g m : Nat} (b : S85) (h : Below B w W) (hg : B ≤ g) : Below B w (put4 W g m b) := (((h.setCell hg _).setCell hg _).setCell hg _).setCell hg _

theorem info85 : (Try.prog.info? 85).map (fun i => (i.zero, i.size, i.bytes)) = some (some (.agg (cellsB z85)), 4, 32) := by kernel_rfl
theorem mk_any (n : Nat) (hn : n ≤ 1000) (W : World) : (Instr.makeSlice 82 (.int .i64 (n : Int)) (.int .i64 (n : Int))).run Try.prog W = .ok (.slice (some ⟨W.heap.size, 0, none⟩) n n) (W.alloc (.cells (madeCells (cellsB z85) (n * 4)) 85)) := by
  obtain ⟨i0, hi, hzz⟩ := Option.map_eq_some_iff.1 info85
  simp only [Prod.mk.injEq] at hzz
  obtain ⟨hz0, hz1, hz2⟩ := hzz
  have hr := run_make (P := Try.prog) W 82 85 i0 (.agg (cellsB z85)) Try.underlying82 hi hz0 .i64 .i64 (n : Int) (n : Int) (by omega) (by omega) (by rw [hz2]; omega) (by omega)
  simp only [Int.toNat_natCast, hz1] at hr
  exact hr
theorem is_made (W : World) (n : Nat) : Is (W.alloc (.cells (madeCells (cellsB z85) (n * 4)) 85)) W.heap.size (List.replicate n z85) := by
  refine ⟨_, heap_alloc_new W _, by simp [size_madeCells], fun m hm => ?_⟩
  rw [List.length_replicate] at hm
  have e : rd_T85 (List.replicate n z85) (m : Int) = z85 := by
    unfold rd_T85
    rw [List.getD_eq_getElem?_getD, List.getElem?_replicate, Int.toNat_natCast, if_pos hm]; rfl
  rw [e]
  have key : ∀ j, j < 4 → (madeCells (cellsB z85) (n * 4))[m * 4 + j]? = (cellsB z85)[j]? := fun j hj => by
    have h1 : m * 4 + j < n * 4 := by omega
    have h2 : (m * 4 + j) % 4 = j := by omega
    have h3 : (cellsB z85)[j]? = some (cellsB z85)[j]! := by
      rcases (show j = 0 ∨ j = 1 ∨ j = 2 ∨ j = 3 by omega) with rfl | rfl | rfl | rfl <;> rfl
    rw [h3]
    unfold madeCells
    rw [Array.getElem?_map, Array.getElem?_range, if_pos h1]
    show some ((cellsB z85)[(m * 4 + j) % 4]!) = _
    rw [h2]
  exact ⟨key 0 (by omega), key 1 (by omega), key 2 (by omega), key 3 (by omega)⟩

/-- The best ways of all places, if those with one level less are less (nothing: there are none). -/
def rowL (c : List Int) (width stride : Nat) (less : Option (List S85)) : List S85 :=
  ((List.range width).map fun a => match less with | none => z85 | some l => fromP c width stride a l) ++ [⟨true, 0, 0, 0⟩]
theorem rowL_length (c : List Int) (width stride : Nat) (less : Option (List S85)) : (rowL c width stride less).length = width + 1 := by simp [rowL]
/-- After a rounds. -/
def rowTo (c : List Int) (width stride : Nat) (less : Option (List S85)) (a : Nat) : List S85 :=
  ((List.range a).map fun a => match less with | none => z85 | some l => fromP c width stride a l) ++ List.replicate (width + 1 - a) z85
theorem rowTo_length (c : List Int) (width stride : Nat) (less : Option (List S85)) (a : Nat) (ha : a ≤ width) : (rowTo c width stride less a).length = width + 1 := by simp [rowTo]; omega
theorem rowTo_zero (c : List Int) (width stride : Nat) (less : Option (List S85)) : rowTo c width stride less 0 = List.replicate (width + 1) z85 := by simp [rowTo]
theorem rowTo_succ (c : List Int) (width stride : Nat) (less : Option (List S85)) (a : Nat) (ha : a < width) (b : S85) (hb : b = match less with | none => z85 | some l => fromP c width stride a l) :
    (rowTo c width stride less a).set a b = rowTo c width stride less (a + 1) := by
  subst hb
  unfold rowTo
  rw [List.set_append_right _ _ (by simp), show width + 1 - a = (width + 1 - (a + 1)) + 1 by omega, List.replicate_succ]
  simp [List.range_succ, List.map_append]
theorem rowTo_none (c : List Int) (width stride : Nat) (a : Nat) (ha : a < width) : rowTo c width stride none a = rowTo c width stride none (a + 1) := by
  unfold rowTo
  rw [show width + 1 - a = (width + 1 - (a + 1)) + 1 by omega, List.replicate_succ]
  simp [List.range_succ, List.map_append]
theorem rowTo_end (c : List Int) (width stride : Nat) (less : Option (List S85)) : (rowTo c width stride less width).set width ⟨true, 0, 0, 0⟩ = rowL c width stride less := by
  unfold rowTo rowL
  rw [List.set_append_right _ _ (by simp), show width + 1 - width = 1 by omega]
  simp

set_option maxHeartbeats 4000000 in
theorem row_none (w : World) (cb : Nat) (width stride : Nat) (A0 : Option Addr) (c0 : Nat) (counts : List Int) (v3 : Value)
    (hbk : w.heap[cb]? = some (.cells #[.int .i64 width, .int .i64 stride, .slice A0 counts.length c0, v3] 81 (0, 0))) (hw : width ≤ 128) :
    Calls Try.prog 51 #[.pointer (some ⟨cb, 0, none⟩), .slice none 0 0] w fun e w' => ∃ g, e = .returned (.slice (some ⟨g, 0, none⟩) (width + 1) (width + 1)) ∧ w.heap.size ≤ g ∧ Is w' g (rowL counts width stride none) ∧ Below w.heap.size w w' := by
  have q0 : w.cell? ⟨cb, 0, none⟩ = some (.int .i64 width) := by simp [World.cell?, hbk]
  have hcb : cb < w.heap.size := blk_lt hbk
  have hmk := mk_any (width + 1) (by omega)
  rw [show (((width + 1 : Nat) : Int)) = (width : Int) + 1 from rfl] at hmk
  have hne := run_neq_slice_nil_any (P := Try.prog)
  clear hbk
  go_enter Try.func51, Try.ntmps51
  go_wp2_with fail
  have hI := is_made w (width + 1)
  have hB : Below w.heap.size w (w.alloc (.cells (madeCells (cellsB z85) ((width + 1) * 4)) 85)) := (Below.refl _ _).alloc (Nat.le_refl _) _
  generalize (w.alloc (.cells (madeCells (cellsB z85) ((width + 1) * 4)) 85)) = w1 at hI hB ⊢
  rw [← rowTo_zero counts width stride none] at hI
  generalize hgd : w.heap.size = g at hI ⊢
  have hgb : w.heap.size ≤ g := by omega
  clear hmk hgd
  go_loopw [17] (fun i wr => ∃ a : Nat, a ≤ width ∧ i = .int .i64 a ∧ Is wr g (rowTo counts width stride none a) ∧ Below w.heap.size w wr) (fun i _ => width - (intOf i).toNat)
  case atStart => exact ⟨0, by omega, rfl, hI, hB⟩
  case round =>
    clear hI hB
    obtain ⟨a, ha, rfl, hI, hB⟩ := hrel
    by_cases hlt : a < width
    · rw [rowTo_none _ _ _ _ hlt] at hI
      have HI := Lib.hid hI
      clear hI q0
      go_wp2
      go_roundw
      case rel => exact ⟨a + 1, by omega, by go_num, HI.out, hB⟩
      case measure => simp [intOf]; omega
    · obtain rfl : a = width := by omega
      have q0' : wr.cell? ⟨cb, 0, none⟩ = some (.int .i64 a) := (hB.cell (p := ⟨cb, 0, none⟩) hcb).trans q0
      clear q0
      have hlw : (rowTo counts a stride none a).length = a + 1 := rowTo_length _ _ _ _ _ (Nat.le_refl _)
      obtain ⟨s0, s1, s2, s3⟩ := hI.cells a (by omega)
      have f0 := hI.free (a * 4)
      have f1 := hI.free (a * 4 + 1)
      have f2 := hI.free (a * 4 + 2)
      have f3 := hI.free (a * 4 + 3)
      have hIp := hI.put a ⟨true, 0, 0, 0⟩ (by omega)
      rw [rowTo_end] at hIp
      have HIP := Lib.hid hIp
      clear hIp hI hlw
      go_wp2
      go_ret
      exact ⟨g, rfl, hgb, HIP.out, put4_below (g := g) (m := a) ⟨true, 0, 0, 0⟩ hB hgb⟩

set_option maxHeartbeats 4000000 in
theorem row_some (w : World) (cb : Nat) (width stride : Nat) (A0 : Option Addr) (c0 : Nat) (counts : List Int) (v3 : Value) (lb lc : Nat) (less : List S85)
    (hC : Kd.C (Kd.int .i64) w A0 counts.length counts) (hc0 : counts.length ≤ c0) (hL : Is w lb less) (hok : ∀ m : Nat, m < less.length → okB (rd_T85 less m)) (hlen : less.length = width + 1) (hs : 1 ≤ stride ∧ stride ≤ 20) (hln : ∀ m : Nat, m < less.length → (rd_T85 less m).f2 ≤ 500)
    (hbk : w.heap[cb]? = some (.cells #[.int .i64 width, .int .i64 stride, .slice A0 counts.length c0, v3] 81 (0, 0))) (hw : width ≤ 128) :
    Calls Try.prog 51 #[.pointer (some ⟨cb, 0, none⟩), (.slice (some ⟨lb, 0, none⟩) less.length lc)] w fun e w' => ∃ g, e = .returned (.slice (some ⟨g, 0, none⟩) (width + 1) (width + 1)) ∧ w.heap.size ≤ g ∧ Is w' g (rowL counts width stride (some less)) ∧ Below w.heap.size w w' := by
  have q0 : w.cell? ⟨cb, 0, none⟩ = some (.int .i64 width) := by simp [World.cell?, hbk]
  have hcb : cb < w.heap.size := blk_lt hbk
  have hmk := mk_any (width + 1) (by omega)
  rw [show (((width + 1 : Nat) : Int)) = (width : Int) + 1 from rfl] at hmk
  have hne := run_neq_slice_nil_any (P := Try.prog)
  have HBK : Hid (∀ wr, Below w.heap.size w wr → wr.heap[cb]? = some (.cells #[.int .i64 width, .int .i64 stride, .slice A0 counts.length c0, v3] 81 (0, 0))) := fun wr h => blk_below hbk h
  have HC := Lib.hid hC
  have HL := Lib.hid hL
  have HOK := Lib.hid hok
  have HLEN := Lib.hid hlen
  have HLN := Lib.hid hln
  clear hbk hC hL hok hlen hln
  go_enter Try.func51, Try.ntmps51
  go_wp2_with fail
  have hI := is_made w (width + 1)
  have hB : Below w.heap.size w (w.alloc (.cells (madeCells (cellsB z85) ((width + 1) * 4)) 85)) := (Below.refl _ _).alloc (Nat.le_refl _) _
  generalize (w.alloc (.cells (madeCells (cellsB z85) ((width + 1) * 4)) 85)) = w1 at hI hB ⊢
  rw [← rowTo_zero counts width stride (some less)] at hI
  generalize hgd : w.heap.size = g at hI ⊢
  have hgb : w.heap.size ≤ g := by omega
  clear hmk hgd
  go_loopw [17] (fun i wr => ∃ a : Nat, a ≤ width ∧ i = .int .i64 a ∧ Is wr g (rowTo counts width stride (some less) a) ∧ Below w.heap.size w wr) (fun i _ => width - (intOf i).toNat)
  case atStart => exact ⟨0, by omega, rfl, hI, hB⟩
  case round =>
    clear hI hB
    obtain ⟨a, ha, rfl, hI, hB⟩ := hrel
    by_cases hlt : a < width
    · have hcnt : cb ≠ g := by omega
      have hfrom := from_any wr cb width stride a A0 c0 counts v3 lb lc less (HBK.out wr hB) (Kd.C_below HC.out hB) hc0 (fun m hm => (HL.out.moved (hB.block lb HL.out.lt)).cells m hm) HOK.out HLEN.out hw hs hlt HLN.out
      have HF := Lib.hid hfrom
      have HI := Lib.hid hI
      clear hI q0 hfrom
      go_wp2_with fail
      refine HF.out.mono ?_
      rintro e w2 ⟨rfl, hb2⟩
      have hI2 : Is w2 g (rowTo counts width stride (some less) a) := HI.out.moved (hb2.block g HI.out.lt)
      have hB2 : Below w.heap.size w w2 := hB.trans (hb2.mono hB.size)
      have hlw : (rowTo counts width stride (some less) a).length = width + 1 := rowTo_length _ _ _ _ _ ha
      obtain ⟨s0, s1, s2, s3⟩ := hI2.cells a (by omega)
      have f0 := hI2.free (a * 4)
      have f1 := hI2.free (a * 4 + 1)
      have f2 := hI2.free (a * 4 + 2)
      have f3 := hI2.free (a * 4 + 3)
      have hIp := hI2.put a (fromP counts width stride a less) (by omega)
      rw [rowTo_succ _ _ _ _ _ hlt _ rfl] at hIp
      have HIP := Lib.hid hIp
      have HX : ∃ b : S85, b = fromP counts width stride a less := ⟨_, rfl⟩
      obtain ⟨b, hbx⟩ := HX
      rw [← hbx] at HIP ⊢
      clear hbx hIp hI2 hlw HF HI hb2 hB hne
      go_wp2
      go_roundw
      case rel => exact ⟨a + 1, by omega, by go_num, HIP.out, put4_below (g := g) (m := a) b hB2 hgb⟩
      case measure => simp [intOf]; omega
    · obtain rfl : a = width := by omega
      have q0' : wr.cell? ⟨cb, 0, none⟩ = some (.int .i64 a) := (hB.cell (p := ⟨cb, 0, none⟩) hcb).trans q0
      clear q0
      have hlw : (rowTo counts a stride (some less) a).length = a + 1 := rowTo_length _ _ _ _ _ (Nat.le_refl _)
      obtain ⟨s0, s1, s2, s3⟩ := hI.cells a (by omega)
      have f0 := hI.free (a * 4)
      have f1 := hI.free (a * 4 + 1)
      have f2 := hI.free (a * 4 + 2)
      have f3 := hI.free (a * 4 + 3)
      have hIp := hI.put a ⟨true, 0, 0, 0⟩ (by omega)
      rw [rowTo_end] at hIp
      have HIP := Lib.hid hIp
      clear hIp hI hlw
      go_wp2
      go_ret
      exact ⟨g, rfl, hgb, HIP.out, put4_below (g := g) (m := a) ⟨true, 0, 0, 0⟩ hB hgb⟩


end Go.Proofs.Ytlklehliapbgeaa.Lev
