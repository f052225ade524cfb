/- Package levels: what chooser.from answers: the best way from a place on. -/
import Derived.Test.YtlklehliapbgeaaPLevx0
import Derived.Test.YtlklehliapbgeaaHCHistoMore
import Derived.WalkKit
import Derived.LoopTactic
import Derived.Outline
import Derived.WalkLawsBesides
import Derived.WalkSpells
import Derived.Lib.Hide
import Derived.Deep.QuietTactic
import Derived.BigQuiet
import Derived.RegionTactic
namespace Go.Proofs.Ytlklehliapbgeaa.Lev
open Go.RowKit Go.Proofs.Ytlklehliapbgeaa.PLev Go.Proofs.YtlklehliapbgeaaW.PrintWords Go.Proofs.YtlklehliapbgeaaW.PrintLast Go.Proofs.YtlklehliapbgeaaW.PrintMore Go.Proofs.Ytlklehliapbgeaa.Histo
attribute [local go_sem] max2_int min2_int max_two min_two max_three min_three max_four min_four

abbrev cellsB (b : S85) : Array Value := #[.bool b.f0, .int .i64 b.f1, .int .i64 b.f2, .int .i64 b.f3]
/-- What lies behind a level is known: is it better to go there? -/
def pickB (c : List Int) (at_ : Nat) (less : List S85) (next : Nat) (out : S85) : S85 :=
  let x := rd_T85 less next
  if x.f0 then
    let y : S85 := ⟨true, x.f1 + S c next (next - at_), x.f2 + 1, next⟩
    if !out.f0 || (decide (y.f1 < out.f1) || (decide (y.f1 = out.f1) && decide (y.f2 < out.f2))) then y else out
  else out
def fromL (c : List Int) (at_ : Nat) (less : List S85) : Nat → Nat → S85 → S85
  | 0, _, out => out
  | d + 1, next, out => fromL c at_ less d (next + 1) (pickB c at_ less next out)
def hiB (width stride at_ : Nat) : Nat := min (at_ + stride) width
def fromP (c : List Int) (width stride at_ : Nat) (less : List S85) : S85 := fromL c at_ less (hiB width stride at_ - at_) (at_ + 1) z85

/-- What is known of a way: costs and levels are small. -/
def okB (b : S85) : Prop := 0 ≤ b.f1 ∧ b.f1 ≤ 2199023255552 * b.f2 ∧ 0 ≤ b.f2 ∧ b.f2 ≤ 1000 ∧ 0 ≤ b.f3 ∧ b.f3 ≤ 1000

/-- What a round knows of its world. -/
def Facts (w wo : World) (cb lb m width stride : Nat) (A0 : Option Addr) (n c0 : Nat) (x out : S85) : Prop :=
  wo.cell? ⟨cb, 0, none⟩ = some (.int .i64 width) ∧ wo.cell? ⟨cb, 1, none⟩ = some (.int .i64 stride) ∧ wo.cell? ⟨cb, 2, none⟩ = some (.slice A0 n c0) ∧
  wo.cell? ⟨lb, m * 4, none⟩ = some (.bool x.f0) ∧ wo.cell? ⟨lb, m * 4 + 1, none⟩ = some (.int .i64 x.f1) ∧ wo.cell? ⟨lb, m * 4 + 2, none⟩ = some (.int .i64 x.f2) ∧ wo.cell? ⟨lb, m * 4 + 3, none⟩ = some (.int .i64 x.f3) ∧
  Below w.heap.size w wo ∧ wo.heap[w.heap.size]? = some (.cells (cellsB z85) 85 (0, 0)) ∧ wo.heap[w.heap.size + 1]? = some (.cells (cellsB out) 85 (0, 0))

theorem Facts.draw {w wo : World} {cb lb m width stride : Nat} {A0 : Option Addr} {n c0 : Nat} {x out : S85} (h : Facts w wo cb lb m width stride A0 n c0 x out) (k : Nat) : Facts w (wo.drewN k) cb lb m width stride A0 n c0 x out := by
  obtain ⟨h1, h2, h3, h4, h5, h6, h7, h8, h9, h10⟩ := h
  exact ⟨h1, h2, h3, h4, h5, h6, h7, pw_below_drewN h8 k, h9, h10⟩

theorem near_20 (c : List Int) (level : Int) (d : Nat) (h : d ≤ 20) : Near c level d := fun i hi h20 => by omega

def set4 (W : World) (g : Nat) (b : S85) : World := (((W.setCell ⟨g, 0, none⟩ (.bool b.f0)).setCell ⟨g, 1, none⟩ (.int .i64 b.f1)).setCell ⟨g, 2, none⟩ (.int .i64 b.f2)).setCell ⟨g, 3, none⟩ (.int .i64 b.f3)
theorem set4_here {W : World} {g : Nat} {a : S85} (b : S85) (h : W.heap[g]? = some (.cells (cellsB a) 85 (0, 0))) : (set4 W g b).heap[g]? = some (.cells (cellsB b) 85 (0, 0)) :=
  blk_set (blk_set (blk_set (blk_set h 0 _) 1 _) 2 _) 3 _
theorem set4_far {W : World} {g g' : Nat} {t : TypeId} {cs : Array Value} (b : S85) (h : W.heap[g']? = some (.cells cs t (0, 0))) (hne : g' ≠ g) : (set4 W g b).heap[g']? = some (.cells cs t (0, 0)) :=
  blk_far (blk_far (blk_far (blk_far h hne _) hne _) hne _) hne _
theorem set4_below {B : Nat} {w W : World} {g : Nat} (b : S85) (h : Below B w W) (hg : B ≤ g) : Below B w (set4 W g b) := (((h.setCell hg _).setCell hg _).setCell hg _).setCell hg _

/-- What a round comes to, case by case. -/
theorem pick_off (c : List Int) (at_ : Nat) (less : List S85) (m : Nat) (out : S85) (h : (rd_T85 less m).f0 = false) : pickB c at_ less m out = out := by
  unfold pickB; simp [h]
theorem pick_yes (c : List Int) (at_ : Nat) (less : List S85) (m : Nat) (out x : S85) (T : Int) (hx : x = rd_T85 less m) (hT : T = S c m (m - at_)) (h : x.f0 = true)
    (hy : out.f0 = false ∨ x.f1 + T < out.f1 ∨ (x.f1 + T = out.f1 ∧ x.f2 + 1 < out.f2)) : pickB c at_ less m out = ⟨true, x.f1 + T, x.f2 + 1, m⟩ := by
  subst hx hT
  unfold pickB
  simp only [h, if_true]
  rw [if_pos]
  rcases hy with h1 | h1 | ⟨h1, h2⟩
  · simp [h1]
  · simp [h1]
  · simp [h1, h2]
theorem pick_no (c : List Int) (at_ : Nat) (less : List S85) (m : Nat) (out x : S85) (T : Int) (hx : x = rd_T85 less m) (hT : T = S c m (m - at_)) (h : x.f0 = true)
    (ho : out.f0 = true) (h1 : ¬ x.f1 + T < out.f1) (h2 : ¬ (x.f1 + T = out.f1 ∧ x.f2 + 1 < out.f2)) : pickB c at_ less m out = out := by
  subst hx hT
  unfold pickB
  simp only [h, if_true]
  rw [if_neg]
  simp only [ho, Bool.not_true, Bool.false_or, Bool.or_eq_true, Bool.and_eq_true, decide_eq_true_eq]
  intro hh
  rcases hh with hh | hh
  · exact h1 hh
  · exact h2 hh
theorem fromL_next {c : List Int} {at_ : Nat} {less : List S85} {hi m : Nat} {out r : S85} (hm : m ≤ hi) (h : r = fromL c at_ less (hi + 1 - m) m out) (out' : S85) (ho : pickB c at_ less m out = out') : r = fromL c at_ less (hi + 1 - (m + 1)) (m + 1) out' := by
  rw [h, show hi + 1 - m = (hi + 1 - (m + 1)) + 1 by omega]
  simp only [fromL]
  rw [ho]

theorem results_one {P : Program} {fn : Func} {p : Tmp} {ty : TypeId} (h : fn.results = #[.cell p ty]) (tmps : Array Value) (w : World) (g : Nat) (t : TypeId) (cs : Array Value) (fr : Nat × Nat) (d : TypeDesc)
    (hp : tmps.getD p undef = .pointer (some ⟨g, 0, none⟩)) (hg : w.heap[g]? = some (.cells cs t fr))
    (hu : P.underlying ty = some d) (hd : (match d with | .struct _ | .array _ _ => true | _ => false) = true) (hi : (P.info? ty).map (·.size) = some cs.size) :
    (results fn tmps).run P w = .ok (.agg cs) w := by
  have hp' : tmps[p]?.getD undef = .pointer (some ⟨g, 0, none⟩) := by simpa using hp
  simp [results, h, hp', asAddr, run_loadVar_row w g t ty cs fr d hg hu hd hi]

theorem part_near (counts : List Int) (at_ m : Nat) (h : at_ + 1 ≤ m ∧ m ≤ at_ + 20 ∧ m ≤ 128) (A0 : Option Addr) (c0 : Nat) (w : World) (hC : Kd.C (Kd.int .i64) w A0 counts.length counts) (hc0 : counts.length ≤ c0) :
    Calls Try.prog 44 #[.slice A0 counts.length c0, .int .i64 at_, .int .i64 m] w fun e w' => e = .returned (.tuple #[.int .i64 (S counts m (m - at_)), .bool true]) ∧ Below w.heap.size w w' := by
  have e : ((m : Int) - (at_ : Int)).toNat = m - at_ := by omega
  have hp := HCHistoMore.part_f_yes counts at_ m (by omega) (by omega) (by omega) (near_20 _ _ _ (by omega))
  rw [e] at hp
  obtain ⟨k, hk⟩ := hp.rounds
  exact PHistoMore.histo_Part.calls k A0 c0 counts at_ m _ _ w hC hc0 hk

set_option maxHeartbeats 4000000 in
theorem from_any (w : World) (cb : Nat) (width stride at_ : Nat) (A0 : Option Addr) (c0 : Nat) (counts : List Int) (v3 : Value) (lb lc : Nat) (less : List S85)
    (hbk : w.heap[cb]? = some (.cells #[.int .i64 width, .int .i64 stride, .slice A0 counts.length c0, v3] 81 (0, 0)))
    (hC : Kd.C (Kd.int .i64) w A0 counts.length counts) (hc0 : counts.length ≤ c0)
    (hl : ∀ m : Nat, m < less.length → w.cell? ⟨lb, m * 4, none⟩ = some (.bool (rd_T85 less m).f0) ∧ w.cell? ⟨lb, m * 4 + 1, none⟩ = some (.int .i64 (rd_T85 less m).f1) ∧ w.cell? ⟨lb, m * 4 + 2, none⟩ = some (.int .i64 (rd_T85 less m).f2) ∧ w.cell? ⟨lb, m * 4 + 3, none⟩ = some (.int .i64 (rd_T85 less m).f3))
    (hok : ∀ m : Nat, m < less.length → okB (rd_T85 less m)) (hlen : less.length = width + 1) (hw : width ≤ 128) (hs : 1 ≤ stride ∧ stride ≤ 20) (hat : at_ < width) (hln : ∀ m : Nat, m < less.length → (rd_T85 less m).f2 ≤ 500) :
    Calls Try.prog 56 #[.pointer (some ⟨cb, 0, none⟩), .int .i64 at_, .slice (some ⟨lb, 0, none⟩) less.length lc] w fun e w' => e = .returned (.agg (cellsB (fromP counts width stride at_ less))) ∧ Below w.heap.size w w' := by
  have q0 : w.cell? ⟨cb, 0, none⟩ = some (.int .i64 width) := by simp [World.cell?, hbk]
  have q1 : w.cell? ⟨cb, 1, none⟩ = some (.int .i64 stride) := by simp [World.cell?, hbk]
  have q2 : w.cell? ⟨cb, 2, none⟩ = some (.slice A0 counts.length c0) := by simp [World.cell?, hbk]
  have hcb : cb < w.heap.size := by
    rcases Nat.lt_or_ge cb w.heap.size with h | h
    · exact h
    · rw [Array.getElem?_eq_none h] at hbk; cases hbk
  have hlb : lb < w.heap.size := World.block_lt_of_cell? w ⟨lb, 0 * 4, none⟩ (hl 0 (by omega)).1
  have HL := Lib.hid hl
  have HOK := Lib.hid hok
  have HLEN := Lib.hid hlen
  have HLN := Lib.hid hln
  obtain ⟨hi, hhi⟩ : ∃ hi, hi = hiB width stride at_ := ⟨_, rfl⟩
  have hi1 : at_ + 1 ≤ hi := by rw [hhi]; unfold hiB; omega
  have hi2 : hi ≤ width := by rw [hhi]; unfold hiB; omega
  have hi3 : hi ≤ at_ + stride := by rw [hhi]; unfold hiB; omega
  have hif : (if (width : Int) < (at_ : Int) + (stride : Int) then (width : Int) else (at_ : Int) + (stride : Int)) = (hi : Int) := by rw [hhi]; unfold hiB; split <;> omega
  have HS : Hid (fromP counts width stride at_ less = fromL counts at_ less (hi - at_) (at_ + 1) z85) := by show _ = _; unfold fromP; rw [hhi]
  clear hbk hl hok hlen hln hhi
  go_enter Try.func56, Try.ntmps56
  go_wp2_with fail
  go_loopw [8] (fun i wr => ∃ (m : Nat) (out : S85), at_ + 1 ≤ m ∧ m ≤ hi + 1 ∧ i = .int .i64 m ∧ Below w.heap.size w wr ∧ Hid (wr.heap[w.heap.size]? = some (.cells (cellsB z85) 85 (0, 0)) ∧ wr.heap[w.heap.size + 1]? = some (.cells (cellsB out) 85 (0, 0))) ∧
      Hid (fromP counts width stride at_ less = fromL counts at_ less (hi + 1 - m) m out) ∧ Hid (okB out)) (fun i _ => hi + 1 - (intOf i).toNat)
  case atStart =>
    refine ⟨at_ + 1, z85, by omega, ?_, rfl, ((Below.refl _ _).alloc (Nat.le_refl _) _).alloc (by simp) _, ?_, ?_, ?_⟩
    · omega
    · refine ⟨?_, ?_⟩
      · exact (Below.heap_alloc _ _ _ (by simp)).trans (heap_alloc_new _ _)
      · have e : w.heap.size + 1 = (w.alloc (.cells (cellsB z85) 85)).heap.size := by simp
        rw [e]; exact heap_alloc_new (w.alloc (.cells (cellsB z85) 85)) (.cells (cellsB z85) 85)
    · show _ = _
      rw [show hi + 1 - (at_ + 1) = hi - at_ by omega]; exact HS.out
    · show okB z85
      unfold okB z85
      simp
  case round =>
    obtain ⟨m, out, hm1, hm2, rfl, hB, HW, HF, HO⟩ := hrel
    obtain ⟨wo, rfl⟩ : ∃ wo : World, wo = wr := ⟨_, rfl⟩
    clear HS
    by_cases hlt : m ≤ hi
    · have hml : m < less.length := by rw [HLEN.out]; omega
      have hcell := HL.out m hml
      have hokx := HOK.out m hml
      have hlnx := HLN.out m hml
      obtain ⟨x, hx⟩ : ∃ x, x = rd_T85 less (m : Int) := ⟨_, rfl⟩
      rw [← hx] at hcell hokx hlnx
      have HX := Lib.hid hx
      have HP := Lib.hid hokx
      have F : Facts w wo cb lb m width stride A0 counts.length c0 x out :=
        ⟨(hB.cell (p := ⟨cb, 0, none⟩) hcb).trans q0, (hB.cell (p := ⟨cb, 1, none⟩) hcb).trans q1, (hB.cell (p := ⟨cb, 2, none⟩) hcb).trans q2,
          (hB.cell (p := ⟨lb, m * 4, none⟩) hlb).trans hcell.1, (hB.cell (p := ⟨lb, m * 4 + 1, none⟩) hlb).trans hcell.2.1, (hB.cell (p := ⟨lb, m * 4 + 2, none⟩) hlb).trans hcell.2.2.1, (hB.cell (p := ⟨lb, m * 4 + 3, none⟩) hlb).trans hcell.2.2.2, hB, HW.out.1, HW.out.2⟩
      have r0 := F.1
      have r1 := F.2.1
      clear hx hcell hokx q0 q1 q2 hB HW
      go_wp2
      go_quiet (fail)
      have F' : Facts w (wo.drewN nq) cb lb m width stride A0 counts.length c0 x out := F.draw nq
      clear r0 r1 F
      generalize wo.drewN nq = wd at F' ⊢
      obtain ⟨r0, r1, r2, g0, g1, g2, g3, hB, hW0, hW1⟩ := F'
      have h1s : w.heap.size + 1 < wd.heap.size := blk_lt hW1
      have HW0 := Lib.hid hW0
      have HW1 := Lib.hid hW1
      clear hW0 hW1
      have hcb' : cb < wd.heap.size := by have := hB.size; omega
      have hpn := part_near counts at_ m (by omega)
      by_cases hxb : x.f0 = true
      · go_wp2_with fail
        refine (hpn A0 c0 _ ?_ hc0).mono ?_
        · exact Kd.C_alloc (Kd.C_below hC hB) _
        rintro e w3 ⟨rfl, hb3⟩
        have hT0 := S_nonneg counts (m : Int) (m - at_)
        have hT1 := S_le counts (m : Int) (m - at_) (near_20 _ _ _ (by omega))
        have HT : ∃ T : Int, T = S counts (m : Int) (m - at_) := ⟨_, rfl⟩
        obtain ⟨T, hT⟩ := HT
        rw [← hT] at hT0 hT1 ⊢
        have HT := Lib.hid hT
        clear hT
        have hpx := HP.out
        obtain ⟨p1, p2, p3, p4, p5, p6⟩ := hpx
        have p2' : x.f1 ≤ 1099511627776000 := by omega
        have hpo := HO.out
        obtain ⟨o1, o2, o3, o4, o5, o6⟩ := hpo
        have hB4 : Below w.heap.size w w3 := (hB.alloc hB.size _).trans (hb3.mono (by have := hB.size; simp; omega))
        have e0 : w3.heap[wd.heap.size]? = some (.cells #[.bool true, .int .i64 x.f1, .int .i64 x.f2, .int .i64 x.f3] 85 (0, 0)) := (hb3.block _ (by simp)).trans (heap_alloc_new wd _)
        have y0 : Hid (w3.heap[w.heap.size]? = some (.cells (cellsB z85) 85 (0, 0))) := (hb3.block _ (by simp; omega)).trans ((Below.heap_alloc wd _ _ (by omega)).trans HW0.out)
        have y1 : Hid (w3.heap[w.heap.size + 1]? = some (.cells (cellsB out) 85 (0, 0))) := (hb3.block _ (by simp; omega)).trans ((Below.heap_alloc wd _ _ (by omega)).trans HW1.out)
        have h3s : wd.heap.size < w3.heap.size := blk_lt e0
        have h4s : w.heap.size + 1 < w3.heap.size := by omega
        have x1 := blk_cell e0 1
        have x2 := blk_cell e0 2
        have k0 := blk_cell y1.out 0
        have k1 := blk_cell y1.out 1
        have k2 := blk_cell y1.out 2
        have k3 := blk_cell y1.out 3
        have f0 := blk_frozen y1.out 0
        have f1 := blk_frozen y1.out 1
        have f2 := blk_frozen y1.out 2
        have f3 := blk_frozen y1.out 3
        simp only [cellsB, List.getElem?_toArray, List.getElem?_cons_zero, List.getElem?_cons_succ] at x1 x2 k0 k1 k2 k3
        clear e0 hb3 hB r0 r1 r2 g0 g1 g2 g3 HW0 HW1 hpn hif HP HL HOK
        by_cases hof : out.f0 = true
        · by_cases hlt1 : x.f1 + T < out.f1
          · have d1 : decide (x.f1 + T < out.f1) = true := decide_eq_true hlt1
            go_wp2
            go_roundw
            case rel =>
              refine ⟨m + 1, ⟨true, x.f1 + T, x.f2 + 1, m⟩, by omega, by omega, by go_num, ?_, ⟨?_, ?_⟩, fromL_next hlt HF.out _ (pick_yes counts at_ less m out x T HX.out HT.out hxb (Or.inr (Or.inl hlt1))), ?_⟩
              · exact (set4_below (g := w.heap.size + 1) ⟨true, x.f1 + T, x.f2 + 1, m⟩ hB4 (by omega)).alloc (set4_below (g := w.heap.size + 1) ⟨true, x.f1 + T, x.f2 + 1, m⟩ hB4 (by omega)).size _
              · exact blk_alloc (set4_far (g := w.heap.size + 1) ⟨true, x.f1 + T, x.f2 + 1, m⟩ y0.out (by omega)) _
              · exact blk_alloc (set4_here (g := w.heap.size + 1) ⟨true, x.f1 + T, x.f2 + 1, m⟩ y1.out) _
              · exact ⟨by show 0 ≤ x.f1 + T; omega, by show x.f1 + T ≤ 2199023255552 * (x.f2 + 1); omega, by show 0 ≤ x.f2 + 1; omega, by show x.f2 + 1 ≤ 1000; omega, by show 0 ≤ (m : Int); omega, by show (m : Int) ≤ 1000; omega⟩
            case measure => simp [intOf]; omega
          · have d1 : decide (x.f1 + T < out.f1) = false := decide_eq_false hlt1
            by_cases heq : x.f1 + T = out.f1
            · have d2 : (x.f1 + T == out.f1) = true := beq_iff_eq.mpr heq
              by_cases hn : x.f2 + 1 < out.f2
              · have d3 : decide (x.f2 + 1 < out.f2) = true := decide_eq_true hn
                have HE := Lib.hid heq
                clear heq
                go_wp2
                go_roundw
                case rel =>
                  refine ⟨m + 1, ⟨true, x.f1 + T, x.f2 + 1, m⟩, by omega, by omega, by go_num, ?_, ⟨?_, ?_⟩, fromL_next hlt HF.out _ (pick_yes counts at_ less m out x T HX.out HT.out hxb (Or.inr (Or.inr ⟨HE.out, hn⟩))), ?_⟩
                  · exact (set4_below (g := w.heap.size + 1) ⟨true, x.f1 + T, x.f2 + 1, m⟩ hB4 (by omega)).alloc (set4_below (g := w.heap.size + 1) ⟨true, x.f1 + T, x.f2 + 1, m⟩ hB4 (by omega)).size _
                  · exact blk_alloc (set4_far (g := w.heap.size + 1) ⟨true, x.f1 + T, x.f2 + 1, m⟩ y0.out (by omega)) _
                  · exact blk_alloc (set4_here (g := w.heap.size + 1) ⟨true, x.f1 + T, x.f2 + 1, m⟩ y1.out) _
                  · exact ⟨by show 0 ≤ x.f1 + T; omega, by show x.f1 + T ≤ 2199023255552 * (x.f2 + 1); omega, by show 0 ≤ x.f2 + 1; omega, by show x.f2 + 1 ≤ 1000; omega, by show 0 ≤ (m : Int); omega, by show (m : Int) ≤ 1000; omega⟩
                case measure => simp [intOf]; omega
              · have d3 : decide (x.f2 + 1 < out.f2) = false := decide_eq_false hn
                have HE := Lib.hid heq
                clear heq
                go_wp2
                go_roundw
                case rel =>
                  exact ⟨m + 1, out, by omega, by omega, by go_num, hB4.alloc (by have := hB4.size; omega) _, ⟨blk_alloc y0.out _, blk_alloc y1.out _⟩, fromL_next hlt HF.out _ (pick_no counts at_ less m out x T HX.out HT.out hxb hof (by omega) (fun h => by have := h.2; omega)), HO⟩
                case measure => simp [intOf]; omega
            · have d2 : (x.f1 + T == out.f1) = false := beq_eq_false_iff_ne.mpr heq
              go_wp2
              go_roundw
              case rel =>
                exact ⟨m + 1, out, by omega, by omega, by go_num, hB4.alloc (by have := hB4.size; omega) _, ⟨blk_alloc y0.out _, blk_alloc y1.out _⟩, fromL_next hlt HF.out _ (pick_no counts at_ less m out x T HX.out HT.out hxb hof (by omega) (fun h => heq h.1)), HO⟩
              case measure => simp [intOf]; omega
        · have hof' : out.f0 = false := Bool.eq_false_iff.mpr hof
          clear hof
          go_wp2
          go_roundw
          case rel =>
            refine ⟨m + 1, ⟨true, x.f1 + T, x.f2 + 1, m⟩, by omega, by omega, by go_num, ?_, ⟨?_, ?_⟩, fromL_next hlt HF.out _ (pick_yes counts at_ less m out x T HX.out HT.out hxb (Or.inl hof')), ?_⟩
            · exact (set4_below (g := w.heap.size + 1) ⟨true, x.f1 + T, x.f2 + 1, m⟩ hB4 (by omega)).alloc (set4_below (g := w.heap.size + 1) ⟨true, x.f1 + T, x.f2 + 1, m⟩ hB4 (by omega)).size _
            · exact blk_alloc (set4_far (g := w.heap.size + 1) ⟨true, x.f1 + T, x.f2 + 1, m⟩ y0.out (by omega)) _
            · exact blk_alloc (set4_here (g := w.heap.size + 1) ⟨true, x.f1 + T, x.f2 + 1, m⟩ y1.out) _
            · exact ⟨by show 0 ≤ x.f1 + T; omega, by show x.f1 + T ≤ 2199023255552 * (x.f2 + 1); omega, by show 0 ≤ x.f2 + 1; omega, by show x.f2 + 1 ≤ 1000; omega, by show 0 ≤ (m : Int); omega, by show (m : Int) ≤ 1000; omega⟩
          case measure => simp [intOf]; omega
      · have hxf : x.f0 = false := Bool.eq_false_iff.mpr hxb
        clear hxb
        go_wp2
        go_roundw
        case rel => exact ⟨m + 1, out, by omega, by omega, by go_num, hB.alloc hB.size _, ⟨blk_alloc HW0.out _, blk_alloc HW1.out _⟩, fromL_next hlt HF.out _ (pick_off counts at_ less m out (by rw [← HX.out]; exact hxf)), HO⟩
        case measure => simp [intOf]; omega
    · have hm : m = hi + 1 := by omega
      have q0' := (hB.cell (p := ⟨cb, 0, none⟩) hcb).trans q0
      have q1' := (hB.cell (p := ⟨cb, 1, none⟩) hcb).trans q1
      have HM := Lib.hid hm
      clear q0 q1 q2 hm
      go_wp2
      go_quiet (fail)
      clear q0' q1'
      have hB' := pw_below_drewN hB nq
      have HW' : Hid ((wo.drewN nq).heap[w.heap.size]? = some (.cells (cellsB z85) 85 (0, 0)) ∧ (wo.drewN nq).heap[w.heap.size + 1]? = some (.cells (cellsB out) 85 (0, 0))) := HW
      clear HW hB
      generalize wo.drewN nq = wd at hB' HW' ⊢
      have k0 := blk_cell HW'.out.2 0
      have k1 := blk_cell HW'.out.2 1
      have k2 := blk_cell HW'.out.2 2
      have k3 := blk_cell HW'.out.2 3
      have j0 := blk_cell HW'.out.1 0
      have j1 := blk_cell HW'.out.1 1
      have j2 := blk_cell HW'.out.1 2
      have j3 := blk_cell HW'.out.1 3
      have f0 := blk_frozen HW'.out.1 0
      have f1 := blk_frozen HW'.out.1 1
      have f2 := blk_frozen HW'.out.1 2
      have f3 := blk_frozen HW'.out.1 3
      simp only [cellsB, z85, List.getElem?_toArray, List.getElem?_cons_zero, List.getElem?_cons_succ] at k0 k1 k2 k3 j0 j1 j2 j3
      have hbase := set4_here (g := w.heap.size) out HW'.out.1
      have HBASE := Lib.hid hbase
      clear hbase
      go_wp2
      have hfin : fromP counts width stride at_ less = out := by
        have h := HF.out
        rw [HM.out, show hi + 1 - (hi + 1) = 0 by omega] at h
        exact h
      refine bodyPost_ret (v := .agg (cellsB out)) (results_one (fn := Try.f56) rfl _ _ w.heap.size 85 (cellsB out) (0, 0) _ rfl HBASE.out Try.underlying85 rfl (by kernel_rfl)) rfl ⟨by rw [hfin], ?_⟩
      exact set4_below (g := w.heap.size) out hB' (Nat.le_refl _)
end Go.Proofs.Ytlklehliapbgeaa.Lev
