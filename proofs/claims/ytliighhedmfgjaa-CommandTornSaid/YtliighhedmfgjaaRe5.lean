/- Package command: what Read answers. -/
import Derived.Test.YtliighhedmfgjaaRe4
namespace Go.Proofs.Ytliighhedmfgjaa.Cmd
open Go.RowKit Go.Proofs.Ytliighhedmfgjaa.PRefC Go.Proofs.YtliighhedmfgjaaW.PrintWords Go.Proofs.YtliighhedmfgjaaW.PrintLast Go.Proofs.YtliighhedmfgjaaW.PrintMore

theorem results_ct {P : Program} {fn : Func} {p q : Tmp} {ty : TypeId} (h : fn.results = #[.cell p ty, .tmp q]) (tmps : Array Value) (w : World) (g : Nat) (t : TypeId) (cs : Array Value) (fr : Nat × Nat) (d : TypeDesc) (u : Value)
    (hp : tmps.getD p undef = .pointer (some ⟨g, 0, none⟩)) (hq : tmps.getD q undef = u) (hg : w.heap[g]? = some (.cells cs t fr))
    (hu : P.underlying ty = some d) (hd : (match d with | .struct _ | .array _ _ => true | _ => false) = true) (hi : (P.info? ty).map (·.size) = some cs.size) :
    (results fn tmps).run P w = .ok (.tuple #[.agg cs, u]) w := by
  have hp' : tmps[p]?.getD undef = .pointer (some ⟨g, 0, none⟩) := by simpa using hp
  have hq' : tmps[q]?.getD undef = u := by simpa using hq
  simp [results, h, hp', hq', asAddr, run_loadVar_row w g t ty cs fr d hg hu hd hi]

/-- Whether bytes are a command, and which one. -/
def rdOk (l : List Int) : Bool := !(cmS (l, false)).2 && (cmS (l, false)).1.isEmpty
def rdV (l : List Int) : S29 := if rdOk l = true then cmV (l, false) else z29
def rdE (l : List Int) : Int := if rdOk l = true then 0 else 2

set_option maxRecDepth 20000 in
set_option maxHeartbeats 4000000 in
theorem read_is (w : World) (A : Option Addr) (c : Nat) (l : List Int) (hC : (Kd.int .u8).C w A l.length l) (hc : l.length ≤ c) (hb : ∀ x ∈ l, 0 ≤ x ∧ x < 256) (hl : l.length ≤ 1000000000) :
    Calls Try.prog 8 #[.slice A l.length c] w fun e w' => ∃ v, e = .returned (.tuple #[.agg (cells29 (rdV l) v), .int .i64 (rdE l)]) ∧ k29.R 29 w' w.heap.size (fun _ => True) v (rdV l).f6 ∧ Below w.heap.size w w' := by
  have HC := Lib.hid hC
  have HB := Lib.hid hb
  clear hC hb
  obtain ⟨s', hs'⟩ : ∃ s', s' = cmS (l, false) := ⟨_, rfl⟩
  have hV : rdV l = if (!s'.2 && s'.1.isEmpty) = true then cmV (l, false) else z29 := by rw [hs']; rfl
  have hE : rdE l = if (!s'.2 && s'.1.isEmpty) = true then 0 else 2 := by rw [hs']; rfl
  obtain ⟨x, hx⟩ : ∃ x, x = cmV (l, false) := ⟨_, rfl⟩
  rw [hV, hE, ← hx]
  have HX := Lib.hid hx
  have HS := Lib.hid hs'
  clear hV hE hx hs'
  go_enter Try.func8, Try.ntmps8
  go_wp2_with fail
  obtain ⟨wa, hwa⟩ : ∃ wa, wa = (w.alloc (.cells #[.int .i64 0, .int .i64 0, .int .i64 0, .int .u64 0, .int .u64 0, .int .i64 0, .int .u64 0, .int .u64 0, .int .u64 0, .slice none 0 0] 29 (0, 0))).alloc (.cells #[.slice A l.length c, .bool false] 60 (0, 0)) := ⟨_, rfl⟩
  have hb2 : wa.heap[w.heap.size]? = some (.cells #[.int .i64 0, .int .i64 0, .int .i64 0, .int .u64 0, .int .u64 0, .int .i64 0, .int .u64 0, .int .u64 0, .int .u64 0, .slice none 0 0] 29 (0, 0)) := by rw [hwa]; exact blk_alloc (blk_new _ _) _
  have hb3 : wa.heap[w.heap.size + 1]? = some (.cells #[.slice A l.length c, .bool false] 60 (0, 0)) := by
    have e : (w.alloc (.cells #[.int .i64 0, .int .i64 0, .int .i64 0, .int .u64 0, .int .u64 0, .int .i64 0, .int .u64 0, .int .u64 0, .int .u64 0, .slice none 0 0] 29 (0, 0))).heap.size = w.heap.size + 1 := by simp
    rw [hwa, ← e]; exact blk_new _ _
  have hwl : w.heap.size < wa.heap.size := blk_lt hb2
  have hbel : Below w.heap.size w wa := by rw [hwa]; exact below_alloc (below_alloc (Below.refl _ _) _) _
  have HA : Hid (Rs w wa (w.heap.size + 1) (l, false)) := ⟨⟨⟨A, c, hb3, hc, HC.out⟩, HB.out, hbel, Nat.le_succ _⟩, hl⟩
  rw [← hwa]
  clear hwa hb3 hbel
  refine (command_st w wa (w.heap.size + 1) (l, false) HA.out).mono ?_
  rintro e w1 ⟨v, rfl, hr, h1, o1⟩
  rw [← HX.out] at hr ⊢
  rw [← HS.out] at h1
  have hc2 := o1.2 w.heap.size _ hb2 (by omega)
  have hlt2 : w.heap.size < w1.heap.size := blk_lt hc2
  obtain ⟨Av, cv, hv⟩ := Kd.R_slice hr
  subst hv
  have HR := Lib.hid hr
  have H1 := Lib.hid h1
  have HC2 := Lib.hid hc2
  unfold cells29
  clear hb2 hc2 hr h1 o1
  go_upto_region 3 with (fail)
  obtain ⟨w2, hw2⟩ : ∃ w2, w2 = w1.alloc (.cells #[.int .i64 x.f0, .int .i64 x.f1, .int .i64 x.f2, .int .u64 x.f3.f0.f0, .int .u64 x.f3.f0.f1, .int .i64 x.f3.f1, .int .u64 x.f4.f0, .int .u64 x.f4.f1, .int .u64 x.f5, .slice Av x.f6.length cv] 29 (0, 0)) := ⟨_, rfl⟩
  obtain ⟨g5, hg5⟩ : ∃ g5, g5 = w1.heap.size := ⟨_, rfl⟩
  have hn5 : w2.heap[g5]? = some (.cells #[.int .i64 x.f0, .int .i64 x.f1, .int .i64 x.f2, .int .u64 x.f3.f0.f0, .int .u64 x.f3.f0.f1, .int .i64 x.f3.f1, .int .u64 x.f4.f0, .int .u64 x.f4.f1, .int .u64 x.f5, .slice Av x.f6.length cv] 29 (0, 0)) := by rw [hw2, hg5]; exact blk_new _ _
  have hn2 : w2.heap[w.heap.size]? = some (.cells #[.int .i64 0, .int .i64 0, .int .i64 0, .int .u64 0, .int .u64 0, .int .i64 0, .int .u64 0, .int .u64 0, .int .u64 0, .slice none 0 0] 29 (0, 0)) := by rw [hw2]; exact blk_alloc HC2.out _
  have H2 : Hid (Rs w w2 (w.heap.size + 1) s') := by rw [hw2]; exact H1.out.below (below_alloc (Below.refl _ _) _)
  have R2 : Hid (k29.R 29 w2 w.heap.size (fun j => wa.heap.size ≤ j) (.slice Av x.f6.length cv) x.f6) := by rw [hw2]; exact Kd.R_alloc HR.out _
  rw [← hw2, ← hg5]
  clear hw2 hg5
  obtain ⟨Ab, cb, hbr, _⟩ := H2.out.1.is
  have p0 := blk_cell hbr 0
  have p1 := blk_cell hbr 1
  simp only [List.getElem?_toArray, List.getElem?_cons_zero, List.getElem?_cons_succ] at p0 p1
  have q0 := blk_cell hn5 0
  have q1 := blk_cell hn5 1
  have q2 := blk_cell hn5 2
  have q3 := blk_cell hn5 3
  have q4 := blk_cell hn5 4
  have q5 := blk_cell hn5 5
  have q6 := blk_cell hn5 6
  have q7 := blk_cell hn5 7
  have q8 := blk_cell hn5 8
  have q9 := blk_cell hn5 9
  simp only [List.getElem?_toArray, List.getElem?_cons_zero, List.getElem?_cons_succ] at q0 q1 q2 q3 q4 q5 q6 q7 q8 q9
  have t0 := blk_cell hn2 0
  have t1 := blk_cell hn2 1
  have t2 := blk_cell hn2 2
  have t3 := blk_cell hn2 3
  have t4 := blk_cell hn2 4
  have t5 := blk_cell hn2 5
  have t6 := blk_cell hn2 6
  have t7 := blk_cell hn2 7
  have t8 := blk_cell hn2 8
  have t9 := blk_cell hn2 9
  simp only [List.getElem?_toArray, List.getElem?_cons_zero, List.getElem?_cons_succ] at t0 t1 t2 t3 t4 t5 t6 t7 t8 t9
  have f2 := fun j => blk_frozen hn2 j
  have HN2 := Lib.hid hn2
  clear hn2 hn5 hbr
  obtain ⟨sl, sb⟩ := s'
  dsimp only at p0 p1
  cases sb with
  | true =>
    go_wp2
    (try simp only [Exit.inBlock, Exit.then])
    refine bodyPost_ret (v := .tuple #[.agg (cells29 z29 (.slice none 0 0)), .int .i64 2]) (results_ct (fn := Try.f8) rfl _ _ w.heap.size 29 _ (0, 0) _ _ rfl rfl (lay10_here HN2.out _ _ _ _ _ _ _ _ _ _) Try.underlying29 rfl (by kernel_rfl)) rfl ?_
    exact ⟨.slice none 0 0, rfl, Kd.R_nil _ _ _ _ _, (Rs.lay H2.out (by omega) (Nat.le_refl _) _ _ _ _ _ _ _ _ _ _).1.bel⟩
  | false =>
    cases sl with
    | nil =>
      go_wp2
      (try simp only [Exit.inBlock, Exit.then])
      refine bodyPost_ret (v := .tuple #[.agg (cells29 x (.slice Av x.f6.length cv)), .int .i64 0]) (results_ct (fn := Try.f8) rfl _ _ w.heap.size 29 _ (0, 0) _ _ rfl rfl (lay10_here HN2.out _ _ _ _ _ _ _ _ _ _) Try.underlying29 rfl (by kernel_rfl)) rfl ?_
      refine ⟨.slice Av x.f6.length cv, rfl, ?_, (Rs.lay H2.out (by omega) (Nat.le_refl _) _ _ _ _ _ _ _ _ _ _).1.bel⟩
      exact Kd.R_mono (Kd.R_step R2.out fun j hj _ => lay10_far _ (show j ≠ w.heap.size by omega) _ _ _ _ _ _ _ _ _ _) (fun _ _ => trivial)
    | cons a sl =>
      have hp : (0 : Int) < (sl.length : Int) + 1 := by omega
      go_wp2
      (try simp only [Exit.inBlock, Exit.then])
      refine bodyPost_ret (v := .tuple #[.agg (cells29 z29 (.slice none 0 0)), .int .i64 2]) (results_ct (fn := Try.f8) rfl _ _ w.heap.size 29 _ (0, 0) _ _ rfl rfl (lay10_here HN2.out _ _ _ _ _ _ _ _ _ _) Try.underlying29 rfl (by kernel_rfl)) rfl ?_
      exact ⟨.slice none 0 0, rfl, Kd.R_nil _ _ _ _ _, (Rs.lay H2.out (by omega) (Nat.le_refl _) _ _ _ _ _ _ _ _ _ _).1.bel⟩
end Go.Proofs.Ytliighhedmfgjaa.Cmd
