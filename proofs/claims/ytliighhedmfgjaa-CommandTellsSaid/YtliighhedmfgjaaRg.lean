/- The reference's reader of commands: what ReadCommand answers. -/
import Derived.Test.YtliighhedmfgjaaPm
import Derived.Lib.Bytes
namespace Go.Proofs.Ytliighhedmfgjaa.Cmd
open Go.RowKit Go.Proofs.Ytliighhedmfgjaa.PRefC Go.Proofs.YtliighhedmfgjaaW.PrintWords Go.Proofs.YtliighhedmfgjaaW.PrintLast Go.Proofs.YtliighhedmfgjaaW.PrintMore

theorem str_inj {a b : List Int} (ha : Byte a) (hb : Byte b) (h1 : (strOfNums a).toList = (strOfNums b).toList) : a = b := by
  rw [Lib.strOfNums_toList, Lib.strOfNums_toList] at h1
  unfold Lib.bytesOf at h1
  have key : ∀ (a b : List Int), Byte a → Byte b → a.map (fun n => UInt8.ofNat n.toNat) = b.map (fun n => UInt8.ofNat n.toNat) → a = b := by
    intro a
    induction a with
    | nil => intro b _ _ h; cases b with | nil => rfl | cons y b => simp at h
    | cons x a ih =>
      intro b ha hb h
      cases b with
      | nil => simp at h
      | cons y b =>
        simp only [List.map_cons, List.cons.injEq] at h
        have hx := ha x (List.mem_cons_self ..)
        have hy := hb y (List.mem_cons_self ..)
        have h2 := congrArg UInt8.toNat h.1
        simp only [UInt8.toNat_ofNat'] at h2
        have e : x = y := by omega
        rw [e, ih b (fun z hz => ha z (List.mem_cons_of_mem _ hz)) (fun z hz => hb z (List.mem_cons_of_mem _ hz)) h.2]
  exact key a b ha hb h1
theorem str_ne {a b : List Int} (ha : Byte a) (hb : Byte b) (h : ¬ a = b) : ((strOfNums a).toList == (strOfNums b).toList) = false := by
  simp only [beq_eq_false_iff_ne, ne_eq]
  exact fun e => h (str_inj ha hb e)

set_option maxRecDepth 20000 in
set_option maxHeartbeats 4000000 in
theorem readc_is (w : World) (A : Option Addr) (c : Nat) (l : List Int) (hC : (Kd.int .u8).C w A l.length l) (hc : l.length ≤ c) (hb : Byte l) (hl : l.length ≤ 1000000000) :
    Calls Try.prog 9 #[.slice A l.length c] w fun e w' => ∃ v, e = .returned (.tuple #[.agg (cells29 (rfV l) v), .int .i64 (rfE l)]) ∧ k29.R 29 w' w.heap.size (fun _ => True) v (rfV l).f6 ∧ Below w.heap.size w w' := by
  have HC := Lib.hid hC
  have HB := Lib.hid hb
  clear hC hb
  obtain ⟨s', hs'⟩ : ∃ s', s' = ftS (l, false) := ⟨_, rfl⟩
  obtain ⟨x, hx⟩ : ∃ x, x = ftV (l, false) := ⟨_, rfl⟩
  have hok := ftV_ok (s := (l, false)) HB.out
  rw [← hx] at hok
  obtain ⟨y, hy⟩ : ∃ y, y = encP x := ⟨_, rfl⟩
  have hO : rfOk l = (!s'.2 && (!y.isEmpty && decide (y = l))) := by rw [hy, hx, hs']; rfl
  have hV : rfV l = if (!s'.2 && (!y.isEmpty && decide (y = l))) = true then x else z29 := by rw [← hO, hx]; rfl
  have hE : rfE l = if (!s'.2 && (!y.isEmpty && decide (y = l))) = true then 0 else 2 := by rw [← hO]; rfl
  have hyb : Byte y := by rw [hy]; exact encP_byte x
  obtain ⟨K, hK⟩ := cb_any x hok.1 hok.2
  have hcb : cbF K x = some y := by rw [hy]; exact hK K (Nat.le_refl _)
  unfold cbF at hcb
  rw [hV, hE]
  obtain ⟨b, hbb⟩ : ∃ b, b = (!s'.2 && (!y.isEmpty && decide (y = l))) := ⟨_, rfl⟩
  rw [← hbb]
  have HBB := Lib.hid hbb
  clear hbb
  have HX := Lib.hid hx
  have HS := Lib.hid hs'
  have HYB := Lib.hid hyb
  have HCB := Lib.hid hcb
  clear hV hE hx hs' hO hK hok hy hyb hcb
  go_enter Try.func9, Try.ntmps9
  go_wp2_with fail
  obtain ⟨wa, hwa⟩ : ∃ wa, wa = (w.alloc (.cells #[.int .i64 0, .int .i64 0, .int .i64 0, .int .u64 0, .int .u64 0, .int .i64 0, .int .u64 0, .int .u64 0, .int .u64 0, .slice none 0 0] 29 (0, 0))).alloc (.cells #[.slice A l.length c, .bool false] 64 (0, 0)) := ⟨_, rfl⟩
  have hb2 : wa.heap[w.heap.size]? = some (.cells #[.int .i64 0, .int .i64 0, .int .i64 0, .int .u64 0, .int .u64 0, .int .i64 0, .int .u64 0, .int .u64 0, .int .u64 0, .slice none 0 0] 29 (0, 0)) := by rw [hwa]; exact blk_alloc (blk_new _ _) _
  have hb3 : wa.heap[w.heap.size + 1]? = some (.cells #[.slice A l.length c, .bool false] 64 (0, 0)) := by
    have e : (w.alloc (.cells #[.int .i64 0, .int .i64 0, .int .i64 0, .int .u64 0, .int .u64 0, .int .i64 0, .int .u64 0, .int .u64 0, .int .u64 0, .slice none 0 0] 29 (0, 0))).heap.size = w.heap.size + 1 := by simp
    rw [hwa, ← e]; exact blk_new _ _
  have hwl : w.heap.size < wa.heap.size := blk_lt hb2
  have hbel : Below w.heap.size w wa := by rw [hwa]; exact below_alloc (below_alloc (Below.refl _ _) _) _
  have HA : Hid (Rf w wa (w.heap.size + 1) (l, false)) := ⟨⟨A, c, hb3, hc, HC.out⟩, HB.out, hbel, Nat.le_succ _, hl⟩
  rw [← hwa]
  clear hwa hb3 hbel
  refine (ftrue_st w wa (w.heap.size + 1) (l, false) HA.out).mono ?_
  rintro e w1 ⟨v, rfl, hr, h1, o1⟩
  rw [← HX.out] at hr ⊢
  rw [← HS.out] at h1
  have hc2 := o1.2 w.heap.size _ hb2 (by omega)
  have hlt2 : w.heap.size < w1.heap.size := blk_lt hc2
  obtain ⟨Av, cv, hv⟩ := Kd.R_slice hr
  subst hv
  have HR := Lib.hid hr
  have H1 := Lib.hid h1
  have HC2 := Lib.hid hc2
  unfold cells29
  clear hb2 hc2 hr h1 o1
  go_upto_region 3 with (fail)
  obtain ⟨w2, hw2⟩ : ∃ w2, w2 = w1.alloc (.cells #[.int .i64 x.f0, .int .i64 x.f1, .int .i64 x.f2, .int .u64 x.f3.f0.f0, .int .u64 x.f3.f0.f1, .int .i64 x.f3.f1, .int .u64 x.f4.f0, .int .u64 x.f4.f1, .int .u64 x.f5, .slice Av x.f6.length cv] 29 (0, 0)) := ⟨_, rfl⟩
  obtain ⟨g5, hg5⟩ : ∃ g5, g5 = w1.heap.size := ⟨_, rfl⟩
  have hn5 : w2.heap[g5]? = some (.cells #[.int .i64 x.f0, .int .i64 x.f1, .int .i64 x.f2, .int .u64 x.f3.f0.f0, .int .u64 x.f3.f0.f1, .int .i64 x.f3.f1, .int .u64 x.f4.f0, .int .u64 x.f4.f1, .int .u64 x.f5, .slice Av x.f6.length cv] 29 (0, 0)) := by rw [hw2, hg5]; exact blk_new _ _
  have hn2 : w2.heap[w.heap.size]? = some (.cells #[.int .i64 0, .int .i64 0, .int .i64 0, .int .u64 0, .int .u64 0, .int .i64 0, .int .u64 0, .int .u64 0, .int .u64 0, .slice none 0 0] 29 (0, 0)) := by rw [hw2]; exact blk_alloc HC2.out _
  have H2 : Hid (Rf w w2 (w.heap.size + 1) s') := by rw [hw2]; exact H1.out.below (below_alloc (Below.refl _ _) _)
  have R2 : Hid (k29.R 29 w2 w.heap.size (fun j => wa.heap.size ≤ j) (.slice Av x.f6.length cv) x.f6) := by rw [hw2]; exact Kd.R_alloc HR.out _
  have hlt5 : g5 < w2.heap.size := blk_lt hn5
  rw [← hw2, ← hg5]
  clear hw2 hg5
  have q0 := blk_cell hn5 0
  have q1 := blk_cell hn5 1
  have q2 := blk_cell hn5 2
  have q3 := blk_cell hn5 3
  have q4 := blk_cell hn5 4
  have q5 := blk_cell hn5 5
  have q6 := blk_cell hn5 6
  have q7 := blk_cell hn5 7
  have q8 := blk_cell hn5 8
  have q9 := blk_cell hn5 9
  simp only [List.getElem?_toArray, List.getElem?_cons_zero, List.getElem?_cons_succ] at q0 q1 q2 q3 q4 q5 q6 q7 q8 q9
  have HN5 := Lib.hid hn5
  have HN2 := Lib.hid hn2
  clear hn2 hn5
  obtain ⟨A2, c2, he2, hl2, hC2⟩ := Kd.R_reads R2.out
  simp only [Value.slice.injEq] at he2
  obtain ⟨rfl, _, rfl⟩ := he2
  have HC3 := Lib.hid hC2
  clear hC2
  go_wp2_with fail
  refine (flocculusref21_CommandBytes.calls K x.f0 x.f1 x.f2 x.f3.f0.f0 x.f3.f0.f1 x.f3.f1 x.f4.f0 x.f4.f1 x.f5 Av cv x.f6 y w2 HC3.out hl2 HCB.out).mono ?_
  rintro e w3 ⟨vy, rfl, hry, hby⟩
  have hn5' := blk_below HN5.out hby
  have hn2' := blk_below HN2.out hby
  have H3 := Lib.hid (H2.out.below hby)
  obtain ⟨Ay, cy, hey, hly, hCy⟩ := Kd.R_reads hry
  subst hey
  have hRy := Lib.hid hry
  have hCY := Lib.hid hCy
  have R3 := Lib.hid (Kd.R_elder' R2.out (Kd.R_base hry) hby)
  have HN5' := Lib.hid hn5'
  have HN2' := Lib.hid hn2'
  clear q0 q1 q2 q3 q4 q5 q6 q7 q8 q9 HN5 HN2 hry hCy hby hn5' hn2'
  go_upto_region 4 with (fail)
  obtain ⟨Ab, cb, hbr, _⟩ := H3.out.is
  have p0 := blk_cell hbr 0
  have p1 := blk_cell hbr 1
  simp only [List.getElem?_toArray, List.getElem?_cons_zero, List.getElem?_cons_succ] at p0 p1
  clear hbr
  have q0 := blk_cell HN5'.out 0
  have q1 := blk_cell HN5'.out 1
  have q2 := blk_cell HN5'.out 2
  have q3 := blk_cell HN5'.out 3
  have q4 := blk_cell HN5'.out 4
  have q5 := blk_cell HN5'.out 5
  have q6 := blk_cell HN5'.out 6
  have q7 := blk_cell HN5'.out 7
  have q8 := blk_cell HN5'.out 8
  have q9 := blk_cell HN5'.out 9
  simp only [List.getElem?_toArray, List.getElem?_cons_zero, List.getElem?_cons_succ] at q0 q1 q2 q3 q4 q5 q6 q7 q8 q9
  have t0 := blk_cell HN2'.out 0
  have t1 := blk_cell HN2'.out 1
  have t2 := blk_cell HN2'.out 2
  have t3 := blk_cell HN2'.out 3
  have t4 := blk_cell HN2'.out 4
  have t5 := blk_cell HN2'.out 5
  have t6 := blk_cell HN2'.out 6
  have t7 := blk_cell HN2'.out 7
  have t8 := blk_cell HN2'.out 8
  have t9 := blk_cell HN2'.out 9
  simp only [List.getElem?_toArray, List.getElem?_cons_zero, List.getElem?_cons_succ] at t0 t1 t2 t3 t4 t5 t6 t7 t8 t9
  have f2 := fun j => blk_frozen HN2'.out j
  have k1 := Kd.C_string (P := Try.prog) (src := 30) (dst := 9) Try.underlying30 Try.underlying5 Try.underlying9 hCY.out (c := cy)
  have k2 := Kd.C_string (P := Try.prog) (src := 30) (dst := 9) Try.underlying30 Try.underlying5 Try.underlying9 (Kd.C_below HC.out H3.out.bel) (c := c)
  obtain ⟨sl, sb⟩ := s'
  dsimp only at p0 p1
  cases sb with
  | true =>
    have hbt : b = false := HBB.out
    clear HBB
    subst hbt
    go_wp2
    (try simp only [Exit.inBlock, Exit.then])
    refine bodyPost_ret (v := .tuple #[.agg (cells29 z29 (.slice none 0 0)), .int .i64 2]) (results_ct (fn := Try.f9) rfl _ _ w.heap.size 29 _ (0, 0) _ _ rfl rfl (lay10_here HN2'.out _ _ _ _ _ _ _ _ _ _) Try.underlying29 rfl (by kernel_rfl)) rfl ?_
    exact ⟨.slice none 0 0, rfl, Kd.R_nil _ _ _ _ _, (Rf.lay H3.out (by omega) (Nat.le_refl _) _ _ _ _ _ _ _ _ _ _).bel⟩
  | false =>
    by_cases hyl : y ≠ [] ∧ y = l
    · obtain ⟨hy0, rfl⟩ := hyl
      have hcond : (!((sl, false) : St).2 && (!y.isEmpty && decide (y = y))) = true := by
        cases y with
        | nil => exact absurd rfl hy0
        | cons a y => simp
      have hbt : b = true := HBB.out.trans hcond
      clear HBB
      subst hbt
      have hp0 : ¬ (y.length : Int) = 0 := fun e => hy0 (List.eq_nil_of_length_eq_zero (by omega))
      have hpb : ((y.length : Int) == 0) = false := by simp only [beq_eq_false_iff_ne, ne_eq]; exact hp0
      clear hcond hp0
      go_wp2
      (try simp only [Exit.inBlock, Exit.then])
      refine bodyPost_ret (v := .tuple #[.agg (cells29 x (.slice Av x.f6.length cv)), .int .i64 0]) (results_ct (fn := Try.f9) rfl _ _ w.heap.size 29 _ (0, 0) _ _ rfl rfl (lay10_here HN2'.out _ _ _ _ _ _ _ _ _ _) Try.underlying29 rfl (by kernel_rfl)) rfl ?_
      refine ⟨.slice Av x.f6.length cv, rfl, ?_, (Rf.lay H3.out (by omega) (Nat.le_refl _) _ _ _ _ _ _ _ _ _ _).bel⟩
      exact Kd.R_mono (Kd.R_step R3.out fun j hj _ => lay10_far _ (show j ≠ w.heap.size by have := hj.1; omega) _ _ _ _ _ _ _ _ _ _) (fun _ _ => trivial)
    · have hcond : (!((sl, false) : St).2 && (!y.isEmpty && decide (y = l))) = false := by
        cases y with
        | nil => simp
        | cons a y =>
          have : ¬ (a :: y = l) := fun e => hyl ⟨by simp, e⟩
          simp [this]
      have hbt : b = false := HBB.out.trans hcond
      clear HBB
      subst hbt
      by_cases hy0 : y = []
      · subst hy0
        clear hcond hyl
        go_wp2
        (try simp only [Exit.inBlock, Exit.then])
        refine bodyPost_ret (v := .tuple #[.agg (cells29 z29 (.slice none 0 0)), .int .i64 2]) (results_ct (fn := Try.f9) rfl _ _ w.heap.size 29 _ (0, 0) _ _ rfl rfl (lay10_here HN2'.out _ _ _ _ _ _ _ _ _ _) Try.underlying29 rfl (by kernel_rfl)) rfl ?_
        exact ⟨.slice none 0 0, rfl, Kd.R_nil _ _ _ _ _, (Rf.lay H3.out (by omega) (Nat.le_refl _) _ _ _ _ _ _ _ _ _ _).bel⟩
      · have hs := str_ne HYB.out HB.out (fun h => hyl ⟨hy0, h⟩)
        have hp0 : ¬ (y.length : Int) = 0 := fun e => hy0 (List.eq_nil_of_length_eq_zero (by omega))
        have hpb : ((y.length : Int) == 0) = false := by simp only [beq_eq_false_iff_ne, ne_eq]; exact hp0
        clear hcond hyl hp0
        go_wp2
        (try simp only [Exit.inBlock, Exit.then])
        refine bodyPost_ret (v := .tuple #[.agg (cells29 z29 (.slice none 0 0)), .int .i64 2]) (results_ct (fn := Try.f9) rfl _ _ w.heap.size 29 _ (0, 0) _ _ rfl rfl (lay10_here HN2'.out _ _ _ _ _ _ _ _ _ _) Try.underlying29 rfl (by kernel_rfl)) rfl ?_
        exact ⟨.slice none 0 0, rfl, Kd.R_nil _ _ _ _ _, (Rf.lay H3.out (by omega) (Nat.le_refl _) _ _ _ _ _ _ _ _ _ _).bel⟩
end Go.Proofs.Ytliighhedmfgjaa.Cmd
