/- The reference's choice of levels: the walk through its code. -/
import Derived.Test.YtlklehliapbgeaaLevRefM
import Derived.WalkKit
import Derived.LoopTactic
import Derived.Outline
import Derived.WalkLawsBesides
import Derived.WalkSpells
import Derived.Lib.Hide
import Derived.Deep.QuietTactic
import Derived.BigQuiet
import Derived.RegionTactic
import Derived.Deep.Cut
import Derived.Deep.CutRange
import Derived.Deep.RegionHeld3
import Derived.StillTactics
namespace Go.Proofs.Ytlklehliapbgeaa.Lev
open Go.RowKit Go.Proofs.Ytlklehliapbgeaa.PLev Go.Proofs.Ytlklehliapbgeaa.PWay Go.Proofs.YtlklehliapbgeaaW.PrintWords Go.Proofs.YtlklehliapbgeaaW.PrintLast Go.Proofs.YtlklehliapbgeaaW.PrintMore Go.Proofs.Ytlklehliapbgeaa.Histo

theorem able_yes (width low most stride : Int) (h : Able width low most stride) : PRefT.flocculusref11_able.f width low most stride = some true := by
  obtain ⟨h1, h2, h3, h4, h5, h6, h7, h8⟩ := h
  unfold PRefT.flocculusref11_able.f
  rw [if_pos h1, if_pos h2, if_pos h3, if_pos h4, if_pos h5, if_pos h6, if_pos h7, decide_eq_true h8]

def refR (width low most stride : Nat) (c : List Int) : List Int × Int := if (bestF c width stride low (min most width) low).f0 = true then ((bestF c width stride low (min most width) low).f2, (0 : Int)) else ([], 1)

set_option maxRecDepth 20000 in
set_option maxHeartbeats 4000000 in
theorem ref_yes (w : World) (width low most stride : Nat) (A4 : Option Addr) (c4 : Nat) (l4 : List Int) (hC : (Kd.int .i64).C w A4 l4.length l4) (hc4 : l4.length ≤ c4) (h1 : 1 ≤ width) (h2 : width ≤ 128) (h3 : low ≤ width) (h4 : most ≤ 128) (h5 : 1 ≤ stride) (h6 : stride ≤ 20) :
    Calls Try.prog 36 #[.int .i64 width, .int .i64 low, .int .i64 most, .int .i64 stride, .slice A4 l4.length c4] w fun e w' => ∃ v0_ : Value, e = .returned (.tuple #[v0_, .int .i64 (refR width low most stride l4).2]) ∧ Kd.R (Kd.int .i64) 3 w' w.heap.size (fun _ => True) v0_ (refR width low most stride l4).1 ∧ Below w.heap.size w w' := by
  have HC := Lib.hid hC
  clear hC
  have hab := able_yes width low most stride ⟨by omega, by omega, by omega, by omega, by omega, by omega, by omega, by omega⟩
  have HAB := Lib.hid hab
  clear hab
  go_enter Try.func36, Try.ntmps36
  go_wp2_with fail
  refine (PRefT.flocculusref11_able.calls _ _ _ _ true _ HAB.out).mono ?_
  rintro e w1 ⟨rfl, ⟨n1, rfl⟩⟩
  clear HAB
  go_wp2_with (first
    | ((with_reducible refine gate_dst (N := 26) rfl ?_); refine Kd.R_make (w0 := w) k88 w.heap.size 88 rfl (N := 26) rfl 86 _ _ rfl ((width : Int) + 1) rfl rfl Try.underlying86 _ 40 info88 rfl (by decide) (by omega) z88 (ok := fun _ => True) (okp := fun _ => True) (k88_mkM _ _ _ _ (Kd.R_nil _ _ _ _ _)) (fun _ hk => hk) trivial (by omega) (by omega) (pw_below_drewN (Below.refl _ _) _) (Nat.le_refl _) ?_; intro v1 w2 ho hb hg hnew; rw [show ((width : Int) + 1).toNat = width + 1 by omega] at ho; obtain ⟨gb, cb, hv, hgb, _, _⟩ := Kd.R_form ho (by rw [List.length_replicate]; omega); subst hv; rw [List.length_replicate] at ho; obtain ⟨A0, c0, q0, q1, q2, _, _, f0, f1, f2⟩ := row_get ho width (by rw [List.length_replicate]; omega); rw [rd_rep88 _ _ _ (by omega)] at q0; have HO := Lib.hid ho; have HB := Lib.hid hb; clear ho hb hg hnew; rw [List.length_replicate])
    | fail)
  have hp0 := row_put0 HO.out width (by rw [List.length_replicate]; omega) true
  have hbel0 := HB.out.grown hp0.2 HB.out.size (fun k hk => by injection hk with hk; omega)
  have hpr : ∀ p : Nat, p ≤ width → rd_T88 ((List.replicate (width + 1) z88).set width ⟨true, (rd_T88 (List.replicate (width + 1) z88) width).f1, (rd_T88 (List.replicate (width + 1) z88) width).f2⟩) p = bestF l4 width stride low 0 p := fun p hp => by
    rw [rd_set88 _ _ _ _ (by rw [List.length_replicate]; omega), rd_rep88 _ _ _ (by omega)]
    unfold bestF
    by_cases e : p = width
    · subst e; rw [if_pos rfl, if_pos rfl]; rfl
    · rw [if_neg (Ne.symm e), if_neg e, rd_rep88 _ _ _ (by omega)]
  have HP0 := Lib.hid hp0.1
  have HBEL0 := Lib.hid hbel0
  have HPR := Lib.hid hpr
  clear hp0 hbel0 hpr HO HB
  go_loopw [12, 13] (fun vb vn wr => ∃ (n gb cb : Nat) (bl : List S88), n ≤ min most width ∧ vb = .slice (some ⟨gb, 0, none⟩) (width + 1) cb ∧ vn = .int .i64 n ∧ Hid (k88.R 88 wr w.heap.size (fun _ => True) (.slice (some ⟨gb, 0, none⟩) (width + 1) cb) bl) ∧
    Hid (Below w.heap.size w wr) ∧ Hid (∀ p : Nat, p ≤ width → rd_T88 bl p = bestF l4 width stride low n p)) (fun _ n _ => min most width - (intOf n).toNat)
  case atStart => exact ⟨0, gb, cb, _, by omega, rfl, rfl, HP0.out, HBEL0.out, HPR.out⟩
  case round =>
    clear HP0 HBEL0 HPR q0 q1 q2 f0 f1 f2
    obtain ⟨n, gb, cb, bl, hn, rfl, rfl, HO, HB, HV⟩ := hrel
    have hbl : bl.length = width + 1 := (Kd.R_reads' HO.out).1.symm
    by_cases hn1 : n < most
    · by_cases hn2 : n < width
      · go_wp2_with (first
          | (at_builtin; refine Kd.R_append_rows (w0 := w) (Rr := k88.M wr w.heap.size (fun _ => True)) k88 w.heap.size rfl _ _ 86 88 _ 40 rfl Try.underlying86 info88 rfl (by decide) (by omega) (.slice none 0 0) [] bl (some ⟨gb, 0, none⟩) (width + 1) cb (fun _ => True) (fun _ => True) rfl rfl (Kd.R_nil _ _ _ _ _) (row_reads HO.out) (fun x cs h => h) (fun _ hk => ⟨trivial, by simp [Value.ownBlock]⟩) (fun _ _ => trivial) HB.out HB.out.size (by simp only [List.length_nil]; omega) ?_; intro v1 w3 ho hb hg hat; rw [List.nil_append] at ho; obtain ⟨gn, cn, hv, hgn, _, _⟩ := Kd.R_form ho (by omega); subst hv; rw [hbl] at ho; have hrs := RS.make HO.out ho hb (grown_none hg) (by rcases hat with h | ⟨k, h, hk⟩ <;> simp [Value.ownBlock] at h <;> omega); rw [hbl]; have HRS := Lib.hid hrs; clear ho hb hg hat hrs HO HB)
          | fail)
        go_loopw [15] (fun va wr => ∃ (a : Nat) (nl : List S88), low ≤ a ∧ a ≤ width ∧ va = .int .i64 a ∧ Hid (RS w wr gb cb gn cn (width + 1) bl nl) ∧ Hid (∀ p : Nat, p ≤ width → rd_T88 nl p = if low ≤ p ∧ p < a then bestF l4 width stride low (n + 1) p else bestF l4 width stride low n p)) (fun a _ => width - (intOf a).toNat)
        case atStart => exact ⟨low, bl, Nat.le_refl _, h3, rfl, HRS.out, fun p hp => by rw [if_neg (by omega)]; exact HV.out p hp⟩
        case round =>
          clear HRS
          obtain ⟨a, nl, ha1, ha2, rfl, HRS, HN⟩ := hrel
          by_cases ha3 : a < width
          · go_wp2_with fail
            go_loopw [16] (fun vt wr => ∃ (t : Nat) (nl : List S88), a + 1 ≤ t ∧ t ≤ hiB width stride a + 1 ∧ vt = .int .i64 t ∧ Hid (RS w wr gb cb gn cn (width + 1) bl nl) ∧ Hid (∀ p : Nat, p ≤ width → p ≠ a → rd_T88 nl p = if low ≤ p ∧ p < a then bestF l4 width stride low (n + 1) p else bestF l4 width stride low n p) ∧
              Hid (scanR l4 (bestF l4 width stride low n) a (hiB width stride a + 1 - t) t (rd_T88 nl a) = bestF l4 width stride low (n + 1) a)) (fun t _ => hiB width stride a + 1 - (intOf t).toNat)
            case atStart =>
              refine ⟨a + 1, nl, Nat.le_refl _, by unfold hiB; omega, by go_num, HRS.out, fun p hp _ => HN.out p hp, ?_⟩
              show scanR l4 _ a (hiB width stride a + 1 - (a + 1)) (a + 1) (rd_T88 nl a) = bestF l4 width stride low (n + 1) a
              rw [HN.out a (by omega), if_neg (by omega), show hiB width stride a + 1 - (a + 1) = hiB width stride a - a by omega]
              conv => rhs; unfold bestF
              rw [if_pos ⟨ha1, ha3⟩]
            case round =>
              clear HRS HN
              obtain ⟨t, nl, ht1, ht2, rfl, HRS, HN, HT⟩ := hrel
              by_cases ht3 : t ≤ hiB width stride a
              · have ht4 : t ≤ width := by unfold hiB at ht3; omega
                have ht5 : t ≤ a + stride := by unfold hiB at ht3; omega
                have htn : t < bl.length := by omega
                obtain ⟨A2, c2, q0, q1, q2, hR2, hl2, f0, f1, f2⟩ := row_get HRS.out.b t htn
                obtain ⟨x, hx⟩ : ∃ x, x = rd_T88 bl t := ⟨_, rfl⟩
                have hxb : x = bestF l4 width stride low n t := hx.trans (HV.out t ht4)
                rw [← hx] at q0 q1 q2 hR2 hl2
                have HR2 := Lib.hid hR2
                have HXB := Lib.hid hxb
                clear hR2 hxb hx
                obtain ⟨xf, xc, xl⟩ := x
                dsimp only at q0 q1 q2 HR2 hl2
                cases xf with
                | false =>
                  go_wp2_with fail
                  go_roundw
                  case rel =>
                    refine ⟨t + 1, nl, by omega, by omega, by go_num, HRS.out, HN.out, ?_⟩
                    have := scan_step ht3 HT.out
                    unfold stepR at this
                    rw [← HXB.out, if_neg Bool.false_ne_true] at this
                    exact this
                  case measure => simp [intOf]; omega
                | true =>
                  obtain ⟨K, hK⟩ := part_ev l4 a t (by omega)
                  have hpart := hK K (Nat.le_refl _)
                  have HPART := Lib.hid hpart
                  clear hpart hK
                  have b0 : (0 : Int) ≤ (t : Int) := by omega
                  have b1 : (t : Int) < (width : Int) + 1 := by omega
                  have hgbl : gb < wr.heap.size := Kd.R_lt HRS.out.b gb (by simp [Value.ownBlock])
                  obtain ⟨x2, hx2⟩ : ∃ x2 : S88, x2 = candR l4 ⟨true, xc, xl⟩ a t := ⟨_, rfl⟩
                  have hok := best_ok l4 width stride low h6 n t
                  rw [← HXB.out] at hok
                  have hcost : IntKind.i64.wrap (xc + S l4 t (t - a)) = x2.f1 := by
                    rw [hx2]
                    have hS := S_nonneg l4 (t : Int) (t - a)
                    have hS2 := S_le l4 (t : Int) (t - a) (near_20 _ _ _ (by omega))
                    obtain ⟨o1, o2, o3⟩ := hok
                    dsimp only at o1 o2 o3
                    exact i64_of (by omega) (by omega)
                  have HX2 := Lib.hid hx2
                  have HCOST := Lib.hid hcost
                  have HOK := Lib.hid hok
                  clear hx2 hcost hok
                  have ne0 : gb ≠ wr.heap.size := by omega
                  have ne1 : gb ≠ wr.heap.size + 1 := by omega
                  have ne2 : wr.heap.size ≠ gb := by omega
                  have ne3 : wr.heap.size + 1 ≠ gb := by omega
                  go_upto_region 16 with (fail)
                  go_cut [17] from 51 to 97 (fun v17 wc => ∃ (gw : Nat) (A3 : Option Addr) (c3 : Nat), v17 = .pointer (some ⟨gw, 0, none⟩) ∧ wr.heap.size ≤ gw ∧ Hid (Below wr.heap.size wr wc) ∧ Hid (wc.heap[gw]? = some (.cells #[.bool true, .int .i64 x2.f1, .slice A3 x2.f2.length c3] 88 (0, 0))) ∧ Hid ((Kd.int .i64).R 3 wc wr.heap.size (fun _ => True) (.slice A3 x2.f2.length c3) x2.f2))
                  case first =>
                    go_region_held3 (fun w' => w'.cell? ⟨gb, t * 3 + 1, none⟩ = some (.int .i64 xc) ∧ w'.cell? ⟨gb, t * 3 + 2, none⟩ = some (.slice A2 xl.length c2)) (go_keep)
                      (first
                        | (go_at_call 53; refine (PRefT.flocculusref11_part.calls K A4 c4 l4 a t _ _ (Kd.C_below HC.out (by repeat (first | exact HRS.out.bel | apply below_alloc | apply pw_below_drewN | apply below_drew))) hc4 HPART.out).mono ?_; rintro e w5 ⟨rfl, ⟨n5, rfl⟩⟩)
                        | ((with_reducible refine gate_stepB rfl ?_); refine Kd.R_append_rows_step (w0 := wr) (Rr := fun x cs => cs = [Value.int .i64 x]) (Kd.int .i64) wr.heap.size (by rfl) _ _ 35 3 (.int .i64 0) 8 (by rfl) Try.underlying35 info3 rfl (by decide) (by decide) (.slice (some ⟨_, 0, none⟩) 1 1) [(t : Int)] xl A2 xl.length c2 (fun _ => True) (fun _ => False) (by rfl) (by rfl) ?ho ?hr (fun x cs h => h) (fun _ hk => hk.elim) (fun _ _ => trivial) ?hb ?hs ?hl ?_; (case ho => (repeat (first | exact lit_one _ _ _ _ (by first | exact Nat.le_refl _ | (simp; done) | (simp; omega)) (by first | rfl | (simp; done) | (simp; omega)) | apply Kd.R_alloc | apply Kd.R_drewN | apply Kd.R_drew))); (case hr => exact Kd.C_below (Kd.R_reads' HR2.out).2.2 (by repeat (first | exact Below.refl _ _ | apply below_alloc | apply pw_below_drewN | apply below_drew))); (case hb => repeat (first | exact Below.refl _ _ | apply below_alloc | apply pw_below_drewN | apply below_drew)); (case hs => first | exact Nat.le_refl _ | (simp; done) | (simp; omega)); (case hl => have := HOK.out.1; dsimp only at this; simp only [List.length_cons, List.length_nil]; omega); intro v3 w6 ho6 hb6 hg6 hat6; obtain ⟨A3, c3, hv3⟩ := Kd.R_slice ho6; subst hv3; have q1' : w6.cell? ⟨gb, t * 3 + 1, none⟩ = some (.int .i64 xc) := (hb6.cell (p := ⟨gb, t * 3 + 1, none⟩) hgbl).trans q1; have q2' : w6.cell? ⟨gb, t * 3 + 2, none⟩ = some (.slice A2 xl.length c2) := (hb6.cell (p := ⟨gb, t * 3 + 2, none⟩) hgbl).trans q2; (first | (have z : w6.heap[wr.heap.size]? = some (Obj.cells #[.bool false, .int .i64 0, .slice none 0 0] 88 (0, 0)) := ?zz; (case zz => refine (hg6.block (wr.heap.size) (push2_size0 _ _ _) (own_ne_at ?_)).trans (push2_first _ _ _); omega); have z0 := blk_cell z 0; have z1 := blk_cell z 1; have z2 := blk_cell z 2; have y0 := blk_frozen z 0; have y1 := blk_frozen z 1; have y2 := blk_frozen z 2; simp only [List.getElem?_toArray, List.getElem?_cons_zero, List.getElem?_cons_succ] at z0 z1 z2; have HZ := Lib.hid z; clear z) | skip); (first | (have z : w6.heap[wr.heap.size + 1]? = some (Obj.cells #[.bool false, .int .i64 0, .slice none 0 0] 88 (0, 0)) := ?zz; (case zz => refine (hg6.block (wr.heap.size + 1) (push2_size1 _ _ _) (own_ne_at ?_)).trans (push2_last _ _ _); omega); have z0 := blk_cell z 0; have z1 := blk_cell z 1; have z2 := blk_cell z 2; have y0 := blk_frozen z 0; have y1 := blk_frozen z 1; have y2 := blk_frozen z 2; simp only [List.getElem?_toArray, List.getElem?_cons_zero, List.getElem?_cons_succ] at z0 z1 z2; have HZ := Lib.hid z; clear z) | skip); have HO6 := Lib.hid ho6; have HB6 := Lib.hid hb6; clear ho6 hb6 hg6 hat6))
                    all_goals go_wp2
                    all_goals go_meet
                    all_goals (have hx2 := HX2.out)
                    all_goals (have hcs := HCOST.out)
                    all_goals (rw [← hcs])
                    all_goals (clear hcs HCOST)
                    all_goals (subst hx2)
                    all_goals (first
                      | exact ⟨_, A3, c3, rfl, HB6.out.size, (by repeat (first | exact HB6.out | apply below_alloc | apply pw_below_drewN | apply below_drew)), blk_new _ _, (by repeat (first | exact HO6.out | apply Kd.R_alloc | apply Kd.R_drewN | apply Kd.R_drew))⟩
                      | exact ⟨_, A3, c3, rfl, Nat.le_refl _, (fin_way HB6.out (Nat.le_refl _) HZ.out HO6.out).1, (fin_way HB6.out (Nat.le_refl _) HZ.out HO6.out).2.1, (fin_way HB6.out (Nat.le_refl _) HZ.out HO6.out).2.2⟩
                      | exact ⟨_, A3, c3, rfl, Nat.le_succ _, (fin_way HB6.out (Nat.le_succ _) HZ.out HO6.out).1, (fin_way HB6.out (Nat.le_succ _) HZ.out HO6.out).2.1, (fin_way HB6.out (Nat.le_succ _) HZ.out HO6.out).2.2⟩
                      | exact ⟨_, A3, c3, rfl, Nat.le_refl _, (fin_way (pw_below_drewN HB6.out _) (Nat.le_refl _) HZ.out (Kd.R_drewN HO6.out _)).1, (fin_way (pw_below_drewN HB6.out _) (Nat.le_refl _) HZ.out (Kd.R_drewN HO6.out _)).2.1, (fin_way (pw_below_drewN HB6.out _) (Nat.le_refl _) HZ.out (Kd.R_drewN HO6.out _)).2.2⟩
                      | exact ⟨_, A3, c3, rfl, Nat.le_succ _, (fin_way (pw_below_drewN HB6.out _) (Nat.le_succ _) HZ.out (Kd.R_drewN HO6.out _)).1, (fin_way (pw_below_drewN HB6.out _) (Nat.le_succ _) HZ.out (Kd.R_drewN HO6.out _)).2.1, (fin_way (pw_below_drewN HB6.out _) (Nat.le_succ _) HZ.out (Kd.R_drewN HO6.out _)).2.2⟩)
                  case rest =>
                    obtain ⟨gw, A3, c3, rfl, hgw, HBW, HGW, HR3⟩ := hcut
                    have hrs := HRS.out.below HBW.out
                    have hnl : nl.length = width + 1 := (Kd.R_reads' HRS.out.n).1.symm
                    obtain ⟨A5, c5, p0, p1, p2, hRn, hln, g0, g1, g2⟩ := row_get hrs.n a (by omega)
                    have z0 := blk_cell HGW.out 0
                    have z1 := blk_cell HGW.out 1
                    have z2 := blk_cell HGW.out 2
                    simp only [List.getElem?_toArray, List.getElem?_cons_zero, List.getElem?_cons_succ] at z0 z1 z2
                    obtain ⟨y, hy⟩ : ∃ y, y = rd_T88 nl a := ⟨_, rfl⟩
                    rw [← hy] at p0 p1 p2 hRn hln
                    have HY := Lib.hid hy
                    clear hy
                    have hx20 : x2.f0 = true := by rw [HX2.out]; rfl
                    have hx2l : x2.f2.length ≤ n + 1 := by rw [HX2.out]; have := HOK.out.1; show (( t : Int) :: xl).length ≤ n + 1; simp only [List.length_cons]; dsimp only at this; omega
                    obtain ⟨K2, hK2⟩ := better_ev x2 y (by omega)
                    rw [hx20] at hK2
                    obtain ⟨bb, hbb⟩ : ∃ bb, bb = betterB x2 y := ⟨_, rfl⟩
                    rw [← hbb] at hK2
                    have hstep : stepR l4 (bestF l4 width stride low n t) a t y = if bb = true then x2 else y := by
                      unfold stepR
                      rw [← HXB.out, ← HX2.out, ← hbb, if_pos rfl]
                    have HBT := Lib.hid hK2
                    have HST := Lib.hid hstep
                    have HR5 := Lib.hid hRn
                    have hlc3 : x2.f2.length ≤ c3 := (Kd.R_reads' HR3.out).2.1
                    have hgnl : gn < wc.heap.size := Kd.R_lt hrs.n gn (by simp [Value.ownBlock])
                    have hgwl : gw < wc.heap.size := blk_lt HGW.out
                    have HRS2 := Lib.hid hrs
                    have a0 : (0 : Int) ≤ (a : Int) := by omega
                    have a1 : (a : Int) < (width : Int) + 1 := by omega
                    have HA1 : Hid (a + 1 ≤ t ∧ t ≤ hiB width stride a) := ⟨ht1, ht3⟩
                    clear hK2 hbb hstep hRn hrs q0 q1 q2 f0 f1 f2 HX2 HCOST HOK HPART HR2
                    obtain ⟨yf, yc, yl⟩ := y
                    dsimp only at p0 p1 p2 hln HBT HR5
                    go_wp2_with fail
                    obtain ⟨wq, hwq⟩ : ∃ wq : World, wq = wc := ⟨_, rfl⟩
                    go_region_held3 (fun w' => (w'.cell? ⟨gw, 0, none⟩ = some (.bool true) ∧ w'.cell? ⟨gw, 1, none⟩ = some (.int .i64 x2.f1) ∧ w'.cell? ⟨gw, 2, none⟩ = some (.slice A3 x2.f2.length c3)) ∧ w'.cell? ⟨gn, a * 3, none⟩ = some (.bool yf) ∧ w'.cell? ⟨gn, a * 3 + 1, none⟩ = some (.int .i64 yc) ∧ w'.cell? ⟨gn, a * 3 + 2, none⟩ = some (.slice A5 yl.length c5)) (go_keep)
                      (first
                        | (go_at_call 54; refine (PRefT.flocculusref11_better.calls K2 true x2.f1 A3 c3 x2.f2 yf yc A5 c5 yl bb _ (Kd.C_below (Kd.R_reads' HR3.out).2.2 (by repeat (first | exact Below.refl _ _ | apply below_alloc | apply pw_below_drewN | apply below_drew))) hlc3 (Kd.C_below (Kd.R_reads' HR5.out).2.2 (by repeat (first | exact Below.refl _ _ | apply below_alloc | apply pw_below_drewN | apply below_drew))) hln HBT.out).mono ?_; rintro e w7 ⟨rfl, hb7⟩; have p0' : w7.cell? ⟨gn, a * 3, none⟩ = some (.bool yf) := (hb7.cell (p := ⟨gn, a * 3, none⟩) hgnl).trans p0; have p1' : w7.cell? ⟨gn, a * 3 + 1, none⟩ = some (.int .i64 yc) := (hb7.cell (p := ⟨gn, a * 3 + 1, none⟩) hgnl).trans p1; have p2' : w7.cell? ⟨gn, a * 3 + 2, none⟩ = some (.slice A5 yl.length c5) := (hb7.cell (p := ⟨gn, a * 3 + 2, none⟩) hgnl).trans p2; have z0' : w7.cell? ⟨gw, 0, none⟩ = some (.bool true) := (hb7.cell (p := ⟨gw, 0, none⟩) hgwl).trans z0; have z1' : w7.cell? ⟨gw, 1, none⟩ = some (.int .i64 x2.f1) := (hb7.cell (p := ⟨gw, 1, none⟩) hgwl).trans z1; have z2' : w7.cell? ⟨gw, 2, none⟩ = some (.slice A3 x2.f2.length c3) := (hb7.cell (p := ⟨gw, 2, none⟩) hgwl).trans z2; have g0' : w7.frozen? ⟨gn, a * 3, none⟩ = false := (hb7.frozen (p := ⟨gn, a * 3, none⟩) hgnl).trans g0; have g1' : w7.frozen? ⟨gn, a * 3 + 1, none⟩ = false := (hb7.frozen (p := ⟨gn, a * 3 + 1, none⟩) hgnl).trans g1; have g2' : w7.frozen? ⟨gn, a * 3 + 2, none⟩ = false := (hb7.frozen (p := ⟨gn, a * 3 + 2, none⟩) hgnl).trans g2; have HB7 := Lib.hid hb7; clear hb7))
                    have hrs7 := RS.below (RS.below HRS2.out (below_drew (Below.refl _ _))) HB7.out
                    have hv7 : (Kd.int .i64).R 3 w7 w.heap.size (fun _ => True) (.slice A3 x2.f2.length c3) x2.f2 := Kd.R_lower (Kd.R_below (Kd.R_below HR3.out (below_drew (Below.refl _ _))) HB7.out) HRS.out.bel.size
                    have hsc := scan_step HA1.out.2 HT.out
                    rw [← HY.out, HST.out] at hsc
                    have HRS7 := Lib.hid hrs7
                    have HV7 := Lib.hid hv7
                    have HSC := Lib.hid hsc
                    clear hrs7 hv7 hsc HB7 z0 z1 z2 p0 p1 p2 g0 g1 g2
                    cases bb with
                    | false =>
                      go_wp2
                      go_roundw
                      case rel =>
                        refine ⟨t + 1, nl, by omega, by have := HA1.out; omega, by go_num, HRS7.out, HN.out, ?_⟩
                        have := HSC.out
                        rw [if_neg Bool.false_ne_true, HY.out] at this
                        exact this
                      case measure => have := HA1.out; simp [intOf]; omega
                    | true =>
                      have hput := HRS7.out.put a (by omega) x2 HV7.out
                      rw [hx20] at hput
                      have HPUT := Lib.hid hput
                      clear hput
                      go_wp2
                      go_roundw
                      case rel =>
                        refine ⟨t + 1, nl.set a x2, by omega, by have := HA1.out; omega, by go_num, HPUT.out, fun p hp hpa => ?_, ?_⟩
                        · rw [rd_set88 _ _ _ _ (by omega), if_neg (Ne.symm hpa)]; exact HN.out p hp hpa
                        · have := HSC.out
                          rw [if_pos rfl] at this
                          rw [rd_set88 _ _ _ _ (by omega), if_pos rfl]
                          exact this
                      case measure => have := HA1.out; simp [intOf]; omega
              · have ht6 : t = hiB width stride a + 1 := by omega
                have hend : ∀ nl' : List S88, nl' = nl → True := fun _ _ => trivial
                clear hend
                have hHN : ∀ p : Nat, p ≤ width → rd_T88 nl p = if low ≤ p ∧ p < a + 1 then bestF l4 width stride low (n + 1) p else bestF l4 width stride low n p := fun p hp => by
                  by_cases e : p = a
                  · subst e
                    have := HT.out
                    rw [show hiB width stride p + 1 - t = 0 by omega] at this
                    rw [if_pos (by omega)]
                    exact this
                  · rw [HN.out p hp e]
                    by_cases e2 : low ≤ p ∧ p < a
                    · rw [if_pos e2, if_pos (by omega)]
                    · rw [if_neg e2, if_neg (by omega)]
                have HHN := Lib.hid hHN
                clear hHN HT HN
                by_cases e : t ≤ width
                · have e2 : ¬ ((t : Int) ≤ a + stride) := by unfold hiB at ht6; omega
                  go_wp2
                  go_roundw
                  case rel => exact ⟨a + 1, nl, by omega, by omega, by go_num, HRS.out, HHN.out⟩
                  case measure => simp [intOf]; omega
                · go_wp2
                  go_roundw
                  case rel => exact ⟨a + 1, nl, by omega, by omega, by go_num, HRS.out, HHN.out⟩
                  case measure => simp [intOf]; omega
          · obtain rfl : a = width := by omega
            go_wp2
            go_roundw
            case rel =>
              refine ⟨n + 1, gn, cn, nl, by omega, rfl, by go_num, HRS.out.n, HRS.out.bel, fun p hp => ?_⟩
              rw [HN.out p hp]
              by_cases e : low ≤ p ∧ p < a
              · rw [if_pos e]
              · rw [if_neg e]
                conv => rhs; unfold bestF
                rw [if_neg e]
            case measure => simp [intOf]; omega
      · have hnn : n = min most width := by omega
        obtain ⟨A2, c2, q0, q1, q2, hR2, hl2, f0, f1, f2⟩ := row_get HO.out low (by omega)
        have href : refR width low most stride l4 = if (rd_T88 bl low).f0 = true then ((rd_T88 bl low).f2, (0 : Int)) else ([], 1) := by
          unfold refR
          rw [← hnn, ← HV.out low h3]
        obtain ⟨x, hx⟩ : ∃ x, x = rd_T88 bl low := ⟨_, rfl⟩
        rw [← hx] at q0 q1 q2 hR2 hl2 href
        have HR2 := Lib.hid hR2
        have HREF := Lib.hid href
        clear hx hR2 href HV
        obtain ⟨xf, xc, xl⟩ := x
        dsimp only at q0 q1 q2 HR2 hl2
        cases xf with
        | false =>
          go_wp2
          go_ret2
          have := HREF.out
          rw [if_neg Bool.false_ne_true] at this
          rw [this]
          exact ⟨_, rfl, Kd.R_nil _ _ _ _ _, HB.out⟩
        | true =>
          go_wp2
          go_ret2
          have := HREF.out
          rw [if_pos trivial] at this
          rw [this]
          exact ⟨_, rfl, HR2.out, HB.out⟩
    · have hnn : n = min most width := by omega
      obtain ⟨A2, c2, q0, q1, q2, hR2, hl2, f0, f1, f2⟩ := row_get HO.out low (by omega)
      have href : refR width low most stride l4 = if (rd_T88 bl low).f0 = true then ((rd_T88 bl low).f2, (0 : Int)) else ([], 1) := by
        unfold refR
        rw [← hnn, ← HV.out low h3]
      obtain ⟨x, hx⟩ : ∃ x, x = rd_T88 bl low := ⟨_, rfl⟩
      rw [← hx] at q0 q1 q2 hR2 hl2 href
      have HR2 := Lib.hid hR2
      have HREF := Lib.hid href
      clear hx hR2 href HV
      obtain ⟨xf, xc, xl⟩ := x
      dsimp only at q0 q1 q2 HR2 hl2
      cases xf with
      | false =>
        go_wp2
        go_ret2
        have := HREF.out
        rw [if_neg Bool.false_ne_true] at this
        rw [this]
        exact ⟨_, rfl, Kd.R_nil _ _ _ _ _, HB.out⟩
      | true =>
        go_wp2
        go_ret2
        have := HREF.out
        rw [if_pos trivial] at this
        rw [this]
        exact ⟨_, rfl, HR2.out, HB.out⟩
end Go.Proofs.Ytlklehliapbgeaa.Lev
