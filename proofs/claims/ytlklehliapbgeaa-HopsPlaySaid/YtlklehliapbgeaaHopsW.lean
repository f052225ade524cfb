/- The law HopsPlay: the walk through its code. -/
import Derived.Test.YtlklehliapbgeaaHopsS
import Derived.Deep.Cut
import Derived.Deep.CutRange
import Derived.Deep.RegionHeld3
import Derived.StillTactics
namespace Go.Proofs.Ytlklehliapbgeaa.Hops
open Go.RowKit Go.Proofs.Ytlklehliapbgeaa.PLev Go.Proofs.YtlklehliapbgeaaW.PrintWords Go.Proofs.YtlklehliapbgeaaW.PrintLast Go.Proofs.YtlklehliapbgeaaW.PrintMore

theorem Sees.below {W W1 : World} {hb mb : Nat} {most : Int} {N : Nat} {c : Int → Int} {m : Nat} (h : Sees W hb mb most N c m) (hB : Below W.heap.size W W1) : Sees W1 hb mb most N c m := by
  have hlt := h.lt
  obtain ⟨D, h0, ⟨es, clock, hm, r⟩, hv, hs⟩ := h
  exact ⟨D, (hB.block hb hlt.1).trans h0, ⟨es, clock, (hB.block mb hlt.2.1).trans hm, r⟩, hv, hs⟩

set_option maxRecDepth 20000 in
set_option maxHeartbeats 4000000 in
theorem HopsPlay_long (most : Int) (A : Option Addr) (n cl : Nat) (w : World) (hl : (n : Int) > 200) :
    Calls Try.prog 5 #[.int .i64 most, .slice A n cl] w fun e w' => e = .returned (.bool true) ∧ Below w.heap.size w w' := by
  go_enter Try.func5, Try.ntmps5
  go_wp2_with fail
  refine (alive_any _).mono ?_
  rintro e w1 ⟨rfl, hB⟩
  go_wp2
  go_ret
  exact ⟨rfl, hB⟩

theorem info3 : (Try.prog.info? 3).map (fun i => (i.zero, i.size, i.bytes)) = some (some (.int .i64 0), 1, 8) := by kernel_rfl
theorem own_pos {W : World} {base n : Nat} {A : Option Addr} {cap : Nat} {ns : List Int} (h : W.ownsRow base 3 1 (.slice A n cap) n (nums .i64 ns)) (hn : 0 < n) : ∃ g, A = some ⟨g, 0, none⟩ := by
  rcases h.2 with ⟨he, h0⟩ | ⟨g, cap', cur, he, _⟩
  · injection he with h1 h2
    omega
  · injection he with h1
    exact ⟨g, h1⟩

set_option maxRecDepth 20000 in
set_option maxHeartbeats 4000000 in
theorem HopsPlay_in (most : Int) (A : Option Addr) (cl : Nat) (l : List S38) (w : World) (hl : (l.length : Int) ≤ 200) (hC : Kd.C k38 w A l.length l) (hwf : ∀ i : Nat, i < l.length → wf (rd_T38 l i).f1) :
    Calls Try.prog 5 #[.int .i64 most, .slice A l.length cl] w fun e w' => e = .returned (.bool true) ∧ Below w.heap.size w w' := by
  have HC := Lib.hid hC
  have HWF := Lib.hid hwf
  clear hC hwf
  go_enter Try.func5, Try.ntmps5
  go_wp2_with fail
  refine (alive_any _).mono ?_
  rintro e w1 ⟨rfl, hB⟩
  go_wp2_with fail
  refine (new_is _ _).mono ?_
  rintro e w2 ⟨hb, mb, rfl, hb1, hb2, hs, hB'⟩
  have hB2 : Below w.heap.size w w2 := hB.trans (hB'.mono hB.size)
  have hb3 : w.heap.size ≤ mb := Nat.le_trans hB.size hb2
  clear hB hB' hb1 hb2
  go_wp2_with fail
  refine (new_is _ _).mono ?_
  rintro e w3 ⟨ob, pb, rfl, ob1, ob2, os, oB⟩
  have hB3 : Below w.heap.size w w3 := hB2.trans (oB.mono hB2.size)
  have ob3 : w.heap.size ≤ pb := Nat.le_trans hB2.size ob2
  have hs3 : Sees w3 hb mb (capm most) 0 (fun _ => 0) 0 := Sees.below hs oB
  have hmp : mb ≠ pb := by have := hs.lt.2.1; omega
  have hMS : MS w w3 hb mb ob pb (capm most) (.slice none 0 0) (.slice none 0 0) [] [] (fun _ => 0) (fun _ => 0) 0 0 0 0 :=
    ⟨hs3, os, hmp, hb3, ob3, own_nil _ _ _ _, own_nil _ _ _ _, ne_nil _, hB3⟩
  have HMS := Lib.hid hMS
  clear hs os oB ob1 ob2 hs3 hMS hB3 hB2
  go_upto_if 36 with (fail)
  go_cut [0] from 17 (fun v0 wc => v0 = .int .i64 (if most < 0 then 0 else most) ∧ wc = w3)
  case first =>
    by_cases h0 : most < 0
    · go_wp2
      go_meet
      case rel => exact ⟨by rw [if_pos (show most < 0 by omega)], rfl⟩
    · go_wp2
      go_meet
      case rel => exact ⟨by rw [if_neg (show ¬ most < 0 by omega)], rfl⟩
  case rest =>
    obtain ⟨rfl, rfl⟩ := hcut
    go_upto_if 38 with (fail)
    obtain ⟨w4, hw4⟩ : ∃ w4 : World, w4 = wc := ⟨_, rfl⟩
    rw [← hw4] at HMS ⊢
    clear hw4
    go_cut [0] from 17 (fun v0 wc => v0 = .int .i64 (capm most) ∧ wc = w4)
    case first =>
      have hr : ∃ x, (if most < 0 then 0 else most) = x ∧ (60 < x → capm most = 60) ∧ (¬ 60 < x → capm most = x) := ⟨_, rfl, by unfold capm; split <;> repeat' split; all_goals omega, by unfold capm; split <;> repeat' split; all_goals omega⟩
      obtain ⟨x, hx, hx1, hx2⟩ := hr
      rw [hx]
      by_cases h6 : 60 < x
      · have hx := hx1 h6
        have HX := Lib.hid hx
        clear hx1 hx2 hx
        go_wp2
        go_meet
        case rel => exact ⟨by rw [HX.out], rfl⟩
      · have hx := hx2 h6
        have HX := Lib.hid hx
        clear hx1 hx2 hx
        go_wp2
        go_meet
        case rel => exact ⟨by rw [HX.out], rfl⟩
    case rest =>
      obtain ⟨rfl, rfl⟩ := hcut
      go_wp2_with fail
      obtain ⟨w5, hw5⟩ : ∃ w5 : World, w5 = wc := ⟨_, rfl⟩
      rw [← hw5] at HMS ⊢
      clear hw5
      go_loopw [8, 9, 10] (fun vn vu vi wr => ∃ (i : Nat) (An : Option Addr) (cn : Nat) (Au : Option Addr) (cu : Nat) (ns us : List Int) (c c2 : Int → Int) (m m2 N N2 : Nat), i ≤ l.length ∧ vi = .int .i64 i ∧ vn = .slice An ns.length cn ∧ vu = .slice Au us.length cu ∧
        Hid (MS w wr hb mb ob pb (capm most) (.slice An ns.length cn) (.slice Au us.length cu) ns us c c2 m m2 N N2) ∧ Hid (Inv ns us c m (2 * i) ∧ N ≤ i ∧ N2 ≤ i ∧ ∀ x, 0 ≤ c2 x ∧ c2 x ≤ i)) (fun _ _ i _ => l.length - (intOf i).toNat)
      case atStart => exact ⟨0, none, 0, none, 0, [], [], fun _ => 0, fun _ => 0, 0, 0, 0, 0, by omega, rfl, rfl, rfl, HMS.out, inv_start, by omega, by omega, fun _ => ⟨Int.le_refl _, Int.le_refl _⟩⟩
      case round =>
        clear HMS
        obtain ⟨i, An, cn, Au, cu, ns, us, c, c2, m, m2, N, N2, hi, rfl, rfl, rfl, HM, HI⟩ := hrel
        by_cases hlt : i < l.length
        · go_wp2_with fail
          refine (up_some _ _ _ _ (i : Int) _ _ i HM.out.so (by have := HI.out.2.2.1; omega) (wf_of (by omega) (by omega)) HI.out.2.2.2 (by omega)).mono ?_
          rintro e w6 ⟨b, c2', m2', N2', rfl, hs6, hN6, hr6, hg6⟩
          have hm6 := HM.out.other hs6 hg6
          have HM6 := Lib.hid hm6
          have HI6 : Hid (Inv ns us c m (2 * i) ∧ N ≤ i ∧ N2' ≤ i + 1 ∧ ∀ x, 0 ≤ c2' x ∧ c2' x ≤ ((i + 1 : Nat) : Int)) := ⟨HI.out.1, HI.out.2.1, by have := HI.out.2.2.1; omega, hr6⟩
          obtain ⟨ad, hA, q0, q1⟩ := at_T38 (Kd.C_below HC.out hm6.bel) (i : Int) (by omega) (by omega)
          have HX : ∃ x, x = (rd_T38 l i).f1 ∧ wf x := ⟨_, rfl, HWF.out i hlt⟩
          obtain ⟨x, hx, hwx⟩ := HX
          have HXH := Lib.hid hx
          rw [← hx] at q1
          simp only [Int.toNat_natCast] at q0 q1
          subst hA
          have hnl : ns.length ≤ 2 * i := HI.out.1.le
          have HUL : Hid (us.length = ns.length) := HI.out.1.len
          clear hs6 hN6 hr6 hg6 hm6 HM HI hx
          go_wp2_with fail
          go_loopw [11, 12, 13] (fun va vs vk wr => ∃ (k j : Nat), k ≤ ns.length ∧ va = .int .i64 (atTo ns x k) ∧ vs = .int .i64 ((cntP (us.take k) : Nat) : Int) ∧ vk = .int .i64 k ∧ wr = w6.drewN j) (fun _ _ k _ => ns.length - (intOf k).toNat)
          case atStart => exact ⟨0, 0, by omega, rfl, rfl, rfl, rfl⟩
          case round =>
            obtain ⟨k, j, hk, rfl, rfl, rfl, rfl⟩ := hrel
            by_cases hk2 : k < ns.length
            · have hmd := HM6.out.draw j
              obtain ⟨gn, hgn⟩ := own_pos hmd.on (by omega)
              obtain ⟨gu, hgu⟩ := own_pos hmd.ou (by rw [HUL.out]; omega)
              subst hgn hgu
              have qa : ∀ n, ((w6.drewN j).drewN n).cell? ⟨gn, k, none⟩ = some (.int .i64 (rd ns k)) := fun n => (own_at hmd.on (k : Int) (by omega) (by omega)).1
              have qb : ∀ n, ((w6.drewN j).drewN n).cell? ⟨gu, k, none⟩ = some (.int .i64 (rd us k)) := fun n => (own_at hmd.ou (k : Int) (by omega) (by rw [HUL.out]; omega)).1
              have qx : ∀ n, ((w6.drewN j).drewN n).cell? ⟨(ad.add (i * 2)).block, (ad.add (i * 2)).off + 1, none⟩ = some (.int .i64 x) := fun n => q1
              have hkul : k < us.length := by rw [HUL.out]; omega
              clear hmd q0 q1
              have HWD : ∃ wd : World, wd = w6.drewN j := ⟨_, rfl⟩
              obtain ⟨wd, hwd⟩ := HWD
              rw [← hwd] at qa qb qx ⊢
              have HWD := Lib.hid hwd
              clear hwd
              have hcl : cntP (us.take k) ≤ 1000 := by have := cntP_le (us.take k); rw [List.length_take] at this; omega
              have hcs := cntP_to us k hkul
              have HCS := Lib.hid hcs
              clear hcs
              by_cases e1 : rd ns k = x
              · have d1 : (rd ns k == x) = true := beq_iff_eq.mpr e1
                have A1 : Hid (atTo ns x (k + 1) = k) := by show _ = _; simp only [atTo]; rw [if_pos e1]
                clear e1
                go_wp2_with fail
                go_quiet (fail)
                have qb' := qb nq
                by_cases e2 : 0 < rd us k
                · have hc := HCS.out
                  rw [if_pos e2] at hc
                  have HC2 := Lib.hid hc
                  clear hc HCS
                  go_wp2
                  go_roundw
                  case rel => exact ⟨k + 1, j + nq, by omega, by rw [A1.out], by rw [HC2.out]; go_num, by go_num, by rw [HWD.out, World.drewN_drewN]⟩
                  case measure => simp [intOf]; omega
                · have hc := HCS.out
                  rw [if_neg e2] at hc
                  have HC2 := Lib.hid hc
                  clear hc HCS
                  go_wp2
                  go_roundw
                  case rel => exact ⟨k + 1, j + nq, by omega, by rw [A1.out], by rw [HC2.out]; go_num, by go_num, by rw [HWD.out, World.drewN_drewN]⟩
                  case measure => simp [intOf]; omega
              · have d1 : (rd ns k == x) = false := beq_eq_false_iff_ne.mpr e1
                have A1 : Hid (atTo ns x (k + 1) = atTo ns x k) := by show _ = _; simp only [atTo]; rw [if_neg e1]
                clear e1
                go_wp2_with fail
                go_quiet (fail)
                have qb' := qb nq
                by_cases e2 : 0 < rd us k
                · have hc := HCS.out
                  rw [if_pos e2] at hc
                  have HC2 := Lib.hid hc
                  clear hc HCS
                  go_wp2
                  go_roundw
                  case rel => exact ⟨k + 1, j + nq, by omega, by rw [A1.out], by rw [HC2.out]; go_num, by go_num, by rw [HWD.out, World.drewN_drewN]⟩
                  case measure => simp [intOf]; omega
                · have hc := HCS.out
                  rw [if_neg e2] at hc
                  have HC2 := Lib.hid hc
                  clear hc HCS
                  go_wp2
                  go_roundw
                  case rel => exact ⟨k + 1, j + nq, by omega, by rw [A1.out], by rw [HC2.out]; go_num, by go_num, by rw [HWD.out, World.drewN_drewN]⟩
                  case measure => simp [intOf]; omega
            · obtain rfl : k = ns.length := by omega
              go_upto_if 73 with (fail)
              have HMj := Lib.hid (HM6.out.draw j)
              clear HM6
              go_cut [8, 9, 11] from 72 to 87 (fun v8 v9 v11 wc => ∃ (An' : Option Addr) (cn' : Nat) (Au' : Option Addr) (cu' : Nat) (ns' us' : List Int) (k : Nat), v8 = .slice An' ns'.length cn' ∧ v9 = .slice Au' us'.length cu' ∧ v11 = .int .i64 k ∧ k < ns'.length ∧ Hid (rd ns' k = x) ∧ Hid (cntP us' = cntP us) ∧
                Hid (MS w wc hb mb ob pb (capm most) (.slice An' ns'.length cn') (.slice Au' us'.length cu') ns' us' c c2' m m2' N N2') ∧ Hid (Inv ns' us' c m (2 * i + 1)))
              case first =>
                rcases atTo_spec ns x ns.length with ⟨hat, hno⟩ | ⟨k, hk3, hat, hr⟩
                · rw [hat]
                  have HNO := Lib.hid hno
                  have HAT := Lib.hid hat
                  clear hno hat
                  go_wp2_with (first
                    | (at_builtin; refine print_append_num (w0 := w) w.heap.size rfl _ _ 35 3 .i64 8 rfl Try.underlying35 info3 (by decide) (.slice An ns.length cn) ns x rfl rfl HMj.out.on HMj.out.bel HMj.out.bel.size (by omega) ?_; intro v1 w7 hown hB1 hg1 hat1; obtain ⟨A1, c1, hv1⟩ := own_slice hown; subst hv1; have hm7 := HMj.out.appN hown hB1 hg1 hat1; have HM7 := Lib.hid hm7; clear hm7 hown hB1 hg1 hat1)
                    | (at_builtin; refine print_append_num (w0 := w) w.heap.size rfl _ _ 35 3 .i64 8 rfl Try.underlying35 info3 (by decide) (.slice Au us.length cu) us 0 rfl rfl HM7.out.ou HM7.out.bel HM7.out.bel.size (by rw [HUL.out]; omega) ?_; intro v2 w8 hown hB1 hg1 hat1; obtain ⟨A2, c2, hv2⟩ := own_slice hown; subst hv2; have hm8 := HM7.out.appU hown hB1 hg1 hat1; have HM8 := Lib.hid hm8; clear hm8 hown hB1 hg1 hat1))
                  go_meet
                  case rel => exact ⟨A1, c1, A2, c2, ns ++ [x], us ++ [0], ns.length, by simp, by simp, rfl, by simp, (rd_append ns ns.length x).trans (if_pos rfl), by show cntP (us ++ [0]) = cntP us; rw [cntP_append, cntP_one, if_neg (by decide), Nat.add_zero], HM8.out, HI6.out.1.round.new hwx HNO.out (by omega)⟩
                · rw [hat]
                  have HR := Lib.hid hr
                  clear hat hr
                  go_wp2
                  go_meet
                  case rel => exact ⟨An, cn, Au, cu, ns, us, k, rfl, rfl, rfl, hk3, HR.out, rfl, HMj.out, HI6.out.1.round⟩
              case rest =>
                obtain ⟨An', cn', Au', cu', ns', us', k, rfl, rfl, rfl, hk, HR, HCU, HM7, HI7⟩ := hcut
                obtain ⟨ad2, hA2, p0, p1⟩ := at_T38 (Kd.C_below HC.out HM7.out.bel) (i : Int) (by omega) (by omega)
                injection hA2 with hA2
                subst hA2
                rw [← HXH.out] at p1
                simp only [Int.toNat_natCast] at p0 p1
                obtain ⟨d, hd⟩ : ∃ d, d = (rd_T38 l i).f0 := ⟨_, rfl⟩
                rw [← hd] at p0
                have HUL7 := Lib.hid HI7.out.len
                have hku : k < us'.length := by rw [HUL7.out]; exact hk
                obtain ⟨gu, hgu⟩ := own_pos HM7.out.ou (by omega)
                subst hgu
                obtain ⟨qu, fu⟩ := own_at HM7.out.ou (k : Int) (by omega) (by omega)
                simp only [Int.toNat_natCast] at qu fu
                have hval : c x = rd us' k := by rw [← HR.out]; exact HI7.out.val k hk
                have HVAL := Lib.hid hval
                have hrng := HI7.out.rng x
                rw [hval] at hrng
                clear hd q0 q1 hval
                obtain ⟨u, hu⟩ : ∃ u, u = rd us' k := ⟨_, rfl⟩
                rw [← hu] at qu hrng
                have HU := Lib.hid hu
                clear hu
                have hnb : (ad.add (i * 2)).block ≠ gu := by
                  obtain ⟨ad3, hA3, p3, _⟩ := at_T38 HC.out (i : Int) (by omega) (by omega)
                  injection hA3 with hA3
                  have h3 := World.block_lt_of_cell? _ _ p3
                  rw [add_block, ← hA3] at h3
                  have h4 : w.heap.size ≤ gu := own_base HM7.out.ou gu (by simp [Value.ownBlock])
                  rw [add_block]
                  omega
                have hP : cntP (us.take ns.length) = m := by rw [List.take_of_length_le (by rw [HUL.out]; omega), ← HCU.out]; exact HI7.out.cnt.symm
                rw [hP]
                have hm4 : m ≤ 400 := by have := HI7.out.cnt; have := cntP_le us'; have := HI7.out.le; have := HI7.out.len; omega
                clear hP
                have HM6 := HM7
                go_upto_if 92 with (fail)
                go_cut [9, 14] from 88 to 147 (fun v9 v14 wc => ∃ (us2 : List Int) (c3 : Int → Int) (m3 N3 : Nat), v9 = .slice (some ⟨gu, 0, none⟩) us2.length cu' ∧ N3 ≤ i + 1 ∧
                  Hid (MS w wc hb mb ob pb (capm most) (.slice An' ns'.length cn') (.slice (some ⟨gu, 0, none⟩) us2.length cu') ns' us2 c3 c2' m3 m2' N3 N2') ∧ Hid (Inv ns' us2 c3 m3 (2 * (i + 1))))
                case first =>
                  cases d with
                  | true =>
                    by_cases hup : 0 < u
                    · have hm8 := HM7.out.putU (k : Int) (u - 1)
                      have HM8 := Lib.hid hm8
                      clear hm8
                      have hn8 : N < 1000000 := by have := HI6.out.2.1; omega
                      have hcx : c x = u := HVAL.out.trans HU.out.symm
                      have HCX := Lib.hid hcx
                      clear hcx
                      go_wp2_with fail
                      refine (down_true _ _ _ _ _ x _ _ HM8.out.sh hn8 hwx (by rw [HCX.out]; exact hup) (by rw [HCX.out]; omega)).mono ?_
                      rintro e w9 ⟨rfl, hs9, hg9⟩
                      have hm9 := HM8.out.this hs9 hg9
                      have HM9 := Lib.hid hm9
                      clear hm9 hs9 hg9
                      go_wp2_with fail
                      go_meet
                      case rel =>
                        have hI := (HI7.out.down hk HR.out (by rw [← HU.out]; exact hup)).round
                        rw [← HU.out] at hI
                        refine ⟨us'.set k (u - 1), _, _, N + 1, by rw [List.length_set], by have := HI6.out.2.1; omega, ?_, hI⟩
                        rw [List.length_set]
                        exact HM9.out
                    · have hcx : c x = 0 := by rw [HVAL.out, ← HU.out]; omega
                      go_wp2_with fail
                      refine (down_false _ _ _ _ _ x _ _ HM7.out.sh hwx hcx).mono ?_
                      rintro e w9 ⟨rfl, nd, rfl⟩
                      have HM9 := Lib.hid (HM7.out.draw nd)
                      clear hcx
                      go_wp2_with fail
                      go_meet
                      case rel => exact ⟨us', c, m, N, rfl, by have := HI6.out.2.1; omega, HM9.out, HI7.out.round⟩
                  | false =>
                    by_cases hx0 : 0 ≤ x
                    · by_cases hup : 0 < u
                      · have hm8 := HM7.out.putU (k : Int) (u + 1)
                        have HM8 := Lib.hid hm8
                        clear hm8
                        have hn8 : N < 1000000 := by have := HI6.out.2.1; omega
                        have hcx : c x = u := HVAL.out.trans HU.out.symm
                        have HCX := Lib.hid hcx
                        have hyes : c x ≠ 0 ∨ (m : Int) < capm most := .inl (by rw [hcx]; omega)
                        have HYES := Lib.hid hyes
                        clear hcx hyes
                        go_wp2_with fail
                        refine (up_true _ _ _ _ _ x _ _ HM8.out.sh hn8 hwx hx0 (by rw [HCX.out]; omega) (by rw [HCX.out]; omega) HYES.out).mono ?_
                        rintro e w9 ⟨rfl, hs9, hg9⟩
                        have hm9 := HM8.out.this hs9 hg9
                        have HM9 := Lib.hid hm9
                        clear hm9 hs9 hg9
                        go_wp2_with fail
                        go_meet
                        case rel =>
                          have hI := HI7.out.up hk HR.out
                          rw [← HU.out] at hI
                          refine ⟨us'.set k (u + 1), _, _, N + 1, by rw [List.length_set], by have := HI6.out.2.1; omega, ?_, hI⟩
                          rw [List.length_set]
                          exact HM9.out
                      · by_cases hmm : (m : Int) < capm most
                        · have hm8 := HM7.out.putU (k : Int) (u + 1)
                          have HM8 := Lib.hid hm8
                          clear hm8
                          have hn8 : N < 1000000 := by have := HI6.out.2.1; omega
                          have hcx : c x = u := HVAL.out.trans HU.out.symm
                          have HCX := Lib.hid hcx
                          have hyes : c x ≠ 0 ∨ (m : Int) < capm most := .inr hmm
                          have HYES := Lib.hid hyes
                          clear hcx hyes
                          go_wp2_with fail
                          refine (up_true _ _ _ _ _ x _ _ HM8.out.sh hn8 hwx hx0 (by rw [HCX.out]; omega) (by rw [HCX.out]; omega) HYES.out).mono ?_
                          rintro e w9 ⟨rfl, hs9, hg9⟩
                          have hm9 := HM8.out.this hs9 hg9
                          have HM9 := Lib.hid hm9
                          clear hm9 hs9 hg9
                          go_wp2_with fail
                          go_meet
                          case rel =>
                            have hI := HI7.out.up hk HR.out
                            rw [← HU.out] at hI
                            refine ⟨us'.set k (u + 1), _, _, N + 1, by rw [List.length_set], by have := HI6.out.2.1; omega, ?_, hI⟩
                            rw [List.length_set]
                            exact HM9.out
                        · have hno : x < 0 ∨ (c x = 0 ∧ capm most ≤ m) := .inr ⟨by rw [HVAL.out, ← HU.out]; omega, by omega⟩
                          have HNO := Lib.hid hno
                          clear hno
                          go_wp2_with fail
                          refine (up_false _ _ _ _ _ x _ _ HM7.out.sh hwx HNO.out).mono ?_
                          rintro e w9 ⟨rfl, nd, rfl⟩
                          have HM9 := Lib.hid (HM7.out.draw nd)
                          go_wp2_with fail
                          go_meet
                          case rel => exact ⟨us', c, m, N, rfl, by have := HI6.out.2.1; omega, HM9.out, HI7.out.round⟩
                    · have hno : x < 0 ∨ (c x = 0 ∧ capm most ≤ m) := .inl (by omega)
                      have HNO := Lib.hid hno
                      clear hno
                      go_wp2_with fail
                      refine (up_false _ _ _ _ _ x _ _ HM7.out.sh hwx HNO.out).mono ?_
                      rintro e w9 ⟨rfl, nd, rfl⟩
                      have HM9 := Lib.hid (HM7.out.draw nd)
                      go_wp2_with fail
                      go_meet
                      case rel => exact ⟨us', c, m, N, rfl, by have := HI6.out.2.1; omega, HM9.out, HI7.out.round⟩
                case rest =>
                  obtain ⟨us2, c3, m3, N3, rfl, hN3, HM8, HI8⟩ := hcut
                  have HUL8 := Lib.hid HI8.out.len
                  clear HM7 HI7 HM6 HUL7 HUL HXH HU HVAL HR HCU qu fu p0 p1 hku hrng hnb
                  obtain ⟨wq, hwq⟩ : ∃ wq : World, wq = wc := ⟨_, rfl⟩
                  rw [← hwq] at HM8 ⊢
                  clear hwq
                  go_wp2_with fail
                  go_loopw [15, 16] (fun vc vk wr => ∃ (k j : Nat), k ≤ ns'.length ∧ vc = .int .i64 ((cntP (us2.take k) : Nat) : Int) ∧ vk = .int .i64 k ∧ wr = wq.drewN j) (fun _ k _ => ns'.length - (intOf k).toNat)
                  case atStart => exact ⟨0, 0, by omega, rfl, rfl, rfl⟩
                  case round =>
                    obtain ⟨k, j, hk, rfl, rfl, rfl⟩ := hrel
                    have hnl2 : ns'.length ≤ 2 * (i + 1) := HI8.out.le
                    have hcl : cntP (us2.take k) ≤ 1000 := by have := cntP_le (us2.take k); rw [List.length_take] at this; omega
                    by_cases hk2 : k < ns'.length
                    · have hmd := HM8.out.draw j
                      obtain ⟨gn, hgn⟩ := own_pos hmd.on (by omega)
                      subst hgn
                      have qa : ∀ n, ((wq.drewN j).drewN n).cell? ⟨gn, k, none⟩ = some (.int .i64 (rd ns' k)) := fun n => (own_at hmd.on (k : Int) (by omega) (by omega)).1
                      have qb : ∀ n, ((wq.drewN j).drewN n).cell? ⟨gu, k, none⟩ = some (.int .i64 (rd us2 k)) := fun n => (own_at hmd.ou (k : Int) (by omega) (by rw [HUL8.out]; omega)).1
                      have hus : ∀ n, Calls Try.prog 23 #[.pointer (some ⟨hb, 0, none⟩), .int .i64 (rd ns' k)] ((wq.drewN j).drewN n) fun e w' => e = .returned (.int .i64 (rd us2 k)) ∧ w' = (wq.drewN j).drewN n := fun n => by
                        have := uses_is _ _ _ _ _ (rd ns' k) _ _ (hmd.sh.draw n) (HI8.out.wfs k hk2)
                        rw [HI8.out.val k hk2] at this
                        exact this
                      have HUS := Lib.hid hus
                      have hkul : k < us2.length := by rw [HUL8.out]; omega
                      clear hmd hus
                      have hcs := cntP_to us2 k hkul
                      have HCS := Lib.hid hcs
                      clear hcs
                      have qb0 := qb 0
                      rw [World.drewN_zero] at qb0
                      obtain ⟨wd, hwd⟩ : ∃ wd : World, wd = wq.drewN j := ⟨_, rfl⟩
                      rw [← hwd] at qa qb qb0 HUS ⊢
                      have HWD := Lib.hid hwd
                      clear hwd
                      by_cases e2 : 0 < rd us2 k
                      · have hc := HCS.out
                        rw [if_pos e2] at hc
                        have HC2 := Lib.hid hc
                        clear hc HCS
                        go_wp2_with fail
                        go_quiet (first | (go_at_call 23; refine Calls.quiet_of_same (HUS.out _)))
                        go_wp2
                        go_roundw
                        case rel => exact ⟨k + 1, j + nq, by omega, by rw [HC2.out]; go_num, by go_num, by rw [HWD.out, World.drewN_drewN]⟩
                        case measure => simp [intOf]; omega
                      · have hc := HCS.out
                        rw [if_neg e2] at hc
                        have HC2 := Lib.hid hc
                        clear hc HCS
                        go_wp2_with fail
                        go_quiet (first | (go_at_call 23; refine Calls.quiet_of_same (HUS.out _)))
                        go_wp2
                        go_roundw
                        case rel => exact ⟨k + 1, j + nq, by omega, by rw [HC2.out]; go_num, by go_num, by rw [HWD.out, World.drewN_drewN]⟩
                        case measure => simp [intOf]; omega
                    · obtain rfl : k = ns'.length := by omega
                      have hm9 : cntP (us2.take ns'.length) = m3 := by rw [List.take_of_length_le (by rw [HUL8.out]; omega)]; exact HI8.out.cnt.symm
                      rw [hm9]
                      have HMj := Lib.hid (HM8.out.draw j)
                      clear hm9 HM8
                      go_wp2_with fail
                      refine (count_is _ _ _ _ _ _ _ HMj.out.sh).mono ?_
                      rintro e w9 ⟨rfl, rfl⟩
                      go_wp2_with fail
                      go_roundw
                      case rel => exact ⟨i + 1, An', cn', some ⟨gu, 0, none⟩, cu', ns', us2, c3, c2', m3, m2', N3, N2', by omega, by go_num, rfl, rfl, HMj.out, HI8.out, hN3, HI6.out.2.2.1, HI6.out.2.2.2⟩
                      case measure => simp [intOf]; omega
        · go_wp2
          go_ret
          exact ⟨rfl, HM.out.bel⟩
end Go.Proofs.Ytlklehliapbgeaa.Hops
