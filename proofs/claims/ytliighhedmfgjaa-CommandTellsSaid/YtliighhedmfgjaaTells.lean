/- The law CommandTells: it answers true, whatever comes in. -/
import Derived.Test.YtliighhedmfgjaaSc
import Derived.Test.YtliighhedmfgjaaAl
import Derived.Test.YtliighhedmfgjaaOpC
import Derived.DataShut
namespace Go.Proofs.Ytliighhedmfgjaa.Cmd
open Go.RowKit Go.Proofs.Ytliighhedmfgjaa.PRefC Go.Proofs.YtliighhedmfgjaaW.PrintWords Go.Proofs.YtliighhedmfgjaaW.PrintLast Go.Proofs.YtliighhedmfgjaaW.PrintMore

theorem u64_wf {n : Int} (h : (Lit.int .u64 n).wf = true) : u64 n := by
  obtain ⟨h1, h2⟩ := (Lit.wf_int_iff _ _).1 h
  have e1 : IntKind.u64.min = 0 := by decide
  have e2 : IntKind.u64.max = 18446744073709551615 := by decide
  rw [e1] at h1
  rw [e2] at h2
  exact ⟨h1, by omega⟩
theorem u8_wf {n : Int} (h : (Lit.int .u8 n).wf = true) : 0 ≤ n ∧ n < 256 := by
  obtain ⟨h1, h2⟩ := (Lit.wf_int_iff _ _).1 h
  have e1 : IntKind.u8.min = 0 := by decide
  have e2 : IntKind.u8.max = 255 := by decide
  rw [e1] at h1
  rw [e2] at h2
  exact ⟨h1, by omega⟩
theorem okD_C {m : Nat} {x : S29} (h : okD (m + 1) x) : okC x := ⟨⟨u64_wf h.2.2.2.1.1.1, u64_wf h.2.2.2.1.1.2⟩, u64_wf h.2.2.2.2.1.1, u64_wf h.2.2.2.2.1.2, u64_wf h.2.2.2.2.2.1⟩
theorem ok29_C {x : S29} (h : ok29 x) : okC x ∧ (∀ y ∈ x.f6, okA y) ∧ x.f6.length ≤ maxLen := ⟨okD_C h, fun y hy => (okD_C (h.2.2.2.2.2.2.2 y hy)).1, h.2.2.2.2.2.2.1⟩

theorem blk_dn {W : World} {g : Nat} {o : Obj} (h : W.drew.heap[g]? = some o) (n : Nat) : (W.drewN (1 + n)).heap[g]? = some o := h

theorem below_dn {B : Nat} {w W : World} (h : Below B w W.drew) (n : Nat) : Below B w (W.drewN (1 + n)) := ⟨h.os, h.tape, h.output, h.size, h.block⟩

set_option maxRecDepth 20000 in
set_option maxHeartbeats 4000000 in
theorem Tells_walk {w : World} (x : S29) (cs : Array Value) (hK : k29.K w x cs.toList) (ho : ok29 x) (A : Option Addr) (l : List Int) (cap : Nat) (hC : (Kd.int .u8).C w A l.length l) (hc : l.length ≤ cap) (_ : l.length ≤ maxLen) (_ : l.length * 1 ≤ 140737488351232)
    (hb : ∀ y ∈ l, (Lit.int .u8 y).wf = true) (_ : World) :
    Calls Try.prog 3 #[.agg cs, .slice A l.length cap] w fun e w' => e = .returned (.bool true) ∧ Below w.heap.size w w' := by
  obtain ⟨A9, c9, hcs, hc9, hC9⟩ := k29_open hK
  obtain rfl : cs = #[.int .i64 x.f0, .int .i64 x.f1, .int .i64 x.f2, .int .u64 x.f3.f0.f0, .int .u64 x.f3.f0.f1, .int .i64 x.f3.f1, .int .u64 x.f4.f0, .int .u64 x.f4.f1, .int .u64 x.f5, .slice A9 x.f6.length c9] := by apply Array.ext'; exact hcs
  obtain ⟨o1, o2, o3⟩ := ok29_C ho
  have hB : Byte l := fun y hy => u8_wf (hb y hy)
  have O1 := Lib.hid o1
  have O2 := Lib.hid o2
  have O3 := Lib.hid o3
  have HB := Lib.hid hB
  have HC := Lib.hid hC
  have HC9 := Lib.hid hC9
  clear hK ho hcs hb hB hC hC9 o1 o2 o3
  go_enter Try.func3, Try.ntmps3
  go_wp2_with fail
  refine (alive_is _).mono ?_
  rintro e w1 ⟨rfl, b1⟩
  have hk1 := blk_below (blk_new w (.cells #[.int .i64 x.f0, .int .i64 x.f1, .int .i64 x.f2, .int .u64 x.f3.f0.f0, .int .u64 x.f3.f0.f1, .int .i64 x.f3.f1, .int .u64 x.f4.f0, .int .u64 x.f4.f1, .int .u64 x.f5, .slice A9 x.f6.length c9] 29 (0, 0))) b1
  have B1 := Lib.hid ((below_alloc (Below.refl w.heap.size w) (.cells #[.int .i64 x.f0, .int .i64 x.f1, .int .i64 x.f2, .int .u64 x.f3.f0.f0, .int .u64 x.f3.f0.f1, .int .i64 x.f3.f1, .int .u64 x.f4.f0, .int .u64 x.f4.f1, .int .u64 x.f5, .slice A9 x.f6.length c9] 29 (0, 0))).trans (b1.mono (by simp)))
  have HK1 := Lib.hid hk1
  have q9 := blk_cell hk1 9
  simp only [List.getElem?_toArray, List.getElem?_cons_zero, List.getElem?_cons_succ] at q9
  clear b1 hk1
  go_upto_region 2 with (fail)
  by_cases h40 : 40 < x.f6.length
  · have h40' : (40 : Int) < (x.f6.length : Int) := by omega
    go_wp2
    go_ret
    exact ⟨rfl, B1.out⟩
  have h40' : ¬ (40 : Int) < (x.f6.length : Int) := by omega
  by_cases h1000 : 1000 < l.length
  · have h1000' : (1000 : Int) < (l.length : Int) := by omega
    go_wp2
    go_ret
    exact ⟨rfl, B1.out⟩
  have h1000' : ¬ (1000 : Int) < (l.length : Int) := by omega
  have hl : l.length ≤ 1000 := by omega
  have q0 := blk_cell HK1.out 0
  have q1 := blk_cell HK1.out 1
  have q2 := blk_cell HK1.out 2
  have q3 := blk_cell HK1.out 3
  have q4 := blk_cell HK1.out 4
  have q5 := blk_cell HK1.out 5
  have q6 := blk_cell HK1.out 6
  have q7 := blk_cell HK1.out 7
  have q8 := blk_cell HK1.out 8
  simp only [List.getElem?_toArray, List.getElem?_cons_zero, List.getElem?_cons_succ] at q0 q1 q2 q3 q4 q5 q6 q7 q8
  go_wp2_with fail
  refine (bytes_is w1 x.f0 x.f1 x.f2 x.f3.f0.f0 x.f3.f0.f1 x.f3.f1 x.f4.f0 x.f4.f1 x.f5 A9 c9 x.f6 (Kd.C_below HC9.out B1.out) O1.out O2.out O3.out).mono ?_
  rintro e w2 ⟨vx, rfl, hrx, bx⟩
  have hk2 := blk_below HK1.out bx
  have B2 := Lib.hid (B1.out.trans (bx.mono B1.out.size))
  have HK2 := Lib.hid hk2
  obtain ⟨y, hy⟩ : ∃ y, y = encP x := ⟨_, rfl⟩
  have e0 : encP ⟨x.f0, x.f1, x.f2, ⟨⟨x.f3.f0.f0, x.f3.f0.f1⟩, x.f3.f1⟩, ⟨x.f4.f0, x.f4.f1⟩, x.f5, x.f6⟩ = y := by rw [hy]; rfl
  rw [e0] at hrx
  obtain ⟨Ay, cy, hey, hly, hCy⟩ := Kd.R_reads hrx
  subst hey
  have HY := Lib.hid hy
  have HCY := Lib.hid hCy
  clear q0 q1 q2 q3 q4 q5 q6 q7 q8 q9 HK1 hrx hCy bx hk2 hy e0
  go_upto_region 5 with (fail)
  go_wp2_with (first | ((with_reducible refine gate_builtin (b := .append) (xs := #[.const (.slice none 0 0), .tmp 31]) rfl ?_); at_builtin; refine Kd.R_append_rows (Kd.int .u8) (w0 := w) (W := w2) w.heap.size rfl (.const (.slice none 0 0)) (.tmp 31) 30 5 (.int .u8 0) 1 rfl Try.underlying30 info5 rfl (by decide) (by omega) (.slice none 0 0) [] l A l.length cap (fun _ => True) (fun _ => False) rfl rfl (Kd.R_nil _ _ _ _ _) (Kd.C_below HC.out B2.out) (fun _ _ h => h) (fun _ h => h.elim) (fun _ _ => trivial) B2.out B2.out.size (by rw [List.length_nil]; omega) ?_; intro v5 w3 ho5 hb5 hg5 _; simp only [List.nil_append] at ho5; obtain ⟨A5, c5, he5, hl5, hC5⟩ := Kd.R_reads ho5; subst he5; have b23 := Below.grown (Below.refl w2.heap.size w2) hg5 (Nat.le_refl _) (fun k h => by cases h); have HC5 := Lib.hid hC5; have B3 := Lib.hid hb5; have B23 := Lib.hid b23; clear ho5 hb5 hg5 hC5 b23))
  refine (read_is w3 A5 c5 l HC5.out hl5 HB.out (by omega)).mono ?_
  rintro e w4 ⟨v4, rfl, hr4, b4⟩
  obtain ⟨z, hz⟩ : ∃ z, z = rdV l := ⟨_, rfl⟩
  obtain ⟨ez, hez⟩ : ∃ ez, ez = rdE l := ⟨_, rfl⟩
  rw [← hz] at hr4 ⊢
  rw [← hez]
  have HZ := Lib.hid hz
  have HEZ := Lib.hid hez
  obtain ⟨A4, c4, he4, hl4, hC4⟩ := Kd.R_reads hr4
  subst he4
  have HC4 := Lib.hid hC4
  have B4 := Lib.hid (B3.out.trans (b4.mono B3.out.size))
  have B24 := Lib.hid (B23.out.trans (b4.mono B23.out.size))
  have hk4 := blk_below HK2.out B24.out
  have HK4 := Lib.hid hk4
  clear HK2 hr4 b4 hz hez hC4 hk4 HC5 B3 B23
  unfold cells29
  go_upto_region 6 with (fail)
  obtain ⟨w5, hw5⟩ : ∃ w5, w5 = w4.alloc (.cells (cells29 z (.slice A4 z.f6.length c4)) 29 (0, 0)) := ⟨_, rfl⟩
  obtain ⟨g7, hg7⟩ : ∃ g, g = w4.heap.size := ⟨_, rfl⟩
  have b45 : Below w4.heap.size w4 w5 := by rw [hw5]; exact below_alloc (Below.refl _ _) _
  have hk7 : w5.heap[g7]? = some (.cells (cells29 z (.slice A4 z.f6.length c4)) 29 (0, 0)) := by rw [hw5, hg7]; exact blk_new _ _
  unfold cells29 at hw5 hk7
  rw [← hw5, ← hg7]
  have HK7 := Lib.hid hk7
  have HK5 := Lib.hid (blk_below HK4.out b45)
  have B5 := Lib.hid (B4.out.trans (b45.mono B4.out.size))
  have B25 := Lib.hid (B24.out.trans (b45.mono B24.out.size))
  have B45 := Lib.hid b45
  clear hw5 hg7 hk7 b45 HK4 B4 B24
  have hrc := readc_is w5 A cap l (Kd.C_below HC.out B5.out) hc HB.out (by omega)
  rw [rfV_eq HB.out, rfE_eq HB.out, ← HZ.out, ← HEZ.out] at hrc
  have HRC := Lib.hid hrc
  clear hrc
  go_wp2_with fail
  refine HRC.out.mono ?_
  rintro e w6 ⟨v6, rfl, hr6, b6⟩
  obtain ⟨A6, c6, he6, hl6, hC6⟩ := Kd.R_reads hr6
  subst he6
  have HC6 := Lib.hid hC6
  have B6 := Lib.hid (B5.out.trans (b6.mono B5.out.size))
  have B26 := Lib.hid (B25.out.trans (b6.mono B25.out.size))
  have B46 := Lib.hid (B45.out.trans (b6.mono B45.out.size))
  have HK6 := Lib.hid (blk_below HK5.out b6)
  have HK76 := Lib.hid (blk_below HK7.out b6)
  clear HRC hr6 b6 hC6 HK5 HK7 B5 B25 B45
  unfold cells29
  go_upto_region 7 with (fail)
  obtain ⟨w7, hw7⟩ : ∃ w7, w7 = w6.alloc (.cells (cells29 z (.slice A6 z.f6.length c6)) 29 (0, 0)) := ⟨_, rfl⟩
  obtain ⟨g9, hg9⟩ : ∃ g, g = w6.heap.size := ⟨_, rfl⟩
  have b67 : Below w6.heap.size w6 w7 := by rw [hw7]; exact below_alloc (Below.refl _ _) _
  have hk9 : w7.heap[g9]? = some (.cells (cells29 z (.slice A6 z.f6.length c6)) 29 (0, 0)) := by rw [hw7, hg9]; exact blk_new _ _
  unfold cells29 at hw7 hk9
  rw [← hw7, ← hg9]
  have HK9 := Lib.hid hk9
  have HK7 := Lib.hid (blk_below HK6.out b67)
  have HK77 := Lib.hid (blk_below HK76.out b67)
  have B7 := Lib.hid (B6.out.trans (b67.mono B6.out.size))
  have B27 := Lib.hid (B26.out.trans (b67.mono B26.out.size))
  have B47 := Lib.hid (B46.out.trans (b67.mono B46.out.size))
  have B67 := Lib.hid b67
  clear hw7 hg9 hk9 b67 HK6 HK76 B6 B26 B46
  have q0 := blk_cell HK7.out 0
  have q1 := blk_cell HK7.out 1
  have q2 := blk_cell HK7.out 2
  have q3 := blk_cell HK7.out 3
  have q4 := blk_cell HK7.out 4
  have q5 := blk_cell HK7.out 5
  have q6 := blk_cell HK7.out 6
  have q7 := blk_cell HK7.out 7
  have q8 := blk_cell HK7.out 8
  have q9 := blk_cell HK7.out 9
  simp only [List.getElem?_toArray, List.getElem?_cons_zero, List.getElem?_cons_succ] at q0 q1 q2 q3 q4 q5 q6 q7 q8 q9
  obtain ⟨K, hKc⟩ := cb_any x O1.out O2.out
  have hcb : cbF K x = some y := by rw [HY.out]; exact hKc K (Nat.le_refl _)
  unfold cbF at hcb
  have HCB := Lib.hid hcb
  have hzok := rdV_ok HB.out
  rw [← HZ.out] at hzok
  obtain ⟨K2, hK2⟩ := sc_self z hzok.2.1 hzok.2.2
  have hsc : scF K2 z = some true := hK2 K2 (Nat.le_refl _)
  unfold scF at hsc
  have HSC := Lib.hid hsc
  clear hKc hcb hzok hK2 hsc
  have bd : Below w7.heap.size w7 w7.drew := below_drew (Below.refl _ _)
  have B7d := Lib.hid (B7.out.trans (bd.mono B7.out.size))
  have B27d := Lib.hid (B27.out.trans (bd.mono B27.out.size))
  have B47d := Lib.hid (B47.out.trans (bd.mono B47.out.size))
  have B67d := Lib.hid (B67.out.trans (bd.mono B67.out.size))
  have hk7d := Lib.hid (blk_below HK7.out bd)
  have hk77d := Lib.hid (blk_below HK77.out bd)
  have hk9d := Lib.hid (blk_below HK9.out bd)
  clear bd
  obtain ⟨K, hKc⟩ := cb_any x O1.out O2.out
  have hcb : cbF K x = some y := by rw [HY.out]; exact hKc K (Nat.le_refl _)
  unfold cbF at hcb
  have HCB := Lib.hid hcb
  have hzok := rdV_ok HB.out
  rw [← HZ.out] at hzok
  obtain ⟨K2, hK2⟩ := sc_self z hzok.2.1 hzok.2.2
  have hsc : scF K2 z = some true := hK2 K2 (Nat.le_refl _)
  unfold scF at hsc
  have HSC := Lib.hid hsc
  clear hKc hcb hzok hK2 hsc
  have bd : Below w7.heap.size w7 w7.drew := below_drew (Below.refl _ _)
  have B7d := Lib.hid (B7.out.trans (bd.mono B7.out.size))
  have B27d := Lib.hid (B27.out.trans (bd.mono B27.out.size))
  have B47d := Lib.hid (B47.out.trans (bd.mono B47.out.size))
  have B67d := Lib.hid (B67.out.trans (bd.mono B67.out.size))
  have hk7d := Lib.hid (blk_below HK7.out bd)
  have hk77d := Lib.hid (blk_below HK77.out bd)
  have hk9d := Lib.hid (blk_below HK9.out bd)
  clear bd
  obtain ⟨K, hKc⟩ := cb_any x O1.out O2.out
  have hcb : cbF K x = some y := by rw [HY.out]; exact hKc K (Nat.le_refl _)
  unfold cbF at hcb
  have HCB := Lib.hid hcb
  have hzok := rdV_ok HB.out
  rw [← HZ.out] at hzok
  obtain ⟨K2, hK2⟩ := sc_self z hzok.2.1 hzok.2.2
  have hsc : scF K2 z = some true := hK2 K2 (Nat.le_refl _)
  unfold scF at hsc
  have HSC := Lib.hid hsc
  clear hKc hcb hzok hK2 hsc
  have bd : Below w7.heap.size w7 w7.drew := below_drew (Below.refl _ _)
  have B7d := Lib.hid (B7.out.trans (bd.mono B7.out.size))
  have B27d := Lib.hid (B27.out.trans (bd.mono B27.out.size))
  have B47d := Lib.hid (B47.out.trans (bd.mono B47.out.size))
  have B67d := Lib.hid (B67.out.trans (bd.mono B67.out.size))
  have hk7d := Lib.hid (blk_below HK7.out bd)
  have hk77d := Lib.hid (blk_below HK77.out bd)
  have hk9d := Lib.hid (blk_below HK9.out bd)
  clear bd
  obtain ⟨K, hKc⟩ := cb_any x O1.out O2.out
  have hcb : cbF K x = some y := by rw [HY.out]; exact hKc K (Nat.le_refl _)
  unfold cbF at hcb
  have HCB := Lib.hid hcb
  have hzok := rdV_ok HB.out
  rw [← HZ.out] at hzok
  obtain ⟨K2, hK2⟩ := sc_self z hzok.2.1 hzok.2.2
  have hsc : scF K2 z = some true := hK2 K2 (Nat.le_refl _)
  unfold scF at hsc
  have HSC := Lib.hid hsc
  clear hKc hcb hzok hK2 hsc
  have bd : Below w7.heap.size w7 w7.drew := below_drew (Below.refl _ _)
  have B7d := Lib.hid (B7.out.trans (bd.mono B7.out.size))
  have B27d := Lib.hid (B27.out.trans (bd.mono B27.out.size))
  have B47d := Lib.hid (B47.out.trans (bd.mono B47.out.size))
  have B67d := Lib.hid (B67.out.trans (bd.mono B67.out.size))
  have hk7d := Lib.hid (blk_below HK7.out bd)
  have hk77d := Lib.hid (blk_below HK77.out bd)
  have hk9d := Lib.hid (blk_below HK9.out bd)
  clear bd
  obtain ⟨K, hKc⟩ := cb_any x O1.out O2.out
  have hcb : cbF K x = some y := by rw [HY.out]; exact hKc K (Nat.le_refl _)
  unfold cbF at hcb
  have HCB := Lib.hid hcb
  have hzok := rdV_ok HB.out
  rw [← HZ.out] at hzok
  obtain ⟨K2, hK2⟩ := sc_self z hzok.2.1 hzok.2.2
  have hsc : scF K2 z = some true := hK2 K2 (Nat.le_refl _)
  unfold scF at hsc
  have HSC := Lib.hid hsc
  clear hKc hcb hzok hK2 hsc
  have bd : Below w7.heap.size w7 w7.drew := below_drew (Below.refl _ _)
  have B7d := Lib.hid (B7.out.trans (bd.mono B7.out.size))
  have B27d := Lib.hid (B27.out.trans (bd.mono B27.out.size))
  have B47d := Lib.hid (B47.out.trans (bd.mono B47.out.size))
  have B67d := Lib.hid (B67.out.trans (bd.mono B67.out.size))
  have hk7d := Lib.hid (blk_below HK7.out bd)
  have hk77d := Lib.hid (blk_below HK77.out bd)
  have hk9d := Lib.hid (blk_below HK9.out bd)
  clear bd
  obtain ⟨K, hKc⟩ := cb_any x O1.out O2.out
  have hcb : cbF K x = some y := by rw [HY.out]; exact hKc K (Nat.le_refl _)
  unfold cbF at hcb
  have HCB := Lib.hid hcb
  have hzok := rdV_ok HB.out
  rw [← HZ.out] at hzok
  obtain ⟨K2, hK2⟩ := sc_self z hzok.2.1 hzok.2.2
  have hsc : scF K2 z = some true := hK2 K2 (Nat.le_refl _)
  unfold scF at hsc
  have HSC := Lib.hid hsc
  clear hKc hcb hzok hK2 hsc
  have bd : Below w7.heap.size w7 w7.drew := below_drew (Below.refl _ _)
  have B7d := Lib.hid (B7.out.trans (bd.mono B7.out.size))
  have B27d := Lib.hid (B27.out.trans (bd.mono B27.out.size))
  have B47d := Lib.hid (B47.out.trans (bd.mono B47.out.size))
  have B67d := Lib.hid (B67.out.trans (bd.mono B67.out.size))
  have hk7d := Lib.hid (blk_below HK7.out bd)
  have hk77d := Lib.hid (blk_below HK77.out bd)
  have hk9d := Lib.hid (blk_below HK9.out bd)
  clear bd
  have k1 := Kd.C_string (P := Try.prog) (src := 30) (dst := 9) Try.underlying30 Try.underlying5 Try.underlying9 (Kd.C_below HCY.out B27d.out) (c := cy)
  go_cut [58] (fun v58 wc => v58 = .bool false ∧ Hid (Below w.heap.size w wc) ∧ Hid (Below w2.heap.size w2 wc))
  case first =>
    go_region_law (first
      | (go_simp; go_at_call 10; refine (flocculusref21_CommandBytes.calls K x.f0 x.f1 x.f2 x.f3.f0.f0 x.f3.f0.f1 x.f3.f1 x.f4.f0 x.f4.f1 x.f5 A9 c9 x.f6 y _ (Kd.C_below HC9.out B7d.out) hc9 HCB.out).mono ?_; rintro e w8 ⟨vb, rfl, hrb, bb⟩; obtain ⟨Ab, cb, heb, hlb, hCb⟩ := Kd.R_reads hrb; subst heb; have k2 := Kd.C_string (P := Try.prog) (src := 30) (dst := 9) Try.underlying30 Try.underlying5 Try.underlying9 hCb (c := cb); have B8 := Lib.hid (B7d.out.trans (bb.mono B7d.out.size)); have B28 := Lib.hid (B27d.out.trans (bb.mono B27d.out.size)); have B48 := Lib.hid (B47d.out.trans (bb.mono B47d.out.size)); have B68 := Lib.hid (B67d.out.trans (bb.mono B67d.out.size)); have k3 := Kd.C_string (P := Try.prog) (src := 30) (dst := 9) Try.underlying30 Try.underlying5 Try.underlying9 (Kd.C_below HCY.out B28.out) (c := cy); have hk78 := blk_below hk77d.out bb; have hk98 := blk_below hk9d.out bb; have s0 := blk_cell hk78 0; have s1 := blk_cell hk78 1; have s2 := blk_cell hk78 2; have s3 := blk_cell hk78 3; have s4 := blk_cell hk78 4; have s5 := blk_cell hk78 5; have s6 := blk_cell hk78 6; have s7 := blk_cell hk78 7; have s8 := blk_cell hk78 8; have s9 := blk_cell hk78 9; simp only [List.getElem?_toArray, List.getElem?_cons_zero, List.getElem?_cons_succ] at s0 s1 s2 s3 s4 s5 s6 s7 s8 s9; have t0 := blk_cell hk98 0; have t1 := blk_cell hk98 1; have t2 := blk_cell hk98 2; have t3 := blk_cell hk98 3; have t4 := blk_cell hk98 4; have t5 := blk_cell hk98 5; have t6 := blk_cell hk98 6; have t7 := blk_cell hk98 7; have t8 := blk_cell hk98 8; have t9 := blk_cell hk98 9; simp only [List.getElem?_toArray, List.getElem?_cons_zero, List.getElem?_cons_succ] at t0 t1 t2 t3 t4 t5 t6 t7 t8 t9; clear hrb bb hCb hk78 hk98)
      | (go_simp; go_at_call 11; refine (flocculusref21_SameCommand.calls K2 z.f0 z.f1 z.f2 z.f3.f0.f0 z.f3.f0.f1 z.f3.f1 z.f4.f0 z.f4.f1 z.f5 A4 c4 z.f6 z.f0 z.f1 z.f2 z.f3.f0.f0 z.f3.f0.f1 z.f3.f1 z.f4.f0 z.f4.f1 z.f5 A6 c6 z.f6 true _ (Kd.C_below HC4.out B48.out) hl4 (Kd.C_below HC6.out B68.out) hl6 HSC.out).mono ?_; rintro e w9 ⟨rfl, b9⟩; have B9 := Lib.hid (B8.out.trans (b9.mono B8.out.size)); have B29 := Lib.hid (B28.out.trans (b9.mono B28.out.size)); clear b9)
      | (go_simp; go_at_call 12; refine (flocculuslaw24_num.calls ez ez _ rfl).mono ?_; rintro e w10 ⟨rfl, ⟨n10, rfl⟩⟩; have B10 := Lib.hid (pw_below_drewN B9.out n10); have B210 := Lib.hid (pw_below_drewN B29.out n10)))
    all_goals go_wp2
    all_goals go_meet
    all_goals exact ⟨rfl, B10.out, B210.out⟩
  case rest =>
    obtain ⟨rfl, B10, B210⟩ := hcut
    have hyb : Byte y := by rw [HY.out]; exact encP_byte x
    have hyl : y.length ≤ 500 := by rw [HY.out]; exact encP_len x
    have hback : y ≠ [] → rdOk y = true ∧ encP (rdV y) = y := fun h => by
      have := enc_back O1.out O2.out (c := x) (by rw [← HY.out]; exact h)
      rw [← HY.out] at this
      exact this
    have HYB := Lib.hid hyb
    have HBACK := Lib.hid hback
    clear hyb hback k1 q0 q1 q2 q3 q4 q5 q6 q7 q8 q9 HK9 HK7 HK77 B7 B27 B47 B67 B7d B27d B47d B67d hk7d hk77d hk9d HCB HSC
    go_wp2_with fail
    refine (read_is _ Ay cy y (Kd.C_below HCY.out B210.out) hly HYB.out (by omega)).mono ?_
    rintro e w11 ⟨v11, rfl, hr11, b11⟩
    obtain ⟨u, hu⟩ : ∃ u, u = rdV y := ⟨_, rfl⟩
    obtain ⟨eu, heu⟩ : ∃ eu, eu = rdE y := ⟨_, rfl⟩
    rw [← hu] at hr11 ⊢
    rw [← heu]
    obtain ⟨A11, c11, he11, hl11, hC11⟩ := Kd.R_reads hr11
    subst he11
    have HU := Lib.hid hu
    have HEU := Lib.hid heu
    have HC11 := Lib.hid hC11
    have B11 := Lib.hid (B10.out.trans (b11.mono B10.out.size))
    have B211 := Lib.hid (B210.out.trans (b11.mono B210.out.size))
    clear hu heu hr11 hC11 b11 B10 B210
    unfold cells29
    go_upto_region 10 with (fail)
    obtain ⟨w12, hw12⟩ : ∃ w12, w12 = w11.alloc (.cells (cells29 u (.slice A11 u.f6.length c11)) 29 (0, 0)) := ⟨_, rfl⟩
    obtain ⟨g11, hg11⟩ : ∃ g, g = w11.heap.size := ⟨_, rfl⟩
    have b12 : Below w11.heap.size w11 w12 := by rw [hw12]; exact below_alloc (Below.refl _ _) _
    have hk11 : w12.heap[g11]? = some (.cells (cells29 u (.slice A11 u.f6.length c11)) 29 (0, 0)) := by rw [hw12, hg11]; exact blk_new _ _
    unfold cells29 at hw12 hk11
    rw [← hw12, ← hg11]
    have bd : Below w12.heap.size w12 w12.drew := below_drew (Below.refl _ _)
    have HK12 := Lib.hid (blk_below hk11 bd)
    have B12 := Lib.hid ((B11.out.trans (b12.mono B11.out.size)).trans (bd.mono (Nat.le_trans B11.out.size b12.size)))
    have B212 := Lib.hid ((B211.out.trans (b12.mono B211.out.size)).trans (bd.mono (Nat.le_trans B211.out.size b12.size)))
    have B1112 := Lib.hid (b12.trans (bd.mono b12.size))
    clear hw12 hg11 hk11 b12 bd B11 B211
    by_cases hyn : y = []
    · subst hyn
      simp only [List.length_nil]
      have hun : undef = Value.tuple #[] := rfl
      (first | go_region_law fail | skip)
      all_goals go_wp2
      all_goals go_ret
      all_goals exact ⟨rfl, B12.out⟩
    · obtain ⟨hok, hbk⟩ := HBACK.out hyn
      have he0 : eu = 0 := by rw [HEU.out]; unfold rdE; rw [if_pos hok]
      rw [← HU.out] at hbk
      have huok := rdV_ok HYB.out
      rw [← HU.out] at huok
      have hp0 : ¬ (y.length : Int) = 0 := fun e => hyn (List.eq_nil_of_length_eq_zero (by omega))
      have hpb : ((y.length : Int) == 0) = false := by simp only [beq_eq_false_iff_ne, ne_eq]; exact hp0
      have hbu : encP ⟨u.f0, u.f1, u.f2, ⟨⟨u.f3.f0.f0, u.f3.f0.f1⟩, u.f3.f1⟩, ⟨u.f4.f0, u.f4.f1⟩, u.f5, u.f6⟩ = y := hbk
      have HBU := Lib.hid hbu
      have HUOK := Lib.hid huok
      clear HEU
      subst he0
      clear hyn hok hbk huok hp0 hbu
      have s0 := blk_cell HK12.out 0
      have s1 := blk_cell HK12.out 1
      have s2 := blk_cell HK12.out 2
      have s3 := blk_cell HK12.out 3
      have s4 := blk_cell HK12.out 4
      have s5 := blk_cell HK12.out 5
      have s6 := blk_cell HK12.out 6
      have s7 := blk_cell HK12.out 7
      have s8 := blk_cell HK12.out 8
      have s9 := blk_cell HK12.out 9
      simp only [List.getElem?_toArray, List.getElem?_cons_zero, List.getElem?_cons_succ] at s0 s1 s2 s3 s4 s5 s6 s7 s8 s9
      have k1 := Kd.C_string (P := Try.prog) (src := 30) (dst := 9) Try.underlying30 Try.underlying5 Try.underlying9 (Kd.C_below HCY.out B212.out) (c := cy)
      go_region_law (first
        | (go_simp; go_at_call 12; refine (flocculuslaw24_num.calls 0 0 _ rfl).mono ?_; rintro e w13 ⟨rfl, ⟨n13, rfl⟩⟩; have B13 := Lib.hid (below_dn B12.out n13); have B213 := Lib.hid (below_dn B212.out n13); have B1113 := Lib.hid (below_dn B1112.out n13); have hk13 := blk_dn HK12.out n13; have k0 := Kd.C_string (P := Try.prog) (src := 30) (dst := 9) Try.underlying30 Try.underlying5 Try.underlying9 (Kd.C_below HCY.out B213.out) (c := cy); have t0 := blk_cell hk13 0; have t1 := blk_cell hk13 1; have t2 := blk_cell hk13 2; have t3 := blk_cell hk13 3; have t4 := blk_cell hk13 4; have t5 := blk_cell hk13 5; have t6 := blk_cell hk13 6; have t7 := blk_cell hk13 7; have t8 := blk_cell hk13 8; have t9 := blk_cell hk13 9; simp only [List.getElem?_toArray, List.getElem?_cons_zero, List.getElem?_cons_succ] at t0 t1 t2 t3 t4 t5 t6 t7 t8 t9; clear hk13)
        | (go_simp; go_at_call 7; refine (bytes_is _ u.f0 u.f1 u.f2 u.f3.f0.f0 u.f3.f0.f1 u.f3.f1 u.f4.f0 u.f4.f1 u.f5 A11 c11 u.f6 (Kd.C_below HC11.out B1113.out) HUOK.out.1.1 HUOK.out.1.2 (by have := HUOK.out.2.1; omega)).mono ?_; rintro e w14 ⟨v14, rfl, hr14, b14⟩; rw [HBU.out] at hr14; obtain ⟨A14, c14, he14, hl14, hC14⟩ := Kd.R_reads hr14; subst he14; have B14 := Lib.hid (B13.out.trans (b14.mono B13.out.size)); have B214 := Lib.hid (B213.out.trans (b14.mono B213.out.size)); have k2 := Kd.C_string (P := Try.prog) (src := 30) (dst := 9) Try.underlying30 Try.underlying5 Try.underlying9 hC14 (c := c14); have k3 := Kd.C_string (P := Try.prog) (src := 30) (dst := 9) Try.underlying30 Try.underlying5 Try.underlying9 (Kd.C_below HCY.out B214.out) (c := cy); clear hr14 hC14 b14))
      all_goals go_wp2
      all_goals go_ret
      all_goals exact ⟨rfl, B14.out⟩
end Go.Proofs.Ytliighhedmfgjaa.Cmd
