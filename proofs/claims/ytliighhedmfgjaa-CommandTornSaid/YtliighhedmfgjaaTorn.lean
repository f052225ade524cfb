/- The law CommandTorn: it answers true, whatever comes in. -/
import Derived.Test.YtliighhedmfgjaaOpD
import Derived.Test.YtliighhedmfgjaaEncD
import Derived.Test.YtliighhedmfgjaaEnc5
import Derived.Test.YtliighhedmfgjaaAl
namespace Go.Proofs.Ytliighhedmfgjaa.Cmd
open Go.RowKit Go.Proofs.Ytliighhedmfgjaa.PRefC Go.Proofs.YtliighhedmfgjaaW.PrintWords Go.Proofs.YtliighhedmfgjaaW.PrintLast Go.Proofs.YtliighhedmfgjaaW.PrintMore

/-! ### What is written is read -/
theorem byte_append {a b : List Int} (h1 : Byte a) (h2 : Byte b) : Byte (a ++ b) := fun x hx => (List.mem_append.mp hx).elim (h1 x) (h2 x)
theorem byte_nil : Byte [] := fun x hx => by simp at hx
theorem prefB_byte (hi lo len : Int) : Byte (prefB hi lo len) := byte_append (byte_append (be_byte _ _) (be_byte _ _)) (be_byte _ _)
theorem edB_byte (x : S29) : Byte (edB x) := by
  unfold edB editB
  refine byte_append (be_byte _ _) ?_
  repeat' split
  · exact byte_append (prefB_byte _ _ _) (be_byte _ _)
  · exact prefB_byte _ _ _
  · exact byte_nil
theorem flat_byte (l : List S29) : Byte (l.flatMap edB) := by
  intro x hx
  obtain ⟨y, _, hy⟩ := List.mem_flatMap.mp hx
  exact edB_byte y x hy
theorem encP_byte (c : S29) : Byte (encP c) := by
  unfold encP
  split
  · exact byte_nil
  · unfold cmdB
    refine byte_append (be_byte _ _) ?_
    repeat' split
    · exact byte_append (prefB_byte _ _ _) (be_byte _ _)
    · exact prefB_byte _ _ _
    · exact byte_append (be_byte _ _) (be_byte _ _)
    · exact be_byte _ _
    · exact byte_append (be_byte _ _) (be_byte _ _)
    · unfold batchB
      refine byte_append (be_byte _ _) ?_
      split
      · exact byte_nil
      · exact flat_byte _
    · exact byte_nil
theorem encP_len (c : S29) : (encP c).length ≤ 500 := by
  unfold encP
  split
  · simp
  · unfold cmdB
    rw [List.length_append, be_length]
    repeat' split
    · simp only [List.length_append, prefB_length, be_length]; omega
    · rw [prefB_length]; omega
    · simp only [List.length_append, be_length]; omega
    · rw [be_length]; omega
    · simp only [List.length_append, be_length]; omega
    · unfold batchB
      rw [List.length_append, be_length]
      split
      · simp
      · have := flat_length c.f6; omega
    · simp
theorem rtF_byte (l : List PRefD.S70) : Byte (l.flatMap rtB) := by
  intro x hx
  obtain ⟨y, _, hy⟩ := List.mem_flatMap.mp hx
  exact byte_append (prefB_byte _ _ _) (be_byte _ _) x hy
theorem map_byte (l : List Int) : Byte (l.map (· % 256)) := by
  intro x hx
  obtain ⟨y, _, rfl⟩ := List.mem_map.mp hx
  omega
theorem encR_byte (x : Rp) : Byte (encR x) := by
  unfold encR
  split
  · exact byte_nil
  · exact byte_append (be_byte _ _) (byte_append (be_byte _ _) (byte_append (be_byte _ _) (byte_append (be_byte _ _) (byte_append (be_byte _ _) (byte_append (map_byte _) (byte_append (be_byte _ _) (rtF_byte _)))))))
theorem rtF_length : ∀ l : List PRefD.S70, (l.flatMap rtB).length = 21 * l.length
  | [] => rfl
  | y :: l => by rw [List.flatMap_cons, List.length_append, rtB_length, rtF_length l, List.length_cons]; omega
theorem encR_len (x : Rp) (h : x.R.length ≤ 60) : (encR x).length ≤ 2000 := by
  unfold encR
  cases hX : rpX x with
  | true => simp
  | false =>
    rw [if_neg Bool.false_ne_true]
    have h2 := hX
    rw [rpX_hd] at h2
    obtain ⟨h2, _⟩ := orf h2
    obtain ⟨_, h2⟩ := orf (show ((decide (x.e < 0) || decide (8 < x.e)) || _) = false from h2)
    obtain ⟨_, h2⟩ := orf h2
    obtain ⟨_, h2⟩ := orf h2
    obtain ⟨_, h2⟩ := orf h2
    obtain ⟨h3, _⟩ := orf h2
    have h3 := of_decide_eq_false h3
    unfold rpB
    simp only [List.length_append, be_length, List.length_map, rtF_length]
    omega
theorem enc_ne {c : S29} (h : encP c ≠ []) : cmdX c = false ∧ encP c = cmdB c := by
  unfold encP at h ⊢
  cases hc : cmdX c with
  | true => rw [hc, if_pos rfl] at h; exact absurd rfl h
  | false => exact ⟨rfl, by rw [if_neg Bool.false_ne_true]⟩
theorem encR_ne {x : Rp} (h : encR x ≠ []) : rpX x = false ∧ encR x = rpB x := by
  unfold encR at h ⊢
  cases hc : rpX x with
  | true => rw [hc, if_pos rfl] at h; exact absurd rfl h
  | false => exact ⟨rfl, by rw [if_neg Bool.false_ne_true]⟩
theorem new_hat {v1 v : Value} {s : Nat} (hv : v.ownBlock = none) (hat : v1.ownBlock = v.ownBlock ∨ ∃ b, v1.ownBlock = some b ∧ s ≤ b) : ∀ k, v1.ownBlock = some k → s ≤ k := by
  intro k hk
  rcases hat with h | ⟨b, hb, hs⟩
  · rw [h, hv] at hk; cases hk
  · rw [hb] at hk; injection hk with hk; omega

set_option maxRecDepth 20000 in
set_option maxHeartbeats 8000000 in
theorem Torn_walk {w : World} (x : S29) (cs : Array Value) (hK : k29.K w x cs.toList) (ho : ok29 x) (r : Rp) (cs2 : Array Value) (hK2 : k45.K w r cs2.toList) (ho2 : ok45 r) (n : Int) (hn : (Lit.int .i64 n).wf = true) (_ : World) :
    Calls Try.prog 5 #[.agg cs, .agg cs2, .int .i64 n] w fun e w' => e = .returned (.bool true) ∧ Below w.heap.size w w' := by
  obtain ⟨A9, c9, hcs, hc9, hC9⟩ := k29_open hK
  obtain rfl : cs = #[.int .i64 x.f0, .int .i64 x.f1, .int .i64 x.f2, .int .u64 x.f3.f0.f0, .int .u64 x.f3.f0.f1, .int .i64 x.f3.f1, .int .u64 x.f4.f0, .int .u64 x.f4.f1, .int .u64 x.f5, .slice A9 x.f6.length c9] := by apply Array.ext'; exact hcs
  obtain ⟨A4, c4, A5, c5, hcs2, hc4, hC4, hc5, hC5⟩ := k45_open hK2
  obtain rfl : cs2 = #[.int .i64 r.e, .int .i64 r.hop, .int .i64 r.n, .int .i64 r.at_, .slice A4 r.P.length c4, .slice A5 r.R.length c5] := by apply Array.ext'; exact hcs2
  obtain ⟨o1, o2, o3⟩ := ok29_C ho
  have o4 := ok45_R ho2
  obtain ⟨K1, hK1⟩ := cb_any x o1 o2
  obtain ⟨K2, hK2'⟩ := rp_any r o4
  obtain ⟨y, hy⟩ : ∃ y, y = encP x := ⟨_, rfl⟩
  obtain ⟨z, hz⟩ : ∃ z, z = encR r := ⟨_, rfl⟩
  have e1 : cbF K1 x = some y := by rw [hy]; exact hK1 K1 (Nat.le_refl _)
  have e2 : rpF K2 r = some z := by rw [hz]; exact hK2' K2 (Nat.le_refl _)
  unfold cbF at e1
  unfold rpF at e2
  have hyt : y ≠ [] → (∀ m, m < y.length → rdE (y.take m) = 2) ∧ rdE (y ++ [0]) = 2 := by
    intro h
    rw [hy] at h ⊢
    obtain ⟨h1, h2⟩ := enc_ne h
    rw [h2]
    exact rd_torn h1 o1 o2
  have hzt : z ≠ [] → (∀ m, m < z.length → rrE (z.take m) = 2) ∧ rrE (z ++ [0]) = 2 := by
    intro h
    rw [hz] at h ⊢
    obtain ⟨h1, h2⟩ := encR_ne h
    rw [h2]
    exact rr_torn (rr_be r h1 o4)
  have hyb : Byte y := by rw [hy]; exact encP_byte x
  have hzb : Byte z := by rw [hz]; exact encR_byte r
  have hyl : y.length ≤ 500 := by rw [hy]; exact encP_len x
  have hzl : r.R.length ≤ 60 → z.length ≤ 2000 := by rw [hz]; exact encR_len r
  have E1 := Lib.hid e1
  have E2 := Lib.hid e2
  have YT := Lib.hid hyt
  have ZT := Lib.hid hzt
  have YB := Lib.hid hyb
  have ZB := Lib.hid hzb
  have YL := Lib.hid hyl
  have ZL := Lib.hid hzl
  have HC9 := Lib.hid hC9
  have HC4 := Lib.hid hC4
  have HC5 := Lib.hid hC5
  clear hK ho hcs hK2 ho2 hcs2 o1 o2 o3 o4 hK1 hK2' hy hz e1 e2 hyt hzt hyb hzb hyl hzl hC9 hC4 hC5
  go_enter Try.func5, Try.ntmps5
  go_wp2_with fail
  obtain ⟨wa, hwa⟩ : ∃ wa, wa = (w.alloc (.cells #[.int .i64 x.f0, .int .i64 x.f1, .int .i64 x.f2, .int .u64 x.f3.f0.f0, .int .u64 x.f3.f0.f1, .int .i64 x.f3.f1, .int .u64 x.f4.f0, .int .u64 x.f4.f1, .int .u64 x.f5, .slice A9 x.f6.length c9] 29 (0, 0))).alloc (.cells #[.int .i64 r.e, .int .i64 r.hop, .int .i64 r.n, .int .i64 r.at_, .slice A4 r.P.length c4, .slice A5 r.R.length c5] 45 (0, 0)) := ⟨_, rfl⟩
  have ba : Below w.heap.size w wa := by rw [hwa]; exact below_alloc (below_alloc (Below.refl _ _) _) _
  have ha3 : wa.heap[w.heap.size]? = some (.cells #[.int .i64 x.f0, .int .i64 x.f1, .int .i64 x.f2, .int .u64 x.f3.f0.f0, .int .u64 x.f3.f0.f1, .int .i64 x.f3.f1, .int .u64 x.f4.f0, .int .u64 x.f4.f1, .int .u64 x.f5, .slice A9 x.f6.length c9] 29 (0, 0)) := by rw [hwa]; exact blk_alloc (blk_new _ _) _
  have ha4 : wa.heap[w.heap.size + 1]? = some (.cells #[.int .i64 r.e, .int .i64 r.hop, .int .i64 r.n, .int .i64 r.at_, .slice A4 r.P.length c4, .slice A5 r.R.length c5] 45 (0, 0)) := by
    have e : (w.alloc (.cells #[.int .i64 x.f0, .int .i64 x.f1, .int .i64 x.f2, .int .u64 x.f3.f0.f0, .int .u64 x.f3.f0.f1, .int .i64 x.f3.f1, .int .u64 x.f4.f0, .int .u64 x.f4.f1, .int .u64 x.f5, .slice A9 x.f6.length c9] 29 (0, 0))).heap.size = w.heap.size + 1 := by simp
    rw [hwa, ← e]; exact blk_new _ _
  rw [← hwa]
  clear hwa
  refine (alive_is _).mono ?_
  rintro e w1 ⟨rfl, b1⟩
  have h3 := blk_below ha3 b1
  have h4 := blk_below ha4 b1
  have B1 := Lib.hid (ba.trans (b1.mono ba.size))
  have G3 := Lib.hid h3
  have G4 := Lib.hid h4
  have q0 := blk_cell h3 0
  have q1 := blk_cell h3 1
  have q2 := blk_cell h3 2
  have q3 := blk_cell h3 3
  have q4 := blk_cell h3 4
  have q5 := blk_cell h3 5
  have q6 := blk_cell h3 6
  have q7 := blk_cell h3 7
  have q8 := blk_cell h3 8
  have q9 := blk_cell h3 9
  simp only [List.getElem?_toArray, List.getElem?_cons_zero, List.getElem?_cons_succ] at q0 q1 q2 q3 q4 q5 q6 q7 q8 q9
  clear ba ha3 ha4 b1 h3 h4
  go_wp2_with fail
  refine (flocculusref21_CommandBytes.calls K1 x.f0 x.f1 x.f2 x.f3.f0.f0 x.f3.f0.f1 x.f3.f1 x.f4.f0 x.f4.f1 x.f5 A9 c9 x.f6 y w1 (Kd.C_below HC9.out B1.out) hc9 E1.out).mono ?_
  rintro e w2 ⟨vy, rfl, hry, b2⟩
  obtain ⟨Ay, cy, hey, hly, hCy⟩ := Kd.R_reads hry
  subst hey
  have h4 := blk_below G4.out b2
  have B2 := Lib.hid (B1.out.trans (b2.mono B1.out.size))
  have CY2 := Lib.hid hCy
  have G4' := Lib.hid h4
  have s0 := blk_cell h4 0
  have s1 := blk_cell h4 1
  have s2 := blk_cell h4 2
  have s3 := blk_cell h4 3
  have s4 := blk_cell h4 4
  have s5 := blk_cell h4 5
  simp only [List.getElem?_toArray, List.getElem?_cons_zero, List.getElem?_cons_succ] at s0 s1 s2 s3 s4 s5
  clear q0 q1 q2 q3 q4 q5 q6 q7 q8 q9 hry b2 hCy h4 G3 G4
  go_wp2_with fail
  refine (PRefD.flocculusref21_ReplyBytes.calls K2 r.e r.hop r.n r.at_ A4 c4 r.P A5 c5 r.R z w2 (Kd.C_below HC4.out B2.out) hc4 (Kd.C_below HC5.out B2.out) hc5 E2.out).mono ?_
  rintro e w3 ⟨vz, rfl, hrz, b3⟩
  obtain ⟨Az, cz, hez, hlz, hCz⟩ := Kd.R_reads hrz
  subst hez
  have h4 := blk_below G4'.out b3
  have B3 := Lib.hid (B2.out.trans (b3.mono B2.out.size))
  have CY3 := Lib.hid (Kd.C_below CY2.out b3)
  have CZ3 := Lib.hid hCz
  have s5' := blk_cell h4 5
  simp only [List.getElem?_toArray, List.getElem?_cons_zero, List.getElem?_cons_succ] at s5'
  clear s0 s1 s2 s3 s4 s5 hrz b3 hCz h4 G4' CY2 B1 B2
  go_upto_region 4 with (fail)
  by_cases hy0 : y = []
  · subst hy0
    simp only [List.length_nil]
    go_wp2
    go_ret
    exact ⟨rfl, B3.out⟩
  have hyp : ¬ (y.length : Int) = 0 := fun e => hy0 (List.eq_nil_of_length_eq_zero (by omega))
  have hypb : ((y.length : Int) == 0) = false := by simp only [beq_eq_false_iff_ne, ne_eq]; exact hyp
  by_cases hz0 : z = []
  · subst hz0
    simp only [List.length_nil]
    go_wp2
    go_ret
    exact ⟨rfl, B3.out⟩
  have hzp : ¬ (z.length : Int) = 0 := fun e => hz0 (List.eq_nil_of_length_eq_zero (by omega))
  have hzpb : ((z.length : Int) == 0) = false := by simp only [beq_eq_false_iff_ne, ne_eq]; exact hzp
  by_cases h60 : (60 : Int) < (r.R.length : Int)
  · go_wp2
    go_ret
    exact ⟨rfl, B3.out⟩
  by_cases hn0 : n < 0
  · go_wp2
    go_ret
    exact ⟨rfl, B3.out⟩
  obtain ⟨y1, y2⟩ := YT.out hy0
  obtain ⟨z1, z2⟩ := ZT.out hz0
  have zl := ZL.out (by omega)
  obtain ⟨j, hj⟩ : ∃ j, n.tmod (y.length : Int) = j := ⟨_, rfl⟩
  obtain ⟨i, hi⟩ : ∃ i, n.tmod (z.length : Int) = i := ⟨_, rfl⟩
  have j0 : 0 ≤ j := by rw [← hj]; exact Int.tmod_nonneg _ (by omega)
  have j1 : j < (y.length : Int) := by rw [← hj]; exact Int.tmod_lt_of_pos _ (by omega)
  have i0 : 0 ≤ i := by rw [← hi]; exact Int.tmod_nonneg _ (by omega)
  have i1 : i < (z.length : Int) := by rw [← hi]; exact Int.tmod_lt_of_pos _ (by omega)
  obtain ⟨i5, hi5, hzz⟩ := Option.map_eq_some_iff.1 info5
  simp only [Prod.mk.injEq] at hzz
  obtain ⟨_, hsz5, _⟩ := hzz
  obtain ⟨d1, d2, d3⟩ := print_take_of (P := Try.prog) (Value.int .u8) (0 : Int) 30 5 .i64 Try.underlying30 hi5 hsz5 Ay cy y j j0 (by omega) hly
  obtain ⟨f1, f2, f3⟩ := print_take_of (P := Try.prog) (Value.int .u8) (0 : Int) 30 5 .i64 Try.underlying30 hi5 hsz5 Az cz z i i0 (by omega) hlz
  have Y1 := Lib.hid (y1 j.toNat (by omega))
  have Y2 := Lib.hid y2
  have Z1 := Lib.hid (z1 i.toNat (by omega))
  have Z2 := Lib.hid z2
  have D2 := Lib.hid d2
  have F2 := Lib.hid f2
  have ZL2 := Lib.hid zl
  have JL := Lib.hid (show (y.take j.toNat).length ≤ 500 by rw [List.length_take]; have := YL.out; omega)
  have IL := Lib.hid (show (z.take i.toNat).length ≤ 2000 by rw [List.length_take]; omega)
  clear YT ZT ZL y1 y2 z1 z2 zl hi5 hsz5 d2 f2 E1 E2 HC9 HC4 HC5 hy0 hz0
  go_wp2_with fail
  have hct : (Kd.int .u8).C w3 Ay (y.take j.toNat).length (y.take j.toNat) := Kd.C_of_reads (D2.out _ (Kd.reads_of_C (d := (0 : Int)) CY3.out))
  rw [← List.length_take]
  refine (read_is w3 Ay cy (y.take j.toNat) hct d3 (fun v hv => YB.out v (List.mem_of_mem_take hv)) (by have := JL.out; omega)).mono ?_
  rintro e w6a ⟨v6, rfl, hr6, b6⟩
  rw [Y1.out]
  obtain ⟨u6, hu6⟩ : ∃ u, u = rdV (y.take j.toNat) := ⟨_, rfl⟩
  rw [← hu6] at hr6 ⊢
  obtain ⟨A6, c6, hv6⟩ := Kd.R_slice hr6
  subst hv6
  unfold cells29
  clear hu6
  go_upto_region 7 with (fail)
  obtain ⟨w6, hw6⟩ : ∃ w', w' = w6a.alloc (.cells #[.int .i64 u6.f0, .int .i64 u6.f1, .int .i64 u6.f2, .int .u64 u6.f3.f0.f0, .int .u64 u6.f3.f0.f1, .int .i64 u6.f3.f1, .int .u64 u6.f4.f0, .int .u64 u6.f4.f1, .int .u64 u6.f5, .slice A6 u6.f6.length c6] 29 (0, 0)) := ⟨_, rfl⟩
  have bn : Below w3.heap.size w3 w6 := by rw [hw6]; exact below_alloc b6 _
  rw [← hw6]
  have B6 := Lib.hid (B3.out.trans (bn.mono B3.out.size))
  have CY6 := Lib.hid (Kd.C_below CY3.out bn)
  have CZ6 := Lib.hid (Kd.C_below CZ3.out bn)
  clear hw6 bn hr6 b6 hct d1 d3 D2 Y1 JL B3 CY3 CZ3
  have BP := Lib.hid (Below.refl w6.heap.size w6)
  have lenb : y.length ≤ 2000 := by have := YL.out; omega
  go_wp2_with (first
    | ((with_reducible refine gate_builtin (b := .append) (xs := #[.const (.slice none 0 0), .tmp 57]) rfl ?_); at_builtin; refine Kd.R_append_rows (Kd.int .u8) (w0 := w) (W := w6) w.heap.size rfl (.const (.slice none 0 0)) (.tmp 57) 30 5 (.int .u8 0) 1 rfl Try.underlying30 info5 rfl (by decide) (by omega) (.slice none 0 0) [] y Ay y.length cy (fun _ => True) (fun _ => False) rfl rfl (Kd.R_nil _ _ _ _ _) CY6.out (fun _ _ h => h) (fun _ h => h.elim) (fun _ _ => trivial) B6.out B6.out.size (by rw [List.length_nil]; omega) ?_; intro va wb hoa hba hga hata; simp only [List.nil_append] at hoa; obtain ⟨Aa, ca, hea⟩ := Kd.R_slice hoa; subst hea; have bp := Below.grown BP.out hga (Nat.le_refl _) (fun k h => by cases h); have HOA := Lib.hid hoa; have HBA := Lib.hid hba; have HATA := Lib.hid (new_hat (v := .slice none 0 0) rfl hata); have BPA := Lib.hid bp; clear hoa hba hga hata bp)
    | ((with_reducible refine gate_builtin (b := .append) (xs := #[.tmp 58, .tmp 59]) rfl ?_); at_builtin; refine Kd.R_append (Kd.int .u8) (w0 := w) (W := wb) w.heap.size rfl (.tmp 58) (.tmp 59) 30 5 (.int .u8 0) 1 rfl Try.underlying30 info5 rfl (by decide) (by omega) (.slice Aa y.length ca) y 0 [.int .u8 0] (fun _ => True) (fun _ => False) rfl rfl rfl (fun _ hk => hk.elim) (fun _ _ => trivial) HOA.out HBA.out HBA.out.size (by omega) ?_; intro vc wc hoc hbc hgc _; have bp := Below.grown BPA.out hgc BPA.out.size HATA.out; obtain ⟨Ac, cc, hec, hlc, hCc⟩ := Kd.R_reads hoc; subst hec; have BPC := Lib.hid bp; have HBC := Lib.hid hbc; have CCC := Lib.hid hCc; clear hoc hbc hgc hCc bp))
  have el : y.length + 1 = (y ++ [(0 : Int)]).length := by simp
  rw [el]
  clear el
  refine (read_is wc Ac cc (y ++ [0]) CCC.out hlc (byte_append YB.out (fun v hv => by rw [List.mem_singleton] at hv; omega)) (by rw [List.length_append]; simp only [List.length_cons, List.length_nil]; omega)).mono ?_
  rintro e w7a ⟨v7, rfl, hr7, b7⟩
  rw [Y2.out]
  obtain ⟨u7, hu7⟩ : ∃ u, u = rdV (y ++ [0]) := ⟨_, rfl⟩
  rw [← hu7] at hr7 ⊢
  obtain ⟨A7, c7, hv7⟩ := Kd.R_slice hr7
  subst hv7
  unfold cells29
  clear hu7
  have b7c := BPC.out.trans (b7.mono BPC.out.size)
  go_upto_region 8 with (fail)
  obtain ⟨w7, hw7⟩ : ∃ w', w' = w7a.alloc (.cells #[.int .i64 u7.f0, .int .i64 u7.f1, .int .i64 u7.f2, .int .u64 u7.f3.f0.f0, .int .u64 u7.f3.f0.f1, .int .i64 u7.f3.f1, .int .u64 u7.f4.f0, .int .u64 u7.f4.f1, .int .u64 u7.f5, .slice A7 u7.f6.length c7] 29 (0, 0)) := ⟨_, rfl⟩
  have bn : Below w6.heap.size w6 w7 := by rw [hw7]; exact below_alloc b7c _
  rw [← hw7]
  have B7 := Lib.hid (B6.out.trans (bn.mono B6.out.size))
  have CY7 := Lib.hid (Kd.C_below CY6.out bn)
  have CZ7 := Lib.hid (Kd.C_below CZ6.out bn)
  clear hw7 bn hr7 b7 b7c B6 CY6 CZ6 BP BPC HBC CCC hlc lenb
  go_wp2_with fail
  have hct : (Kd.int .u8).C w7 Az (z.take i.toNat).length (z.take i.toNat) := Kd.C_of_reads (F2.out _ (Kd.reads_of_C (d := (0 : Int)) CZ7.out))
  rw [← List.length_take]
  refine (readr_is w7 Az cz (z.take i.toNat) hct f3 (fun v hv => ZB.out v (List.mem_of_mem_take hv)) (by have := IL.out; omega)).mono ?_
  rintro e w8a ⟨v8, rfl, ⟨m0, m1, m2, m3, A6_8, k6_8, c6_8, A7_8, k7_8, c7_8, rfl⟩, b8⟩
  rw [Z1.out]
  go_upto_region 9 with (fail)
  obtain ⟨w8, hw8⟩ : ∃ w', w' = w8a.alloc (.cells #[.int .i64 m0, .int .i64 m1, .int .i64 m2, .int .i64 m3, .slice A6_8 k6_8 c6_8, .slice A7_8 k7_8 c7_8] 45 (0, 0)) := ⟨_, rfl⟩
  have bn : Below w7.heap.size w7 w8 := by rw [hw8]; exact below_alloc b8 _
  rw [← hw8]
  have B8 := Lib.hid (B7.out.trans (bn.mono B7.out.size))
  have CY8 := Lib.hid (Kd.C_below CY7.out bn)
  have CZ8 := Lib.hid (Kd.C_below CZ7.out bn)
  clear hw8 bn b8 hct f1 f3 F2 Z1 IL B7 CY7 CZ7
  have BP := Lib.hid (Below.refl w8.heap.size w8)
  have lenb : z.length ≤ 2000 := by have := ZL2.out; omega
  go_wp2_with (first
    | ((with_reducible refine gate_builtin (b := .append) (xs := #[.const (.slice none 0 0), .tmp 75]) rfl ?_); at_builtin; refine Kd.R_append_rows (Kd.int .u8) (w0 := w) (W := w8) w.heap.size rfl (.const (.slice none 0 0)) (.tmp 75) 30 5 (.int .u8 0) 1 rfl Try.underlying30 info5 rfl (by decide) (by omega) (.slice none 0 0) [] z Az z.length cz (fun _ => True) (fun _ => False) rfl rfl (Kd.R_nil _ _ _ _ _) CZ8.out (fun _ _ h => h) (fun _ h => h.elim) (fun _ _ => trivial) B8.out B8.out.size (by rw [List.length_nil]; omega) ?_; intro va wb hoa hba hga hata; simp only [List.nil_append] at hoa; obtain ⟨Aa, ca, hea⟩ := Kd.R_slice hoa; subst hea; have bp := Below.grown BP.out hga (Nat.le_refl _) (fun k h => by cases h); have HOA := Lib.hid hoa; have HBA := Lib.hid hba; have HATA := Lib.hid (new_hat (v := .slice none 0 0) rfl hata); have BPA := Lib.hid bp; clear hoa hba hga hata bp)
    | ((with_reducible refine gate_builtin (b := .append) (xs := #[.tmp 76, .tmp 77]) rfl ?_); at_builtin; refine Kd.R_append (Kd.int .u8) (w0 := w) (W := wb) w.heap.size rfl (.tmp 76) (.tmp 77) 30 5 (.int .u8 0) 1 rfl Try.underlying30 info5 rfl (by decide) (by omega) (.slice Aa z.length ca) z 0 [.int .u8 0] (fun _ => True) (fun _ => False) rfl rfl rfl (fun _ hk => hk.elim) (fun _ _ => trivial) HOA.out HBA.out HBA.out.size (by omega) ?_; intro vc wc hoc hbc hgc _; have bp := Below.grown BPA.out hgc BPA.out.size HATA.out; obtain ⟨Ac, cc, hec, hlc, hCc⟩ := Kd.R_reads hoc; subst hec; have BPC := Lib.hid bp; have HBC := Lib.hid hbc; have CCC := Lib.hid hCc; clear hoc hbc hgc hCc bp))
  have el : z.length + 1 = (z ++ [(0 : Int)]).length := by simp
  rw [el]
  clear el
  refine (readr_is wc Ac cc (z ++ [0]) CCC.out hlc (byte_append ZB.out (fun v hv => by rw [List.mem_singleton] at hv; omega)) (by rw [List.length_append]; simp only [List.length_cons, List.length_nil]; omega)).mono ?_
  rintro e w9a ⟨v9, rfl, ⟨l0, l1, l2, l3, A6_9, k6_9, c6_9, A7_9, k7_9, c7_9, rfl⟩, b9⟩
  rw [Z2.out]
  have b9c := BPC.out.trans (b9.mono BPC.out.size)
  go_upto_region 10 with (fail)
  obtain ⟨w9, hw9⟩ : ∃ w', w' = w9a.alloc (.cells #[.int .i64 l0, .int .i64 l1, .int .i64 l2, .int .i64 l3, .slice A6_9 k6_9 c6_9, .slice A7_9 k7_9 c7_9] 45 (0, 0)) := ⟨_, rfl⟩
  have bn : Below w8.heap.size w8 w9 := by rw [hw9]; exact below_alloc b9c _
  rw [← hw9]
  have B9 := Lib.hid (B8.out.trans (bn.mono B8.out.size))
  have CY9 := Lib.hid (Kd.C_below CY8.out bn)
  have CZ9 := Lib.hid (Kd.C_below CZ8.out bn)
  clear hw9 bn b9 b9c B8 CY8 CZ8 BP BPC HBC CCC hlc lenb
  go_wp2_with fail
  refine (flocculuslaw24_num.calls 2 2 _ rfl).mono ?_
  rintro e n0w ⟨rfl, ⟨n0, rfl⟩⟩
  go_wp2_with fail
  refine (flocculuslaw24_num.calls 2 2 _ rfl).mono ?_
  rintro e n1w ⟨rfl, ⟨n1, rfl⟩⟩
  go_wp2_with fail
  refine (flocculuslaw24_num.calls 2 2 _ rfl).mono ?_
  rintro e n2w ⟨rfl, ⟨n2, rfl⟩⟩
  go_wp2_with fail
  refine (flocculuslaw24_num.calls 2 2 _ rfl).mono ?_
  rintro e n3w ⟨rfl, ⟨n3, rfl⟩⟩
  go_wp2
  go_ret
  exact ⟨rfl, by repeat (first | exact B9.out | apply pw_below_drewN)⟩
end Go.Proofs.Ytliighhedmfgjaa.Cmd
