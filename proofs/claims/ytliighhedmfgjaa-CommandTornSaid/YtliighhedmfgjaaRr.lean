/- Package command: whether bytes are a reply. -/
import Derived.Test.YtliighhedmfgjaaPl
import Derived.Test.YtliighhedmfgjaaPRefDx0
namespace Go.Proofs.Ytliighhedmfgjaa.Cmd
open Go.RowKit Go.Proofs.Ytliighhedmfgjaa.PRefC Go.Proofs.YtliighhedmfgjaaW.PrintWords Go.Proofs.YtliighhedmfgjaaW.PrintLast Go.Proofs.YtliighhedmfgjaaW.PrintMore

/-- What is in front behind so many probes. -/
def prS : Nat → St → St
  | 0, s => s
  | n + 1, s => prS n (ns 1 255 s)
/-- What is in front behind so many routes. -/
def rtS : Nat → St → St
  | 0, s => s
  | n + 1, s => if s.2 = true then s else rtS n (ns 4 2147483647 (ps s))
def hdS (s : St) : St := ns 4 2147483647 (ns 4 2147483647 (ns 4 2147483648 (ns 1 8 s)))
def pbS (s : St) : St := prS (gv 1 (hdS s)).toNat (ns 1 255 (hdS s))
def rrS (s : St) : St := rtS (gv 2 (pbS s)).toNat (ns 2 65535 (pbS s))
def rrOk (l : List Int) : Bool := !(rrS (l, false)).2 && (rrS (l, false)).1.isEmpty
/-- A reply's six words. -/
def RrV (v : Value) : Prop := ∃ (n0 n1 n2 n3 : Int) (A1 : Option Addr) (k1 m1 : Nat) (A2 : Option Addr) (k2 m2 : Nat), v = .agg #[.int .i64 n0, .int .i64 n1, .int .i64 n2, .int .i64 n3, .slice A1 k1 m1, .slice A2 k2 m2]
def rrE (l : List Int) : Int := if rrOk l = true then 0 else 2

section
variable {α : Type} {d : Kd α} {e : Nat} {W W1 : World} {B rb : Nat} {ok : Nat → Prop} {v : Value} {xs : List α} {w0 : World} {s : St}
theorem R_onlyG (ht : ∀ q, q ∈ e :: d.E → q ≠ 60) (h : d.R e W B ok v xs) (hr : Rs w0 W rb s) (o : Only W W1 rb) : d.R e W1 B ok v xs := by
  obtain ⟨A, c, hb, _⟩ := hr.1.is
  have h1 := Kd.R_types h hb ht
  refine Kd.R_mono (Kd.R_step h1 fun k hk hlt => ?_) (fun _ hk => hk.1)
  have he : W.heap[k]? = some W.heap[k] := Array.getElem?_eq_getElem hlt
  exact (o.2 k _ he hk.2).trans he.symm
theorem Rs.grownG (he : e ≠ 60) (h : Rs w0 W rb s) (hR : d.R e W B ok v xs) (hg : W.grownBy W1 v.ownBlock) (hB : Below w0.heap.size w0 W1) : Rs w0 W1 rb s := by
  obtain ⟨⟨⟨A, c, h1, h2, h3⟩, h4, h5, h6⟩, h7⟩ := h
  exact ⟨⟨⟨A, c, blk_grown h1 hg (Kd.R_ne hR h1 he), h2, h3⟩, h4, hB, h6⟩, h7⟩
end
theorem info3 : (Try.prog.info? 3).map (fun i => (i.zero, i.size, i.bytes)) = some (some (.int .i64 0), 1, 8) := by kernel_rfl
theorem info70 : (Try.prog.info? 70).map (fun i => (i.zero, i.size, i.bytes)) = some (some (.agg #[.int .u64 0, .int .u64 0, .int .i64 0, .int .i64 0]), 4, 32) := by kernel_rfl
def lay6 (W : World) (g : Nat) (c0 c1 c2 c3 c4 c5 : Value) : World := ((((((W.setCell ⟨g, 0, none⟩ c0).setCell ⟨g, 1, none⟩ c1).setCell ⟨g, 2, none⟩ c2).setCell ⟨g, 3, none⟩ c3).setCell ⟨g, 4, none⟩ c4).setCell ⟨g, 5, none⟩ c5)
theorem lay6_here {W : World} {g t : Nat} {a0 a1 a2 a3 a4 a5 : Value} (h : W.heap[g]? = some (.cells #[a0, a1, a2, a3, a4, a5] t (0, 0))) (c0 c1 c2 c3 c4 c5 : Value) : (lay6 W g c0 c1 c2 c3 c4 c5).heap[g]? = some (.cells #[c0, c1, c2, c3, c4, c5] t (0, 0)) := by
  have e0 := blk_set h 0 c0
  simp only [List.setIfInBounds_toArray, List.set_cons_zero, List.set_cons_succ] at e0
  have e1 := blk_set e0 1 c1
  simp only [List.setIfInBounds_toArray, List.set_cons_zero, List.set_cons_succ] at e1
  have e2 := blk_set e1 2 c2
  simp only [List.setIfInBounds_toArray, List.set_cons_zero, List.set_cons_succ] at e2
  have e3 := blk_set e2 3 c3
  simp only [List.setIfInBounds_toArray, List.set_cons_zero, List.set_cons_succ] at e3
  have e4 := blk_set e3 4 c4
  simp only [List.setIfInBounds_toArray, List.set_cons_zero, List.set_cons_succ] at e4
  have e5 := blk_set e4 5 c5
  simp only [List.setIfInBounds_toArray, List.set_cons_zero, List.set_cons_succ] at e5
  exact e5
theorem Rs.lay6 {w0 W : World} {rb g : Nat} {s : St} (h : Rs w0 W rb s) (hg : g ≠ rb) (hle : w0.heap.size ≤ g) (c0 c1 c2 c3 c4 c5 : Value) : Rs w0 (lay6 W g c0 c1 c2 c3 c4 c5) rb s := (((((h.other hg hle 0 _).other hg hle 1 _).other hg hle 2 _).other hg hle 3 _).other hg hle 4 _).other hg hle 5 _
theorem pr_step {N i : Nat} {t s : St} (hi : i < N) (h : prS (N - i) t = prS N s) : prS (N - (i + 1)) (ns 1 255 t) = prS N s := by
  rw [← h, show N - i = N - (i + 1) + 1 by omega]; rfl
theorem rt_step {N i : Nat} {tl : List Int} {s : St} (hi : i < N) (h : rtS (N - i) (tl, false) = rtS N s) : rtS (N - (i + 1)) (ns 4 2147483647 (ps (tl, false))) = rtS N s := by
  rw [← h, show N - i = N - (i + 1) + 1 by omega]
  simp only [rtS]
  rw [if_neg (by simp)]
theorem rt_end {N i : Nat} {tl : List Int} {s : St} (hi : i < N) (h : rtS (N - i) (tl, true) = rtS N s) : rtS N s = (tl, true) := by
  rw [← h, show N - i = N - (i + 1) + 1 by omega]
  simp only [rtS]
  rw [if_pos trivial]

set_option maxRecDepth 20000 in
set_option maxHeartbeats 8000000 in
theorem readr_is (w : World) (A : Option Addr) (c : Nat) (l : List Int) (hC : (Kd.int .u8).C w A l.length l) (hc : l.length ≤ c) (hb : ∀ x ∈ l, 0 ≤ x ∧ x < 256) (hl : l.length ≤ 1000000000) :
    Calls Try.prog 14 #[.slice A l.length c] w fun e w' => ∃ v, e = .returned (.tuple #[v, .int .i64 (rrE l)]) ∧ RrV v ∧ Below w.heap.size w w' := by
  have HC := Lib.hid hC
  have HB := Lib.hid hb
  clear hC hb
  obtain ⟨s1, hs1⟩ : ∃ s1, s1 = ns 1 8 (l, false) := ⟨_, rfl⟩
  obtain ⟨s2, hs2⟩ : ∃ s2, s2 = ns 4 2147483648 s1 := ⟨_, rfl⟩
  obtain ⟨s3, hs3⟩ : ∃ s3, s3 = ns 4 2147483647 s2 := ⟨_, rfl⟩
  obtain ⟨s4, hs4⟩ : ∃ s4, s4 = ns 4 2147483647 s3 := ⟨_, rfl⟩
  obtain ⟨s5, hs5⟩ : ∃ s5, s5 = ns 1 255 s4 := ⟨_, rfl⟩
  have b1 : Byte s1.1 := by rw [hs1]; exact ns_byte HB.out
  have b2 : Byte s2.1 := by rw [hs2]; exact ns_byte b1
  have b3 : Byte s3.1 := by rw [hs3]; exact ns_byte b2
  have b4 : Byte s4.1 := by rw [hs4]; exact ns_byte b3
  have r4 := gv_range 1 s4 b4
  rw [p1] at r4
  obtain ⟨N, hN⟩ : ∃ N : Nat, (N : Int) = gv 1 s4 := ⟨(gv 1 s4).toNat, by omega⟩
  have hN2 : N < 256 := by omega
  obtain ⟨s6, hs6⟩ : ∃ s6, s6 = prS N s5 := ⟨_, rfl⟩
  have b5 : Byte s5.1 := by rw [hs5]; exact ns_byte b4
  have prb : ∀ (n : Nat) (s : St), Byte s.1 → Byte (prS n s).1 := by
    intro n
    induction n with
    | zero => exact fun s h => h
    | succ n ih => exact fun s h => ih _ (ns_byte h)
  have b6 : Byte s6.1 := by rw [hs6]; exact prb N s5 b5
  have r6 := gv_range 2 s6 b6
  have p2 : (256 : Int) ^ 2 = 65536 := by decide
  rw [p2] at r6
  obtain ⟨M, hM⟩ : ∃ M : Nat, (M : Int) = gv 2 s6 := ⟨(gv 2 s6).toNat, by omega⟩
  have hM2 : M < 65536 := by omega
  obtain ⟨s7, hs7⟩ : ∃ s7, s7 = ns 2 65535 s6 := ⟨_, rfl⟩
  obtain ⟨s8, hs8⟩ : ∃ s8, s8 = rtS M s7 := ⟨_, rfl⟩
  have hE : rrE l = if (!s8.2 && s8.1.isEmpty) = true then 0 else 2 := by
    have e1 : hdS (l, false) = s4 := by rw [hs4, hs3, hs2, hs1]; rfl
    have e2 : pbS (l, false) = s6 := by unfold pbS; rw [e1, ← hN, ← hs5, Int.toNat_natCast, hs6]
    have e3 : rrS (l, false) = s8 := by unfold rrS; rw [e2, ← hM, ← hs7, Int.toNat_natCast, hs8]
    unfold rrE rrOk
    rw [e3]
  rw [hE]
  obtain ⟨b, hbb⟩ : ∃ b : Int, b = if (!s8.2 && s8.1.isEmpty) = true then 0 else 2 := ⟨_, rfl⟩
  rw [← hbb]
  have HBB := Lib.hid hbb
  have HS1 := Lib.hid hs1
  have HS2 := Lib.hid hs2
  have HS3 := Lib.hid hs3
  have HS4 := Lib.hid hs4
  have HS5 := Lib.hid hs5
  have HS6 := Lib.hid hs6
  have HS7 := Lib.hid hs7
  have HS8 := Lib.hid hs8
  have HN := Lib.hid hN
  have HM := Lib.hid hM
  clear hE hbb hs1 hs2 hs3 hs4 hs5 hs6 hs7 hs8 b1 b2 b3 b4 b5 b6 prb hN hM r4 r6 p2
  go_enter Try.func14, Try.ntmps14
  go_wp2_with fail
  obtain ⟨wa, hwa⟩ : ∃ wa, wa = (w.alloc (.cells #[.int .i64 0, .int .i64 0, .int .i64 0, .int .i64 0, .slice none 0 0, .slice none 0 0] 45 (0, 0))).alloc (.cells #[.slice A l.length c, .bool false] 60 (0, 0)) := ⟨_, rfl⟩
  have hb2 : wa.heap[w.heap.size]? = some (.cells #[.int .i64 0, .int .i64 0, .int .i64 0, .int .i64 0, .slice none 0 0, .slice none 0 0] 45 (0, 0)) := by rw [hwa]; exact blk_alloc (blk_new _ _) _
  have hb3 : wa.heap[w.heap.size + 1]? = some (.cells #[.slice A l.length c, .bool false] 60 (0, 0)) := by
    have e : (w.alloc (.cells #[.int .i64 0, .int .i64 0, .int .i64 0, .int .i64 0, .slice none 0 0, .slice none 0 0] 45 (0, 0))).heap.size = w.heap.size + 1 := by simp
    rw [hwa, ← e]; exact blk_new _ _
  have hbel : Below w.heap.size w wa := by rw [hwa]; exact below_alloc (below_alloc (Below.refl _ _) _) _
  have HA : Hid (Rs w wa (w.heap.size + 1) (l, false)) := ⟨⟨⟨A, c, hb3, hc, HC.out⟩, HB.out, hbel, Nat.le_succ _⟩, hl⟩
  have hn2 : (w.heap.size) ≠ (w.heap.size + 1) := by omega
  have hl2 : w.heap.size ≤ (w.heap.size) := by omega
  rw [← hwa]
  have HB2 := Lib.hid hb2
  clear hwa hb3 hbel hb2
  refine (number_st w wa (w.heap.size + 1) 1 8 (l, false) HA.out (by omega)).mono ?_
  rintro e w1 ⟨rfl, h1, o1⟩
  rw [← HS1.out] at h1
  have hc2 := o1.2 (w.heap.size) _ HB2.out hn2
  have HC2 := Lib.hid hc2
  have H1 := Lib.hid h1
  obtain ⟨v0, hv0⟩ : ∃ v0, v0 = gv 1 (l, false) := ⟨_, rfl⟩
  rw [← hv0]
  clear hv0 hc2 h1 o1 HB2 HA
  go_upto_region 3 with (fail)
  obtain ⟨w2, hw2⟩ : ∃ w2, w2 = w1.alloc (.cells #[.int .i64 v0, .int .i64 0, .int .i64 0, .int .i64 0, .slice none 0 0, .slice none 0 0] 45 (0, 0)) := ⟨_, rfl⟩
  obtain ⟨g5, hg5⟩ : ∃ g, g = w1.heap.size := ⟨_, rfl⟩
  have k5 : w2.heap[g5]? = some (.cells #[.int .i64 v0, .int .i64 0, .int .i64 0, .int .i64 0, .slice none 0 0, .slice none 0 0] 45 (0, 0)) := by rw [hw2, hg5]; exact blk_new _ _
  have k2 : w2.heap[(w.heap.size)]? = some (.cells #[.int .i64 0, .int .i64 0, .int .i64 0, .int .i64 0, .slice none 0 0, .slice none 0 0] 45 (0, 0)) := by rw [hw2]; exact blk_alloc HC2.out _
  have h2 : Rs w w2 (w.heap.size + 1) s1 := by rw [hw2]; exact H1.out.below (below_alloc (Below.refl _ _) _)
  have hn5 : g5 ≠ (w.heap.size + 1) := by have := H1.out.1.lt; omega
  have h25 : (w.heap.size) ≠ g5 := by have := blk_lt HC2.out; omega
  have hl5 : w.heap.size ≤ g5 := by have := H1.out.1.bel.size; omega
  rw [← hw2, ← hg5]
  have K5 := Lib.hid k5
  have K2 := Lib.hid k2
  have H2 := Lib.hid h2
  clear hw2 hg5 k5 k2 h2 H1 HC2
  go_wp2_with fail
  refine (number_st w w2 (w.heap.size + 1) 4 2147483648 s1 H2.out (by omega)).mono ?_
  rintro e w3 ⟨rfl, h3, o3⟩
  rw [← HS2.out] at h3
  have m2 := o3.2 (w.heap.size) _ K2.out hn2
  have m5 := o3.2 g5 _ K5.out hn5
  have f5 := fun i => blk_frozen m5 i
  have q0 := blk_cell m5 0
  have q1 := blk_cell m5 1
  have q2 := blk_cell m5 2
  have q3 := blk_cell m5 3
  have q4 := blk_cell m5 4
  have q5 := blk_cell m5 5
  simp only [List.getElem?_toArray, List.getElem?_cons_zero, List.getElem?_cons_succ] at q0 q1 q2 q3 q4 q5
  have M2 := Lib.hid m2
  have M5 := Lib.hid m5
  have H3 := Lib.hid h3
  obtain ⟨u1, hu1⟩ : ∃ u, u = gv 4 s1 := ⟨_, rfl⟩
  rw [← hu1]
  clear hu1 m2 m5 h3 o3 K2 K5 H2
  go_upto_region 4 with (fail)
  obtain ⟨v1, hv1⟩ : ∃ v, v = wrap64 (u1 - 1) := ⟨_, rfl⟩
  (try rw [← hv1])
  obtain ⟨x1, hx1⟩ : ∃ x1, x1 = w3.setCell ⟨g5, 1, none⟩ (.int .i64 v1) := ⟨_, rfl⟩
  have k5 : x1.heap[g5]? = some (.cells #[.int .i64 v0, .int .i64 v1, .int .i64 0, .int .i64 0, .slice none 0 0, .slice none 0 0] 45 (0, 0)) := by
    have := blk_set M5.out 1 (.int .i64 v1)
    simp only [List.setIfInBounds_toArray, List.set_cons_zero, List.set_cons_succ] at this
    rw [hx1]; exact this
  have k2 : x1.heap[(w.heap.size)]? = some (.cells #[.int .i64 0, .int .i64 0, .int .i64 0, .int .i64 0, .slice none 0 0, .slice none 0 0] 45 (0, 0)) := by rw [hx1]; exact (Below.heap_setCell w3 ⟨g5, 1, none⟩ _ (w.heap.size) h25).trans M2.out
  have h2 : Rs w x1 (w.heap.size + 1) s2 := by rw [hx1]; exact H3.out.other hn5 hl5 1 _
  rw [← hx1]
  have K5 := Lib.hid k5
  have K2 := Lib.hid k2
  have H2 := Lib.hid h2
  clear hv1 hx1 k5 k2 h2 M2 M5 H3 f5 q0 q1 q2 q3 q4 q5
  go_wp2_with fail
  refine (number_st w x1 (w.heap.size + 1) 4 2147483647 s2 H2.out (by omega)).mono ?_
  rintro e w3 ⟨rfl, h3, o3⟩
  rw [← HS3.out] at h3
  have m2 := o3.2 (w.heap.size) _ K2.out hn2
  have m5 := o3.2 g5 _ K5.out hn5
  have f5 := fun i => blk_frozen m5 i
  have q0 := blk_cell m5 0
  have q1 := blk_cell m5 1
  have q2 := blk_cell m5 2
  have q3 := blk_cell m5 3
  have q4 := blk_cell m5 4
  have q5 := blk_cell m5 5
  simp only [List.getElem?_toArray, List.getElem?_cons_zero, List.getElem?_cons_succ] at q0 q1 q2 q3 q4 q5
  have M2 := Lib.hid m2
  have M5 := Lib.hid m5
  have H3 := Lib.hid h3
  obtain ⟨u2, hu2⟩ : ∃ u, u = gv 4 s2 := ⟨_, rfl⟩
  rw [← hu2]
  clear hu2 m2 m5 h3 o3 K2 K5 H2
  go_upto_region 5 with (fail)
  obtain ⟨v2, hv2⟩ : ∃ v, v = u2 := ⟨_, rfl⟩
  rw [← hv2]
  obtain ⟨x2, hx2⟩ : ∃ x2, x2 = w3.setCell ⟨g5, 2, none⟩ (.int .i64 v2) := ⟨_, rfl⟩
  have k5 : x2.heap[g5]? = some (.cells #[.int .i64 v0, .int .i64 v1, .int .i64 v2, .int .i64 0, .slice none 0 0, .slice none 0 0] 45 (0, 0)) := by
    have := blk_set M5.out 2 (.int .i64 v2)
    simp only [List.setIfInBounds_toArray, List.set_cons_zero, List.set_cons_succ] at this
    rw [hx2]; exact this
  have k2 : x2.heap[(w.heap.size)]? = some (.cells #[.int .i64 0, .int .i64 0, .int .i64 0, .int .i64 0, .slice none 0 0, .slice none 0 0] 45 (0, 0)) := by rw [hx2]; exact (Below.heap_setCell w3 ⟨g5, 2, none⟩ _ (w.heap.size) h25).trans M2.out
  have h2 : Rs w x2 (w.heap.size + 1) s3 := by rw [hx2]; exact H3.out.other hn5 hl5 2 _
  rw [← hx2]
  have K5 := Lib.hid k5
  have K2 := Lib.hid k2
  have H2 := Lib.hid h2
  clear hv2 hx2 k5 k2 h2 M2 M5 H3 f5 q0 q1 q2 q3 q4 q5
  go_wp2_with fail
  refine (number_st w x2 (w.heap.size + 1) 4 2147483647 s3 H2.out (by omega)).mono ?_
  rintro e w3 ⟨rfl, h3, o3⟩
  rw [← HS4.out] at h3
  have m2 := o3.2 (w.heap.size) _ K2.out hn2
  have m5 := o3.2 g5 _ K5.out hn5
  have f5 := fun i => blk_frozen m5 i
  have q0 := blk_cell m5 0
  have q1 := blk_cell m5 1
  have q2 := blk_cell m5 2
  have q3 := blk_cell m5 3
  have q4 := blk_cell m5 4
  have q5 := blk_cell m5 5
  simp only [List.getElem?_toArray, List.getElem?_cons_zero, List.getElem?_cons_succ] at q0 q1 q2 q3 q4 q5
  have M2 := Lib.hid m2
  have M5 := Lib.hid m5
  have H3 := Lib.hid h3
  obtain ⟨u3, hu3⟩ : ∃ u, u = gv 4 s3 := ⟨_, rfl⟩
  rw [← hu3]
  clear hu3 m2 m5 h3 o3 K2 K5 H2
  go_upto_region 6 with (fail)
  obtain ⟨v3, hv3⟩ : ∃ v, v = u3 := ⟨_, rfl⟩
  rw [← hv3]
  obtain ⟨x3, hx3⟩ : ∃ x3, x3 = w3.setCell ⟨g5, 3, none⟩ (.int .i64 v3) := ⟨_, rfl⟩
  have k5 : x3.heap[g5]? = some (.cells #[.int .i64 v0, .int .i64 v1, .int .i64 v2, .int .i64 v3, .slice none 0 0, .slice none 0 0] 45 (0, 0)) := by
    have := blk_set M5.out 3 (.int .i64 v3)
    simp only [List.setIfInBounds_toArray, List.set_cons_zero, List.set_cons_succ] at this
    rw [hx3]; exact this
  have k2 : x3.heap[(w.heap.size)]? = some (.cells #[.int .i64 0, .int .i64 0, .int .i64 0, .int .i64 0, .slice none 0 0, .slice none 0 0] 45 (0, 0)) := by rw [hx3]; exact (Below.heap_setCell w3 ⟨g5, 3, none⟩ _ (w.heap.size) h25).trans M2.out
  have h2 : Rs w x3 (w.heap.size + 1) s4 := by rw [hx3]; exact H3.out.other hn5 hl5 3 _
  rw [← hx3]
  have K5 := Lib.hid k5
  have K2 := Lib.hid k2
  have H2 := Lib.hid h2
  clear hv3 hx3 k5 k2 h2 M2 M5 H3 f5 q0 q1 q2 q3 q4 q5
  go_wp2_with fail
  refine (number_st w x3 (w.heap.size + 1) 1 255 s4 H2.out (by omega)).mono ?_
  rintro e w3 ⟨rfl, h3, o3⟩
  rw [← HS5.out] at h3
  rw [← HN.out]
  have m2 := o3.2 (w.heap.size) _ K2.out hn2
  have m5 := o3.2 g5 _ K5.out hn5
  have M2 := Lib.hid m2
  have M5 := Lib.hid m5
  have H3 := Lib.hid h3
  clear m2 m5 h3 o3 K2 K5 H2
  go_wp2_with fail
  go_loopw [25] (fun vi wr => ∃ (i : Nat) (t : St) (xs : List Int) (A : Option Addr) (c : Nat), i ≤ N ∧ vi = .int .i64 i ∧ xs.length = i ∧ Hid (Rs w wr (w.heap.size + 1) t) ∧ Hid (wr.heap[(w.heap.size)]? = some (.cells #[.int .i64 0, .int .i64 0, .int .i64 0, .int .i64 0, .slice none 0 0, .slice none 0 0] 45 (0, 0))) ∧ Hid (wr.heap[g5]? = some (.cells #[.int .i64 v0, .int .i64 v1, .int .i64 v2, .int .i64 v3, .slice A xs.length c, .slice none 0 0] 45 (0, 0))) ∧ Hid ((Kd.int .i64).R 3 wr w.heap.size (fun j => j ≠ g5 ∧ j ≠ (w.heap.size)) (.slice A xs.length c) xs) ∧ Hid (prS (N - i) t = prS N s5)) (fun i _ => N - (intOf i).toNat)
  case atStart => exact ⟨0, s5, [], none, 0, Nat.zero_le _, rfl, rfl, H3.out, M2.out, M5.out, Kd.R_nil _ _ _ _ _, by show prS (N - 0) s5 = _; rw [Nat.sub_zero]⟩
  case round =>
    clear H3 M2 M5
    obtain ⟨i, t, xs, A, c, hi, rfl, hxl, HT, HC2, HC5, HR, HE⟩ := hrel
    have HXL := Lib.hid hxl
    clear hxl
    by_cases hiN : i < N
    · have hxs : xs.length ≤ 255 := by have := HXL.out; omega
      have f5 := fun j => blk_frozen HC5.out j
      have q0 := blk_cell HC5.out 0
      have q1 := blk_cell HC5.out 1
      have q2 := blk_cell HC5.out 2
      have q3 := blk_cell HC5.out 3
      have q4 := blk_cell HC5.out 4
      have q5 := blk_cell HC5.out 5
      simp only [List.getElem?_toArray, List.getElem?_cons_zero, List.getElem?_cons_succ] at q0 q1 q2 q3 q4 q5
      go_wp2_with fail
      go_region_law (first
        | (go_simp; go_at_call 26; refine (number_st w _ (w.heap.size + 1) 1 255 t (HT.out.below (below_drew (Below.refl _ _))) (by omega)).mono ?_; rintro e w4 ⟨rfl, h4, o4⟩; have m2 := o4.2 (w.heap.size) _ (blk_drew HC2.out) hn2; have m5 := o4.2 g5 _ (blk_drew HC5.out) hn5; have r4 := R_onlyG (by decide) (Kd.R_drew HR.out) (HT.out.below (below_drew (Below.refl _ _))) o4; obtain ⟨x, hx⟩ : ∃ x, x = gv 1 t := ⟨_, rfl⟩; rw [← hx]; have q4' := blk_cell m5 4; simp only [List.getElem?_toArray, List.getElem?_cons_zero, List.getElem?_cons_succ] at q4'; have H4 := Lib.hid h4; have M2 := Lib.hid m2; have M5 := Lib.hid m5; have R4 := Lib.hid r4; have hl54 : g5 < w4.heap.size := blk_lt m5; have hl24 : (w.heap.size) < w4.heap.size := blk_lt m2; clear h4 o4 m2 m5 r4 hx)
        | (refine Kd.R_append_step (w0 := w) (W := w4) (Kd.int .i64) w.heap.size (by rfl) _ _ 42 3 (.int .i64 0) 8 (by rfl) Try.underlying42 info3 rfl (by decide) (by decide) (.slice A xs.length c) xs x [.int .i64 x] (fun j => j ≠ g5 ∧ j ≠ (w.heap.size)) (fun _ => False) (by rfl) (by rfl) rfl (fun _ hk => hk.elim) (fun k hk => ⟨by omega, by omega⟩) R4.out H4.out.1.bel H4.out.1.bel.size (by omega) ?_; intro v5 w5 hown5 hB5 hg5 hat5; obtain ⟨A5, c5, he5⟩ := Kd.R_slice hown5; subst he5; have m5 := blk_grown (g := g5) M5.out hg5 (fun e => (R4.out.1 g5 e.symm).1 rfl); have m6 := blk_grown (g := (w.heap.size)) M2.out hg5 (fun e => (R4.out.1 (w.heap.size) e.symm).2 rfl); have q5' := blk_cell m5 4; have f5' := blk_frozen m5 4; simp only [List.getElem?_toArray, List.getElem?_cons_zero, List.getElem?_cons_succ] at q5'; have N5 := Lib.hid m5; have N2 := Lib.hid m6; clear m5 m6))
      all_goals
        have h5s := (H4.out.grownG (by decide) R4.out hg5 hB5).other hn5 hl5 4 (.slice A5 (xs ++ [x]).length c5)
        have h55 := blk_set N5.out 4 (.slice A5 (xs ++ [x]).length c5)
        have h52 := (Below.heap_setCell w5 ⟨g5, 4, none⟩ (.slice A5 (xs ++ [x]).length c5) (w.heap.size) h25).trans N2.out
        have h5r := Kd.R_far (p := ⟨g5, 4, none⟩) hown5 (fun j hj => hj.1) (.slice A5 (xs ++ [x]).length c5)
        have h5e := pr_step hiN HE.out
        have h5l : (xs ++ [x]).length = i + 1 := by rw [List.length_append, HXL.out]; rfl
        simp only [List.setIfInBounds_toArray, List.set_cons_zero, List.set_cons_succ] at h55
        have F1 := Lib.hid h5s
        have F2 := Lib.hid h52
        have F3 := Lib.hid h55
        have F4 := Lib.hid h5r
        have F5 := Lib.hid h5e
        have F6 := Lib.hid h5l
        clear h5s h52 h55 h5r h5e h5l hown5 hB5 hg5 hat5
        go_wp2
        go_roundw
        all_goals try (simp [intOf]; done)
        all_goals try (simp [intOf]; omega; done)
        all_goals (have el : xs.length + 1 = (xs ++ [x]).length := by simp)
        all_goals (rw [el])
        all_goals exact ⟨i + 1, _, xs ++ [x], A5, c5, by omega, by go_num, F6.out, F1.out, F2.out, F3.out, F4.out, F5.out⟩
    · obtain rfl : i = N := by omega
      have ht : t = s6 := by
        have := HE.out
        rw [Nat.sub_self] at this
        rw [HS6.out, ← this]; rfl
      subst ht
      clear HE HR HXL
      go_wp2_with fail
      refine (number_st w _ (w.heap.size + 1) 2 65535 t HT.out (by omega)).mono ?_
      rintro e w6 ⟨rfl, h6, o6⟩
      rw [← HS7.out] at h6
      rw [← HM.out]
      have m2 := o6.2 (w.heap.size) _ HC2.out hn2
      have m5 := o6.2 g5 _ HC5.out hn5
      have M2 := Lib.hid m2
      have M5 := Lib.hid m5
      have H6 := Lib.hid h6
      clear m2 m5 h6 o6 HC2 HC5 HT
      go_wp2_with fail
      go_loopw [37] (fun vi wr => ∃ (j : Nat) (u : St) (ys : List PRefD.S70) (A' : Option Addr) (c' : Nat), j ≤ M ∧ vi = .int .i64 j ∧ ys.length = j ∧ Hid (Rs w wr (w.heap.size + 1) u) ∧ Hid (wr.heap[w.heap.size]? = some (.cells #[.int .i64 0, .int .i64 0, .int .i64 0, .int .i64 0, .slice none 0 0, .slice none 0 0] 45 (0, 0))) ∧ Hid (wr.heap[g5]? = some (.cells #[.int .i64 v0, .int .i64 v1, .int .i64 v2, .int .i64 v3, .slice A xs.length c, .slice A' ys.length c'] 45 (0, 0))) ∧ Hid (PRefD.k70.R 70 wr w.heap.size (fun j => j ≠ g5 ∧ j ≠ w.heap.size) (.slice A' ys.length c') ys) ∧ Hid (rtS (M - j) u = rtS M s7)) (fun i _ => M - (intOf i).toNat)
      case atStart => exact ⟨0, s7, [], none, 0, Nat.zero_le _, rfl, rfl, H6.out, M2.out, M5.out, Kd.R_nil _ _ _ _ _, by show rtS (M - 0) s7 = _; rw [Nat.sub_zero]⟩
      case round =>
        clear H6 M2 M5
        obtain ⟨j, u, ys, A', c', hj, rfl, hyl, HT, HC2, HC5, HR, HE⟩ := hrel
        have HYL := Lib.hid hyl
        clear hyl
        obtain ⟨Ab, cb, hbr, _⟩ := HT.out.1.is
        have p0 := blk_cell hbr 0
        have p1 := blk_cell hbr 1
        simp only [List.getElem?_toArray, List.getElem?_cons_zero, List.getElem?_cons_succ] at p0 p1
        clear hbr
        obtain ⟨ul, ub⟩ := u
        dsimp only at p0 p1
        by_cases hjM : j < M
        · cases ub with
          | true =>
            have he := rt_end hjM HE.out
            rw [← HS8.out] at he
            have hbt : b = 2 := by rw [HBB.out, he]; rfl
            clear HBB
            subst hbt
            have t0 := blk_cell HC2.out 0
            have t1 := blk_cell HC2.out 1
            have t2 := blk_cell HC2.out 2
            have t3 := blk_cell HC2.out 3
            have t4 := blk_cell HC2.out 4
            have t5 := blk_cell HC2.out 5
            simp only [List.getElem?_toArray, List.getElem?_cons_zero, List.getElem?_cons_succ] at t0 t1 t2 t3 t4 t5
            have f2 := fun j => blk_frozen HC2.out j
            go_wp2
            (try simp only [Exit.inBlock, Exit.then])
            refine bodyPost_ret (v := .tuple #[.agg #[.int .i64 0, .int .i64 0, .int .i64 0, .int .i64 0, .slice none 0 0, .slice none 0 0], .int .i64 2]) (results_ct (fn := Try.f14) rfl _ _ (w.heap.size) 45 _ (0, 0) _ _ rfl rfl (lay6_here HC2.out _ _ _ _ _ _) Try.underlying45 rfl (by kernel_rfl)) rfl ?_
            exact ⟨_, rfl, ⟨_, _, _, _, _, _, _, _, _, _, rfl⟩, (Rs.lay6 HT.out hn2 hl2 _ _ _ _ _ _).1.bel⟩
          | false =>
            have hys : ys.length ≤ 65535 := by have := HYL.out; omega
            go_wp2_with fail
            refine (prefix_st w _ (w.heap.size + 1) (ul, false) HT.out).mono ?_
            rintro e w7 ⟨rfl, h7, o7⟩
            obtain ⟨a0, ha0⟩ : ∃ a, a = gv 8 (ul, false) := ⟨_, rfl⟩
            obtain ⟨a1, ha1⟩ : ∃ a, a = gv 8 (gs 8 (ul, false)) := ⟨_, rfl⟩
            obtain ⟨a2, ha2⟩ : ∃ a, a = gv 1 (ads (ul, false)) := ⟨_, rfl⟩
            rw [← ha0, ← ha1, ← ha2]
            have m2 := o7.2 (w.heap.size) _ HC2.out hn2
            have m5 := o7.2 g5 _ HC5.out hn5
            have r7 := R_onlyG (by decide) HR.out HT.out o7
            have M2 := Lib.hid m2
            have M5 := Lib.hid m5
            have R7 := Lib.hid r7
            have H7 := Lib.hid h7
            clear ha0 ha1 ha2 m2 m5 r7 h7 o7 HC2 HC5 HR HT p0 p1
            go_upto_region 14 with (fail)
            obtain ⟨w8, hw8⟩ : ∃ w8, w8 = w7.alloc (.cells #[.int .u64 a0, .int .u64 a1, .int .i64 a2] 26 (0, 0)) := ⟨_, rfl⟩
            obtain ⟨g6, hg6⟩ : ∃ g, g = w7.heap.size := ⟨_, rfl⟩
            have k6 : w8.heap[g6]? = some (.cells #[.int .u64 a0, .int .u64 a1, .int .i64 a2] 26 (0, 0)) := by rw [hw8, hg6]; exact blk_new _ _
            have m2 := blk_alloc M2.out (.cells #[.int .u64 a0, .int .u64 a1, .int .i64 a2] 26 (0, 0))
            have m5 := blk_alloc M5.out (.cells #[.int .u64 a0, .int .u64 a1, .int .i64 a2] 26 (0, 0))
            have r8 := Kd.R_alloc R7.out (.cells #[.int .u64 a0, .int .u64 a1, .int .i64 a2] 26 (0, 0))
            have h8 := H7.out.below (below_alloc (Below.refl _ _) (.cells #[.int .u64 a0, .int .u64 a1, .int .i64 a2] 26 (0, 0)))
            have hn6 : g6 ≠ w.heap.size + 1 := by have := H7.out.1.lt; omega
            rw [← hw8] at m2 m5 r8 h8
            rw [← hw8, ← hg6]
            have m6 := blk_drew k6
            have K2 := Lib.hid (blk_drew m2)
            have K5 := Lib.hid (blk_drew m5)
            have K6 := Lib.hid m6
            have R8 := Lib.hid (Kd.R_drew r8)
            have H8 := Lib.hid (h8.below (below_drew (Below.refl _ _)))
            have f5 := fun j => blk_frozen K5.out j
            have q0 := blk_cell K5.out 0
            have q1 := blk_cell K5.out 1
            have q2 := blk_cell K5.out 2
            have q3 := blk_cell K5.out 3
            have q4 := blk_cell K5.out 4
            have q5 := blk_cell K5.out 5
            simp only [List.getElem?_toArray, List.getElem?_cons_zero, List.getElem?_cons_succ] at q0 q1 q2 q3 q4 q5
            have s0 := blk_cell K6.out 0
            have s1 := blk_cell K6.out 1
            have s2 := blk_cell K6.out 2
            simp only [List.getElem?_toArray, List.getElem?_cons_zero, List.getElem?_cons_succ] at s0 s1 s2
            clear hw8 hg6 k6 m2 m5 m6 r8 h8 M2 M5 R7 H7
            go_region_law (first
              | (go_simp; go_at_call 26; refine (number_st w _ (w.heap.size + 1) 4 2147483647 (ps (ul, false)) H8.out (by omega)).mono ?_; rintro e w9 ⟨rfl, h9, o9⟩; have m2 := o9.2 (w.heap.size) _ K2.out hn2; have m5 := o9.2 g5 _ K5.out hn5; have m6 := o9.2 g6 _ K6.out hn6; have r9 := R_onlyG (by decide) R8.out H8.out o9; obtain ⟨x, hx⟩ : ∃ x, x = gv 4 (ps (ul, false)) := ⟨_, rfl⟩; rw [← hx]; have q5' := blk_cell m5 5; have s0' := blk_cell m6 0; have s1' := blk_cell m6 1; have s2' := blk_cell m6 2; simp only [List.getElem?_toArray, List.getElem?_cons_zero, List.getElem?_cons_succ] at q5' s0' s1' s2'; have H9 := Lib.hid h9; have L2 := Lib.hid m2; have L5 := Lib.hid m5; have R9 := Lib.hid r9; have hl54 : g5 < w9.heap.size := blk_lt m5; have hl24 : w.heap.size < w9.heap.size := blk_lt m2; clear h9 o9 m2 m5 m6 r9 hx)
              | (refine Kd.R_append_step (w0 := w) (W := w9) PRefD.k70 w.heap.size (by rfl) _ _ 43 70 (.agg #[.int .u64 0, .int .u64 0, .int .i64 0, .int .i64 0]) 32 (by rfl) Try.underlying43 info70 rfl (by decide) (by decide) (.slice A' ys.length c') ys (PRefD.S70.mk ⟨⟨a0, a1⟩, a2⟩ x) [.int .u64 a0, .int .u64 a1, .int .i64 a2, .int .i64 x] (fun j => j ≠ g5 ∧ j ≠ w.heap.size) (fun _ => False) (by rfl) (by rfl) (PRefD.k70_mkM _ _ _ (PRefD.S70.mk ⟨⟨a0, a1⟩, a2⟩ x)) (fun _ hk => hk.elim) (fun k hk => ⟨by omega, by omega⟩) R9.out H9.out.1.bel H9.out.1.bel.size (by omega) ?_; intro v5 w5 hown5 hB5 hg5 hat5; obtain ⟨A5, c5, he5⟩ := Kd.R_slice hown5; subst he5; have m5 := blk_grown (g := g5) L5.out hg5 (fun e => (R9.out.1 g5 e.symm).1 rfl); have m6 := blk_grown (g := w.heap.size) L2.out hg5 (fun e => (R9.out.1 (w.heap.size) e.symm).2 rfl); have q5'' := blk_cell m5 5; have f5' := blk_frozen m5 5; simp only [List.getElem?_toArray, List.getElem?_cons_zero, List.getElem?_cons_succ] at q5''; have N5 := Lib.hid m5; have N2 := Lib.hid m6; clear m5 m6))
            all_goals
              have h5s := (H9.out.grownG (by decide) R9.out hg5 hB5).other hn5 hl5 5 (.slice A5 (ys ++ [(PRefD.S70.mk ⟨⟨a0, a1⟩, a2⟩ x)]).length c5)
              have h55 := blk_set N5.out 5 (.slice A5 (ys ++ [(PRefD.S70.mk ⟨⟨a0, a1⟩, a2⟩ x)]).length c5)
              have h52 := (Below.heap_setCell w5 ⟨g5, 5, none⟩ (.slice A5 (ys ++ [(PRefD.S70.mk ⟨⟨a0, a1⟩, a2⟩ x)]).length c5) (w.heap.size) h25).trans N2.out
              have h5r := Kd.R_far (p := ⟨g5, 5, none⟩) hown5 (fun j hj => hj.1) (.slice A5 (ys ++ [(PRefD.S70.mk ⟨⟨a0, a1⟩, a2⟩ x)]).length c5)
              have h5e := rt_step hjM HE.out
              have h5l : (ys ++ [((PRefD.S70.mk ⟨⟨a0, a1⟩, a2⟩ x) : PRefD.S70)]).length = j + 1 := by rw [List.length_append, HYL.out]; rfl
              simp only [List.setIfInBounds_toArray, List.set_cons_zero, List.set_cons_succ] at h55
              have F1 := Lib.hid h5s
              have F2 := Lib.hid h52
              have F3 := Lib.hid h55
              have F4 := Lib.hid h5r
              have F5 := Lib.hid h5e
              have F6 := Lib.hid h5l
              clear h5s h52 h55 h5r h5e h5l hown5 hB5 hg5 hat5
              go_wp2
              go_roundw
              all_goals try (simp [intOf]; done)
              all_goals try (simp [intOf]; omega; done)
              all_goals (have el : ys.length + 1 = (ys ++ [((PRefD.S70.mk ⟨⟨a0, a1⟩, a2⟩ x) : PRefD.S70)]).length := by simp)
              all_goals (rw [el])
              all_goals exact ⟨j + 1, _, ys ++ [(PRefD.S70.mk ⟨⟨a0, a1⟩, a2⟩ x)], A5, c5, by omega, by go_num, F6.out, F1.out, F2.out, F3.out, F4.out, F5.out⟩
        · obtain rfl : j = M := by omega
          have he : s8 = (ul, ub) := by
            have := HE.out
            rw [Nat.sub_self] at this
            rw [HS8.out, ← this]; rfl
          cases ub with
          | true =>
            have hbt : b = 2 := by rw [HBB.out, he]; rfl
            clear HBB
            subst hbt
            have t0 := blk_cell HC2.out 0
            have t1 := blk_cell HC2.out 1
            have t2 := blk_cell HC2.out 2
            have t3 := blk_cell HC2.out 3
            have t4 := blk_cell HC2.out 4
            have t5 := blk_cell HC2.out 5
            simp only [List.getElem?_toArray, List.getElem?_cons_zero, List.getElem?_cons_succ] at t0 t1 t2 t3 t4 t5
            have f2 := fun j => blk_frozen HC2.out j
            go_wp2
            (try simp only [Exit.inBlock, Exit.then])
            refine bodyPost_ret (v := .tuple #[.agg #[.int .i64 0, .int .i64 0, .int .i64 0, .int .i64 0, .slice none 0 0, .slice none 0 0], .int .i64 2]) (results_ct (fn := Try.f14) rfl _ _ (w.heap.size) 45 _ (0, 0) _ _ rfl rfl (lay6_here HC2.out _ _ _ _ _ _) Try.underlying45 rfl (by kernel_rfl)) rfl ?_
            exact ⟨_, rfl, ⟨_, _, _, _, _, _, _, _, _, _, rfl⟩, (Rs.lay6 HT.out hn2 hl2 _ _ _ _ _ _).1.bel⟩
          | false =>
            cases ul with
            | nil =>
              have hbt : b = 0 := by rw [HBB.out, he]; rfl
              clear HBB
              subst hbt
              have q0 := blk_cell HC5.out 0
              have q1 := blk_cell HC5.out 1
              have q2 := blk_cell HC5.out 2
              have q3 := blk_cell HC5.out 3
              have q4 := blk_cell HC5.out 4
              have q5 := blk_cell HC5.out 5
              simp only [List.getElem?_toArray, List.getElem?_cons_zero, List.getElem?_cons_succ] at q0 q1 q2 q3 q4 q5
              have t0 := blk_cell HC2.out 0
              have t1 := blk_cell HC2.out 1
              have t2 := blk_cell HC2.out 2
              have t3 := blk_cell HC2.out 3
              have t4 := blk_cell HC2.out 4
              have t5 := blk_cell HC2.out 5
              simp only [List.getElem?_toArray, List.getElem?_cons_zero, List.getElem?_cons_succ] at t0 t1 t2 t3 t4 t5
              have f2 := fun j => blk_frozen HC2.out j
              go_wp2
              (try simp only [Exit.inBlock, Exit.then])
              refine bodyPost_ret (v := .tuple #[.agg #[.int .i64 v0, .int .i64 v1, .int .i64 v2, .int .i64 v3, .slice A xs.length c, .slice A' ys.length c'], .int .i64 0]) (results_ct (fn := Try.f14) rfl _ _ (w.heap.size) 45 _ (0, 0) _ _ rfl rfl (lay6_here HC2.out _ _ _ _ _ _) Try.underlying45 rfl (by kernel_rfl)) rfl ?_
              exact ⟨_, rfl, ⟨_, _, _, _, _, _, _, _, _, _, rfl⟩, (Rs.lay6 HT.out hn2 hl2 _ _ _ _ _ _).1.bel⟩
            | cons z0 ul =>
              have hbt : b = 2 := by rw [HBB.out, he]; rfl
              clear HBB
              subst hbt
              have hp : (0 : Int) < (ul.length : Int) + 1 := by omega
              have t0 := blk_cell HC2.out 0
              have t1 := blk_cell HC2.out 1
              have t2 := blk_cell HC2.out 2
              have t3 := blk_cell HC2.out 3
              have t4 := blk_cell HC2.out 4
              have t5 := blk_cell HC2.out 5
              simp only [List.getElem?_toArray, List.getElem?_cons_zero, List.getElem?_cons_succ] at t0 t1 t2 t3 t4 t5
              have f2 := fun j => blk_frozen HC2.out j
              go_wp2
              (try simp only [Exit.inBlock, Exit.then])
              refine bodyPost_ret (v := .tuple #[.agg #[.int .i64 0, .int .i64 0, .int .i64 0, .int .i64 0, .slice none 0 0, .slice none 0 0], .int .i64 2]) (results_ct (fn := Try.f14) rfl _ _ (w.heap.size) 45 _ (0, 0) _ _ rfl rfl (lay6_here HC2.out _ _ _ _ _ _) Try.underlying45 rfl (by kernel_rfl)) rfl ?_
              exact ⟨_, rfl, ⟨_, _, _, _, _, _, _, _, _, _, rfl⟩, (Rs.lay6 HT.out hn2 hl2 _ _ _ _ _ _).1.bel⟩
end Go.Proofs.Ytliighhedmfgjaa.Cmd
