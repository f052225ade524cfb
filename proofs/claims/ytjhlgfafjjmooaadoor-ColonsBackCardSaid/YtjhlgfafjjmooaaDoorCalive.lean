/- Package colons: what Read answers. Package colons: how a prefix is written. The laws of chapter 3: their example. -/
import Derived.Test.YtjhlgfafjjmooaaDoorCaddr
import Derived.Test.YtjhlgfafjjmooaaDoorClist
import Derived.Test.YtjhlgfafjjmooaaDoorPlWords
namespace Go.Proofs.YtjhlgfafjjmooaaDoor.Dot
open Go.RowKit Go.Proofs.YtjhlgfafjjmooaaDoor.PCidrTells Go.Proofs.YtjhlgfafjjmooaaDoorW.PrintWords Go.Proofs.YtjhlgfafjjmooaaDoorW.PrintLast Go.Proofs.YtjhlgfafjjmooaaDoorW.PrintMore

/-- What Read answers: the prefix's three numbers and the error. -/
def readC (s : ByteArray) : Option (Int × Int × Int × Int) :=
  match addrX (leftB s) with
  | (hi, lo, b) => if (okB s && (b && numB (rightB s).data.toList 128)) = true then cidr_Length.f hi lo (numV (rightB s).data.toList) else some (0, 0, 0, 2)

set_option maxRecDepth 20000 in
set_option maxHeartbeats 4000000 in
theorem readC_is (s : ByteArray) (r1 r2 r3 r4 : Int) (w : World) (hE : Env w) (hs : s.size < 900000) (hr : readC s = some (r1, r2, r3, r4)) :
    Calls Tryd.prog 18 #[.string s] w fun e w' => e = .returned (.tuple #[.agg #[.int .u64 r1, .int .u64 r2, .int .i64 r3], .int .i64 r4]) ∧ Below w.heap.size w w' := by
  have HE := Lib.hid hE
  have HR := Lib.hid hr
  clear hE hr
  go_enter Tryd.func18, Tryd.ntmps18
  go_wp2_with fail
  obtain ⟨w1, hw1⟩ : ∃ w1, w1 = w.alloc (.cells #[.int .u64 0, .int .u64 0, .int .i64 0] 26 (0, 0)) := ⟨_, rfl⟩
  have k1 : w1.heap[w.heap.size]? = some (.cells #[.int .u64 0, .int .u64 0, .int .i64 0] 26 (0, 0)) := by rw [hw1]; exact blk_new _ _
  have b1 : Below w.heap.size w w1 := by rw [hw1]; exact below_alloc (Below.refl _ _) _
  rw [← hw1]
  clear hw1
  have E1 := Lib.hid (HE.out.below b1)
  have B1 := Lib.hid b1
  have K1 := Lib.hid k1
  clear b1 k1 HE
  obtain ⟨m, hm⟩ := E1.out.m
  refine (Tryd.strings_Cut s ⟨#[47]⟩ m w1 (by omega) hm).mono ?_
  rintro e w2 ⟨rfl, n2, hw2⟩
  have b2 : Below w1.heap.size w1 w2 := by rw [hw2]; exact pw_below_drewN (Below.refl _ _) n2
  have E2 := Lib.hid (E1.out.below b2)
  have B2 := Lib.hid (B1.out.trans (b2.mono B1.out.size))
  have K2 := Lib.hid (blk_below K1.out b2)
  have el : ({ data := (Lib.cut s.data.toList (⟨#[47]⟩ : ByteArray).data.toList).1.toArray } : ByteArray) = leftB s := rfl
  have er : ({ data := (Lib.cut s.data.toList (⟨#[47]⟩ : ByteArray).data.toList).2.1.toArray } : ByteArray) = rightB s := rfl
  have eo : (Lib.cut s.data.toList (⟨#[47]⟩ : ByteArray).data.toList).2.2 = okB s := rfl
  rw [el, er, eo]
  have hls := left_size s
  have hrs := right_size s
  have hR2 := HR.out
  unfold readC at hR2
  obtain ⟨lb, hlb⟩ : ∃ lb, lb = leftB s := ⟨_, rfl⟩
  obtain ⟨rb, hrb⟩ : ∃ rb, rb = rightB s := ⟨_, rfl⟩
  obtain ⟨ok, hok⟩ : ∃ ok, ok = okB s := ⟨_, rfl⟩
  rw [← hlb] at hls hR2 ⊢
  rw [← hrb] at hrs hR2 ⊢
  rw [← hok] at hR2 ⊢
  obtain ⟨⟨hi, lo, b⟩, hab⟩ : ∃ x, addrX lb = x := ⟨_, rfl⟩
  rw [hab] at hR2
  have HAB := Lib.hid hab
  have HR2 := Lib.hid (show (if (ok && (b && numB rb.data.toList 128)) = true then cidr_Length.f hi lo (numV rb.data.toList) else some (0, 0, 0, 2)) = some (r1, r2, r3, r4) from hR2)
  clear el er eo hlb hrb hok HR hR2 hw2 b2 E1 B1 K1 hm hab
  go_wp2_with fail
  refine (address_is lb hi lo b w2 E2.out (by omega) HAB.out).mono ?_
  rintro e w3 ⟨rfl, b3⟩
  obtain ⟨w4, hw4⟩ : ∃ w4, w4 = w3.alloc (.cells #[.int .u64 hi, .int .u64 lo] 24 (0, 0)) := ⟨_, rfl⟩
  have b4 : Below w2.heap.size w2 w4 := by rw [hw4]; exact below_alloc b3 _
  have x4 : w4.heap[w3.heap.size]? = some (.cells #[.int .u64 hi, .int .u64 lo] 24 (0, 0)) := by rw [hw4]; exact blk_new _ _
  have E4 := Lib.hid (E2.out.below b4)
  have B4 := Lib.hid (B2.out.trans (b4.mono B2.out.size))
  have K4 := Lib.hid (blk_below K2.out b4)
  have X4 := Lib.hid x4
  clear b3 b4 x4 E2 B2 K2 HAB
  go_upto_region 3 with (fail)
  rw [← hw4]
  clear hw4
  go_wp2_with fail
  refine (number_is rb 128 w4 E4.out (by omega)).mono ?_
  rintro e w5 ⟨rfl, b5⟩
  have E5 := Lib.hid (E4.out.below b5)
  have B5 := Lib.hid (B4.out.trans (b5.mono B4.out.size))
  have K5 := Lib.hid (blk_below K4.out b5)
  have X5 := Lib.hid (blk_below X4.out b5)
  obtain ⟨n, hn⟩ : ∃ n, n = numV rb.data.toList := ⟨_, rfl⟩
  obtain ⟨nb, hnb⟩ : ∃ nb, nb = numB rb.data.toList 128 := ⟨_, rfl⟩
  have hR := HR2.out
  rw [← hn, ← hnb] at hR ⊢
  have HR := Lib.hid hR
  clear HR2 hR hn hnb b5 E4 B4 K4 X4
  go_upto_region 4 with (fail)
  by_cases hc : (ok && (b && nb)) = false
  · have hz := HR.out
    rw [hc, if_neg Bool.false_ne_true] at hz
    clear HR
    simp only [Option.some.injEq, Prod.mk.injEq] at hz
    obtain ⟨rfl, rfl, rfl, rfl⟩ := hz
    have q0 := blk_cell K5.out 0
    have q1 := blk_cell K5.out 1
    have q2 := blk_cell K5.out 2
    simp only [List.getElem?_toArray, List.getElem?_cons_zero, List.getElem?_cons_succ] at q0 q1 q2
    have f2 := fun i => blk_frozen K5.out i
    cases ok with
    | false =>
      clear hc
      go_wp2
      (try simp only [Exit.inBlock, Exit.then])
      refine bodyPost_ret (v := .tuple #[.agg #[.int .u64 0, .int .u64 0, .int .i64 0], .int .i64 2]) (results_ct (fn := Tryd.f18) rfl _ _ w.heap.size 26 _ (0, 0) _ _ rfl rfl (lay3_here K5.out _ _ _) Tryd.underlying26 rfl (by kernel_rfl)) rfl ?_
      exact ⟨rfl, below3 B5.out _ _ _⟩
    | true =>
      cases b with
      | false =>
        clear hc
        go_wp2
        (try simp only [Exit.inBlock, Exit.then])
        refine bodyPost_ret (v := .tuple #[.agg #[.int .u64 0, .int .u64 0, .int .i64 0], .int .i64 2]) (results_ct (fn := Tryd.f18) rfl _ _ w.heap.size 26 _ (0, 0) _ _ rfl rfl (lay3_here K5.out _ _ _) Tryd.underlying26 rfl (by kernel_rfl)) rfl ?_
        exact ⟨rfl, below3 B5.out _ _ _⟩
      | true =>
        have hnb : nb = false := by simpa using hc
        clear hc
        subst hnb
        go_wp2
        (try simp only [Exit.inBlock, Exit.then])
        refine bodyPost_ret (v := .tuple #[.agg #[.int .u64 0, .int .u64 0, .int .i64 0], .int .i64 2]) (results_ct (fn := Tryd.f18) rfl _ _ w.heap.size 26 _ (0, 0) _ _ rfl rfl (lay3_here K5.out _ _ _) Tryd.underlying26 rfl (by kernel_rfl)) rfl ?_
        exact ⟨rfl, below3 B5.out _ _ _⟩
  · have hc' : (ok && (b && nb)) = true := by
      cases h : (ok && (b && nb)) with
      | true => rfl
      | false => exact absurd h hc
    have hz := HR.out
    rw [hc', if_pos rfl] at hz
    simp only [Bool.and_eq_true] at hc'
    obtain ⟨rfl, rfl, rfl⟩ := hc'
    have HZ := Lib.hid hz
    clear HR hz hc
    have x0 := blk_cell X5.out 0
    have x1 := blk_cell X5.out 1
    simp only [List.getElem?_toArray, List.getElem?_cons_zero, List.getElem?_cons_succ] at x0 x1
    go_wp2_with fail
    refine (cidr_Length.calls hi lo n r1 r2 r3 r4 w5 HZ.out).mono ?_
    rintro e w6 ⟨rfl, b6⟩
    have k6 := blk_below K5.out b6
    have q0 := blk_cell k6 0
    have q1 := blk_cell k6 1
    have q2 := blk_cell k6 2
    simp only [List.getElem?_toArray, List.getElem?_cons_zero, List.getElem?_cons_succ] at q0 q1 q2
    have f2 := fun i => blk_frozen k6 i
    have K6 := Lib.hid k6
    have B6 := Lib.hid (B5.out.trans (b6.mono B5.out.size))
    clear k6 b6 HZ B5 K5 X5
    go_wp2
    (try simp only [Exit.inBlock, Exit.then])
    refine bodyPost_ret (v := .tuple #[.agg #[.int .u64 r1, .int .u64 r2, .int .i64 r3], .int .i64 r4]) (results_ct (fn := Tryd.f18) rfl _ _ w.heap.size 26 _ (0, 0) _ _ rfl rfl (lay3_here K6.out _ _ _) Tryd.underlying26 rfl (by kernel_rfl)) rfl ?_
    exact ⟨rfl, below3 B6.out _ _ _⟩


/-- The numbers, where the longest row of zeros is left out. -/
def gapT (ws : List Nat) (f t : Nat) : ByteArray := if 1 < t - f then joinB (ws.take f) ++ ⟨#[58, 58]⟩ ++ joinB (ws.drop t) else joinB ws
def showCT (ws : List Nat) (f t : Nat) (n : Int) : ByteArray := gapT ws f t ++ ⟨#[47]⟩ ++ txt n
theorem joinB_size (ns : List Nat) : (joinB ns).size ≤ 5 * ns.length := by unfold joinB; rw [ba_size]; exact joinL_len ns
theorem itoa_short {n : Int} (h0 : 0 ≤ n) (h1 : n < 256) : (txt n).size ≤ 3 := by unfold txt; rw [ba_size]; exact itoa_byte h0 h1
theorem right_bounds {hi lo n : Int} (h : addr_Right.f hi lo n = some true) : 0 ≤ n ∧ n ≤ 128 := by
  unfold addr_Right.f at h
  by_cases h0 : n ≥ 0
  · rw [if_pos h0] at h
    by_cases h1 : n ≤ 128
    · exact ⟨h0, h1⟩
    · rw [if_neg h1] at h; cases h
  · rw [if_neg h0] at h; cases h

theorem join_at (A : Option Addr) (c m : Nat) (ns : List Nat) (hm : ns.length = m) (w : World) (h : Env2 w) (hC : Kd.C (Kd.int .u64) w A m (ints ns)) (hlen : m ≤ 8) (hb : ∀ n ∈ ns, n < 65536) :
    Calls Tryd.prog 41 #[.slice A m c] w fun e w' => e = .returned (.string (joinB ns)) ∧ Below w.heap.size w w' := by
  subst hm
  exact join_is A c ns w h hC hlen hb
theorem zeros_at (K : Nat) (A : Option Addr) (c m : Nat) (ns : List Nat) (f t : Int) (hm : ns.length = m) (w : World) (hC : Kd.C (Kd.int .u64) w A m (ints ns)) (hc : m ≤ c) (h : colons_zeros.f K (ints ns) = some (f, t)) :
    Calls Tryd.prog 42 #[.slice A m c] w fun e w' => e = .returned (.tuple #[.int .i64 f, .int .i64 t]) ∧ Drawn0 w w' := by
  subst hm
  have e : ns.length = (ints ns).length := (ints_len ns).symm
  rw [e] at hC hc ⊢
  exact colons_zeros.calls K A c (ints ns) f t w hC hc h

set_option maxRecDepth 20000 in
set_option maxHeartbeats 4000000 in
theorem showC_is (hi lo n : Int) (b : Bool) (ws : List Nat) (f t K : Nat) (w : World) (hE : Env2 w) (hb : addr_Right.f hi lo n = some b) (hsp : colons_split.f K hi lo = some (ints ws)) (hz : colons_zeros.f K (ints ws) = some ((f : Int), (t : Int)))
    (hft : f ≤ t) (ht : t ≤ 8) (hwl : ws.length = 8) (hlt : ∀ v ∈ ws, v < 65536) (hn : -9223372036854775808 ≤ n ∧ n ≤ 9223372036854775807) :
    Calls Tryd.prog 21 #[.agg #[.int .u64 hi, .int .u64 lo, .int .i64 n]] w fun e w' => e = .returned (.string (if b = true then showCT ws f t n else ByteArray.empty)) ∧ Below w.heap.size w w' := by
  have H0 := Lib.hid hE
  have HRT := Lib.hid hb
  have HSP := Lib.hid hsp
  have HZ := Lib.hid hz
  have HWL := Lib.hid hwl
  have HLT := Lib.hid hlt
  have HNB := Lib.hid (show b = true → 0 ≤ n ∧ n ≤ 128 from fun e => right_bounds (by rw [← e]; exact hb))
  obtain ⟨r, hr⟩ : ∃ r, r = (if b = true then showCT ws f t n else ByteArray.empty) := ⟨_, rfl⟩
  rw [← hr]
  have HR := Lib.hid hr
  clear hE hb hsp hz hwl hlt hr
  go_enter Tryd.func21, Tryd.ntmps21
  go_wp2_with fail
  obtain ⟨w1, hw1⟩ : ∃ w1, w1 = w.alloc (.cells #[.int .u64 hi, .int .u64 lo, .int .i64 n] 26 (0, 0)) := ⟨_, rfl⟩
  have k1 : w1.heap[w.heap.size]? = some (.cells #[.int .u64 hi, .int .u64 lo, .int .i64 n] 26 (0, 0)) := by rw [hw1]; exact blk_new _ _
  have b1 : Below w.heap.size w w1 := by rw [hw1]; exact below_alloc (Below.refl _ _) _
  rw [← hw1]
  clear hw1
  have q0 := blk_cell k1 0
  have q1 := blk_cell k1 1
  have q2 := blk_cell k1 2
  simp only [List.getElem?_toArray, List.getElem?_cons_zero, List.getElem?_cons_succ] at q0 q1 q2
  have B1 := Lib.hid b1
  have K1 := Lib.hid k1
  clear b1 k1
  go_wp2_with fail
  refine (addr_Right.calls hi lo n b w1 HRT.out).mono ?_
  rintro e w2 ⟨rfl, b2⟩
  have B2 := Lib.hid (B1.out.trans (b2.mono B1.out.size))
  have K2 := Lib.hid (blk_below K1.out b2)
  have s0 := blk_cell K2.out 0
  have s1 := blk_cell K2.out 1
  have s2 := blk_cell K2.out 2
  simp only [List.getElem?_toArray, List.getElem?_cons_zero, List.getElem?_cons_succ] at s0 s1 s2
  clear q0 q1 q2 B1 K1 b2 HRT
  cases b with
  | false =>
    have hrr : r = ByteArray.empty := HR.out
    clear HR
    subst hrr
    go_wp2
    go_ret
    exact ⟨rfl, B2.out⟩
  | true =>
    have HR2 := Lib.hid (show r = showCT ws f t n from HR.out)
    clear HR
    go_wp2_with fail
    refine (colons_split.calls K hi lo (ints ws) w2 HSP.out).mono ?_
    rintro e w3 ⟨v3, rfl, r3, b3⟩
    obtain ⟨A, c, hv3⟩ := Kd.R_slice r3
    subst hv3
    obtain ⟨_, hc3, C3⟩ := Kd.R_reads' r3
    rw [ints_len, HWL.out] at hc3 C3 ⊢
    have B3 := Lib.hid (B2.out.trans (b3.mono B2.out.size))
    have K3 := Lib.hid (blk_below K2.out b3)
    have CH3 := Lib.hid C3
    clear r3 b3 C3 B2 K2 s0 s1 s2 HSP
    have H3 := Lib.hid (H0.out.below B3.out)
    go_wp2_with fail
    refine (join_at A c 8 ws HWL.out w3 H3.out CH3.out (Nat.le_refl _) HLT.out).mono ?_
    rintro e w4 ⟨rfl, b4⟩
    have B4 := Lib.hid (B3.out.trans (b4.mono B3.out.size))
    have K4 := Lib.hid (blk_below K3.out b4)
    have CH4 := Lib.hid (Kd.C_below CH3.out b4)
    obtain ⟨js, hjs⟩ : ∃ js, js = joinB ws := ⟨_, rfl⟩
    rw [← hjs]
    have HJS := Lib.hid hjs
    have hjz : js.size ≤ 40 := by rw [hjs]; have := joinB_size ws; rw [HWL.out] at this; omega
    clear b4 B3 K3 CH3 hjs H3
    go_wp2_with fail
    refine (zeros_at K A c 8 ws f t HWL.out w4 CH4.out hc3 HZ.out).mono ?_
    rintro e w5 ⟨rfl, n5, hw5⟩
    have b5 : Below w4.heap.size w4 w5 := by rw [hw5]; exact pw_below_drewN (Below.refl _ _) n5
    have B5 := Lib.hid (B4.out.trans (b5.mono B4.out.size))
    have K5 := Lib.hid (blk_below K4.out b5)
    have CH5 := Lib.hid (Kd.C_below CH4.out b5)
    clear hw5 b5 B4 K4 CH4 HZ
    obtain ⟨hn0, hn1⟩ := HNB.out trivial
    have htz := itoa_short hn0 (show n < 256 by omega)
    obtain ⟨tn, htn⟩ : ∃ tn, tn = txt n := ⟨_, rfl⟩
    rw [← htn] at htz
    have HTN := Lib.hid htn
    clear htn
    by_cases hgap : 1 < t - f
    · have hfin : r = joinB (ws.take f) ++ ⟨#[58, 58]⟩ ++ joinB (ws.drop t) ++ ⟨#[47]⟩ ++ tn := by rw [HR2.out, HTN.out]; unfold showCT gapT; rw [if_pos hgap]
      have HFIN := Lib.hid hfin
      clear HR2 hfin
      have hcond : ((t : Int) - (f : Int)) > 1 := by omega
      obtain ⟨l1, hl1⟩ : ∃ l1, l1 = ws.take f := ⟨_, rfl⟩
      obtain ⟨l2, hl2⟩ : ∃ l2, l2 = ws.drop t := ⟨_, rfl⟩
      have hz1 : l1.length = f := by rw [hl1, List.length_take, HWL.out]; omega
      have hz2 : l2.length = 8 - t := by rw [hl2, List.length_drop, HWL.out]
      obtain ⟨A2, hA2⟩ : ∃ A2 : Option Addr, A2 = if c = t then A else A.map (·.add (t * 1)) := ⟨_, rfl⟩
      obtain ⟨i22, hi22⟩ : ∃ i, Tryd.prog.info? 22 = some i := by
        cases h : Tryd.prog.info? 22 with
        | some i => exact ⟨i, rfl⟩
        | none => have := info22; rw [h] at this; cases this
      have hsz22 : i22.size = 1 := by have := info22; rw [hi22] at this; simp only [Option.map_some, Option.some.injEq, Prod.mk.injEq] at this; exact this.2.1
      have hs1 : ∀ W : World, (Instr.slice 61 (.slice A 8 c) none (some (.int .i64 (f : Int))) none).run Tryd.prog W = .ok (.slice A f c) W := by
        have := cut_to (P := Tryd.prog) 61 22 .i64 Tryd.underlying61 hi22 A 8 c (f : Int) (by omega) (by omega) hc3
        rw [Int.toNat_natCast] at this
        exact this
      have hs2 : ∀ W : World, (Instr.slice 61 (.slice A 8 c) (some (.int .i64 (t : Int))) none none).run Tryd.prog W = .ok (.slice A2 (8 - t) (c - t)) W := by
        have := cut_from (P := Tryd.prog) 61 22 .i64 Tryd.underlying61 hi22 1 hsz22 A 8 c (t : Int) (by omega) (by omega)
        rw [Int.toNat_natCast, ← hA2] at this
        exact this
      have hC5 : Kd.C (Kd.int .u64) w5 A (ints ws).length (ints ws) := by rw [ints_len, HWL.out]; exact CH5.out
      have e1 : (ints ws).take f = ints l1 := by rw [hl1]; unfold ints; rw [List.map_take]
      have e2 : (ints ws).drop t = ints l2 := by rw [hl2]; unfold ints; rw [List.map_drop]
      have C1 := Lib.hid (show Kd.C (Kd.int .u64) w5 A f (ints l1) by
        have := Kd.C_take (m := f) hC5 (by rw [ints_len, HWL.out]; omega)
        rw [e1, ints_len, hz1] at this
        exact this)
      have C2 := Lib.hid (show Kd.C (Kd.int .u64) w5 A2 (8 - t) (ints l2) by
        have := Kd.C_drop (m := t) (c := c) hC5 (by rw [ints_len, HWL.out]; omega) (by rw [ints_len, HWL.out]; exact hc3)
        rw [e2, ints_len, hz2] at this
        rw [hA2]
        exact this)
      have LT1 := Lib.hid (show ∀ v ∈ l1, v < 65536 by rw [hl1]; exact fun v hv => HLT.out v (List.mem_of_mem_take hv))
      have LT2 := Lib.hid (show ∀ v ∈ l2, v < 65536 by rw [hl2]; exact fun v hv => HLT.out v (List.mem_of_mem_drop hv))
      obtain ⟨j1, hj1⟩ : ∃ j, j = joinB l1 := ⟨_, rfl⟩
      obtain ⟨j2, hj2⟩ : ∃ j, j = joinB l2 := ⟨_, rfl⟩
      have hj1z : j1.size ≤ 40 := by rw [hj1]; have := joinB_size l1; omega
      have hj2z : j2.size ≤ 40 := by rw [hj2]; have := joinB_size l2; omega
      have HJ1 := Lib.hid hj1
      have HJ2 := Lib.hid hj2
      have HF2 := Lib.hid (show r = j1 ++ ⟨#[58, 58]⟩ ++ j2 ++ ⟨#[47]⟩ ++ tn by rw [HFIN.out, hj1, hj2, hl1, hl2])
      have HZ1 := Lib.hid hz1
      have HZ2 := Lib.hid hz2
      clear HFIN hl1 hl2 hz1 hz2 hA2 hi22 hsz22 hC5 e1 e2 hj1 hj2 CH5
      have g1 : ¬ (9223372036854775807 < j1.size + 2) := by omega
      have g2 : ¬ (9223372036854775807 < j1.size + 2 + j2.size) := by omega
      have g3 : ¬ (9223372036854775807 < j1.size + 2 + j2.size + 1) := by omega
      have g4 : ¬ (9223372036854775807 < j1.size + 2 + j2.size + 1 + tn.size) := by omega
      have H5 := Lib.hid (H0.out.below B5.out)
      go_upto_region 7 with (fail)
      have b6 : Below w5.heap.size w5 w5.drew := below_drew (Below.refl _ _)
      have B6 := Lib.hid (B5.out.trans (b6.mono B5.out.size))
      have K6 := Lib.hid (blk_below K5.out b6)
      have D1 := Lib.hid (Kd.C_below C1.out b6)
      have D2 := Lib.hid (Kd.C_below C2.out b6)
      have H6 := Lib.hid (H5.out.below b6)
      clear b6 C1 C2 B5 K5 H5
      go_cut [4] (fun v4 wc => v4 = .string (j1 ++ ⟨#[58, 58]⟩ ++ j2) ∧ Hid (Below w.heap.size w wc) ∧ Hid (wc.heap[w.heap.size]? = some (.cells #[.int .u64 hi, .int .u64 lo, .int .i64 n] 26 (0, 0))))
      case first =>
        go_region_law (first
          | (go_simp; go_at_call 41; (with_reducible refine (join_at A c f l1 HZ1.out _ H6.out D1.out (by omega) LT1.out).mono ?_); rw [← HJ1.out]; rintro e w7 ⟨rfl, b7⟩; have B7 := Lib.hid (B6.out.trans (b7.mono B6.out.size)); have K7 := Lib.hid (blk_below K6.out b7); have D7 := Lib.hid (Kd.C_below D2.out b7); have H7 := Lib.hid (H6.out.below b7); clear b7)
          | (go_simp; go_at_call 41; (with_reducible refine (join_at A2 (c - t) (8 - t) l2 HZ2.out w7 H7.out D7.out (by omega) LT2.out).mono ?_); rw [← HJ2.out]; rintro e w8 ⟨rfl, b8⟩; have B8 := Lib.hid (B7.out.trans (b8.mono B7.out.size)); have K8 := Lib.hid (blk_below K7.out b8); clear b8))
        all_goals go_wp2
        all_goals go_meet
        all_goals exact ⟨rfl, B8.out, K8.out⟩
      case rest =>
        obtain ⟨rfl, B9, K9⟩ := hcut
        clear B6 K6 D1 D2 H6
        have q0 := blk_cell K9.out 0
        have q1 := blk_cell K9.out 1
        have q2 := blk_cell K9.out 2
        simp only [List.getElem?_toArray, List.getElem?_cons_zero, List.getElem?_cons_succ] at q0 q1 q2
        go_wp2_with fail
        refine (Tryd.strconv_Itoa n hn.1 hn.2 wc (H0.out.below B9.out).e.tab).mono ?_
        rintro e w10 ⟨rfl, kk, os, hw10⟩
        rw [show ({ data := (Lib.itoa n).toArray } : ByteArray) = tn from HTN.out.symm]
        have b10 : Below wc.heap.size wc w10 := (by rw [hw10]; have := below_sgrow (wc.drewN kk) os; exact ⟨this.os, this.tape, this.output, this.size, this.block⟩); have B10 := Lib.hid (B9.out.trans (b10.mono B9.out.size)); clear b10
        clear hw10
        go_wp2
        go_ret
        exact ⟨(congrArg (fun b => Ending.returned (Value.string b)) HF2.out).symm, B10.out⟩
    · have HF2 := Lib.hid (show r = js ++ ⟨#[47]⟩ ++ tn by rw [HR2.out, HTN.out, HJS.out]; unfold showCT gapT; rw [if_neg hgap])
      have hcond : ¬ (((t : Int) - (f : Int)) > 1) := by omega
      have g3 : ¬ (9223372036854775807 < js.size + 1) := by omega
      have g4 : ¬ (9223372036854775807 < js.size + 1 + tn.size) := by omega
      have B9 := B5
      have K9 := K5
      clear HR2 B5 K5 CH5
      have q0 := blk_cell K9.out 0
      have q1 := blk_cell K9.out 1
      have q2 := blk_cell K9.out 2
      simp only [List.getElem?_toArray, List.getElem?_cons_zero, List.getElem?_cons_succ] at q0 q1 q2
      go_wp2_with fail
      refine (Tryd.strconv_Itoa n hn.1 hn.2 w5 (H0.out.below B9.out).e.tab).mono ?_
      rintro e w10 ⟨rfl, kk, os, hw10⟩
      rw [show ({ data := (Lib.itoa n).toArray } : ByteArray) = tn from HTN.out.symm]
      have b10 : Below w5.heap.size w5 w10 := (by rw [hw10]; have := below_sgrow (w5.drewN kk) os; exact ⟨this.os, this.tape, this.output, this.size, this.block⟩); have B10 := Lib.hid (B9.out.trans (b10.mono B9.out.size)); clear b10
      clear hw10
      go_wp2
      go_ret
      exact ⟨(congrArg (fun b => Ending.returned (Value.string b)) HF2.out).symm, B10.out⟩


/-- What Show answers of a right prefix. -/
def showCB (hi lo : Nat) (n : Int) : ByteArray := showCT (wordsN hi lo) (bestZ (wordsN hi lo) 0 0 0).1 (bestZ (wordsN hi lo) 0 0 0).2 n
theorem showC_at (hi lo : Nat) (n : Int) (b : Bool) (w : World) (hE : Env2 w) (hh : hi < 18446744073709551616) (hl : lo < 18446744073709551616) (hn : -9223372036854775808 ≤ n ∧ n ≤ 9223372036854775807) (hb : addr_Right.f hi lo n = some b) :
    Calls Tryd.prog 21 #[.agg #[.int .u64 hi, .int .u64 lo, .int .i64 n]] w fun e w' => e = .returned (.string (if b = true then showCB hi lo n else ByteArray.empty)) ∧ Below w.heap.size w w' := by
  have hz := best_all (wordsN hi lo)
  exact showC_is hi lo n b (wordsN hi lo) _ _ 200 w hE hb (split_is hi lo 200 hh hl (by omega)) (zeros_is (wordsN hi lo) rfl 200 (by omega)) hz.1 hz.2.1 rfl (words_lt hi lo) hn
def exC : ByteArray := ⟨#[49, 58, 58, 47, 49, 54]⟩
theorem exC_read : readC exC = some (281474976710656, 0, 16, 0) := by kernel_rfl
theorem exC_right : addr_Right.f (281474976710656 : Nat) (0 : Nat) 16 = some true := by kernel_rfl
theorem exC_show : showCB 281474976710656 0 16 = exC := by kernel_rfl
theorem exZ_right : addr_Right.f (0 : Nat) (0 : Nat) 0 = some true := by kernel_rfl
theorem exZ_show : showCB 0 0 0 = ⟨#[58, 58, 47, 48]⟩ := by kernel_rfl

set_option maxRecDepth 20000 in
set_option maxHeartbeats 4000000 in
theorem aliveC_is (w : World) (hE : Env2 w) : Calls Tryd.prog 17 #[] w fun e w' => e = .returned (.bool true) ∧ Below w.heap.size w w' := by
  have H0 := Lib.hid hE
  clear hE
  go_enter Tryd.func17, Tryd.ntmps17
  go_wp2_with fail
  refine (readC_is exC 281474976710656 0 16 0 w H0.out.e (by decide) exC_read).mono ?_
  rintro e w1 ⟨rfl, b1⟩
  obtain ⟨w2, hw2⟩ : ∃ w2, w2 = w1.alloc (.cells #[.int .u64 281474976710656, .int .u64 0, .int .i64 16] 26 (0, 0)) := ⟨_, rfl⟩
  have k2 : w2.heap[w1.heap.size]? = some (.cells #[.int .u64 281474976710656, .int .u64 0, .int .i64 16] 26 (0, 0)) := by rw [hw2]; exact blk_new _ _
  have B2 := Lib.hid (show Below w.heap.size w w2 by rw [hw2]; exact below_alloc b1 _)
  go_upto_region 2 with (fail)
  rw [← hw2]
  clear hw2 b1
  have K2 := Lib.hid k2
  clear k2
  go_wp2_with fail
  refine (showC_at 0 0 0 true _ (H0.out.below B2.out) (by decide) (by decide) ⟨by decide, by decide⟩ exZ_right).mono ?_
  rw [if_pos rfl, exZ_show]
  rintro e w3 ⟨rfl, b3⟩
  have B3 := Lib.hid (B2.out.trans (b3.mono B2.out.size))
  have K3 := Lib.hid (blk_below K2.out b3)
  clear b3 B2 K2
  go_wp2_with fail
  refine (flocculuslaw3_num.calls 0 0 w3 rfl).mono ?_
  rintro e w4 ⟨rfl, ⟨n4, hw4⟩⟩
  have b4 : Below w3.heap.size w3 w4 := by rw [hw4]; exact pw_below_drewN (Below.refl _ _) n4
  have B4 := Lib.hid (B3.out.trans (b4.mono B3.out.size))
  have K4 := Lib.hid (blk_below K3.out b4)
  clear hw4 b4 B3 K3
  have q0 := blk_cell K4.out 0
  have q1 := blk_cell K4.out 1
  have q2 := blk_cell K4.out 2
  simp only [List.getElem?_toArray, List.getElem?_cons_zero, List.getElem?_cons_succ] at q0 q1 q2
  go_wp2_with fail
  refine (showC_at 281474976710656 0 16 true w4 (H0.out.below B4.out) (by decide) (by decide) ⟨by decide, by decide⟩ exC_right).mono ?_
  rw [if_pos rfl, exC_show]
  rintro e w5 ⟨rfl, b5⟩
  have B5 := Lib.hid (B4.out.trans (b5.mono B4.out.size))
  unfold exC
  clear b5
  go_wp2
  go_ret
  exact ⟨rfl, B5.out⟩
end Go.Proofs.YtjhlgfafjjmooaaDoor.Dot
