/- Package colons: what Read answers. -/
import Derived.Test.YtjhlgfafjjmooaaDoorCaddr
namespace Go.Proofs.YtjhlgfafjjmooaaDoor.Dot
open Go.RowKit Go.Proofs.YtjhlgfafjjmooaaDoor.PCidrTells Go.Proofs.YtjhlgfafjjmooaaDoorW.PrintWords Go.Proofs.YtjhlgfafjjmooaaDoorW.PrintLast Go.Proofs.YtjhlgfafjjmooaaDoorW.PrintMore

/-- What Read answers: the prefix's three numbers and the error. -/
def readC (s : ByteArray) : Option (Int × Int × Int × Int) :=
  match addrX (leftB s) with
  | (hi, lo, b) => if (okB s && (b && numB (rightB s).data.toList 128)) = true then cidr_Length.f hi lo (numV (rightB s).data.toList) else some (0, 0, 0, 2)

set_option maxRecDepth 20000 in
set_option maxHeartbeats 4000000 in
theorem readC_is (s : ByteArray) (r1 r2 r3 r4 : Int) (w : World) (hE : Env w) (hs : s.size < 900000) (hr : readC s = some (r1, r2, r3, r4)) :
    Calls Tryd.prog 18 #[.string s] w fun e w' => e = .returned (.tuple #[.agg #[.int .u64 r1, .int .u64 r2, .int .i64 r3], .int .i64 r4]) ∧ Below w.heap.size w w' := by
  have HE := Lib.hid hE
  have HR := Lib.hid hr
  clear hE hr
  go_enter Tryd.func18, Tryd.ntmps18
  go_wp2_with fail
  obtain ⟨w1, hw1⟩ : ∃ w1, w1 = w.alloc (.cells #[.int .u64 0, .int .u64 0, .int .i64 0] 26 (0, 0)) := ⟨_, rfl⟩
  have k1 : w1.heap[w.heap.size]? = some (.cells #[.int .u64 0, .int .u64 0, .int .i64 0] 26 (0, 0)) := by rw [hw1]; exact blk_new _ _
  have b1 : Below w.heap.size w w1 := by rw [hw1]; exact below_alloc (Below.refl _ _) _
  rw [← hw1]
  clear hw1
  have E1 := Lib.hid (HE.out.below b1)
  have B1 := Lib.hid b1
  have K1 := Lib.hid k1
  clear b1 k1 HE
  obtain ⟨m, hm⟩ := E1.out.m
  refine (Tryd.strings_Cut s ⟨#[47]⟩ m w1 (by omega) hm).mono ?_
  rintro e w2 ⟨rfl, n2, hw2⟩
  have b2 : Below w1.heap.size w1 w2 := by rw [hw2]; exact pw_below_drewN (Below.refl _ _) n2
  have E2 := Lib.hid (E1.out.below b2)
  have B2 := Lib.hid (B1.out.trans (b2.mono B1.out.size))
  have K2 := Lib.hid (blk_below K1.out b2)
  have el : ({ data := (Lib.cut s.data.toList (⟨#[47]⟩ : ByteArray).data.toList).1.toArray } : ByteArray) = leftB s := rfl
  have er : ({ data := (Lib.cut s.data.toList (⟨#[47]⟩ : ByteArray).data.toList).2.1.toArray } : ByteArray) = rightB s := rfl
  have eo : (Lib.cut s.data.toList (⟨#[47]⟩ : ByteArray).data.toList).2.2 = okB s := rfl
  rw [el, er, eo]
  have hls := left_size s
  have hrs := right_size s
  have hR2 := HR.out
  unfold readC at hR2
  obtain ⟨lb, hlb⟩ : ∃ lb, lb = leftB s := ⟨_, rfl⟩
  obtain ⟨rb, hrb⟩ : ∃ rb, rb = rightB s := ⟨_, rfl⟩
  obtain ⟨ok, hok⟩ : ∃ ok, ok = okB s := ⟨_, rfl⟩
  rw [← hlb] at hls hR2 ⊢
  rw [← hrb] at hrs hR2 ⊢
  rw [← hok] at hR2 ⊢
  obtain ⟨⟨hi, lo, b⟩, hab⟩ : ∃ x, addrX lb = x := ⟨_, rfl⟩
  rw [hab] at hR2
  have HAB := Lib.hid hab
  have HR2 := Lib.hid (show (if (ok && (b && numB rb.data.toList 128)) = true then cidr_Length.f hi lo (numV rb.data.toList) else some (0, 0, 0, 2)) = some (r1, r2, r3, r4) from hR2)
  clear el er eo hlb hrb hok HR hR2 hw2 b2 E1 B1 K1 hm hab
  go_wp2_with fail
  refine (address_is lb hi lo b w2 E2.out (by omega) HAB.out).mono ?_
  rintro e w3 ⟨rfl, b3⟩
  obtain ⟨w4, hw4⟩ : ∃ w4, w4 = w3.alloc (.cells #[.int .u64 hi, .int .u64 lo] 24 (0, 0)) := ⟨_, rfl⟩
  have b4 : Below w2.heap.size w2 w4 := by rw [hw4]; exact below_alloc b3 _
  have x4 : w4.heap[w3.heap.size]? = some (.cells #[.int .u64 hi, .int .u64 lo] 24 (0, 0)) := by rw [hw4]; exact blk_new _ _
  have E4 := Lib.hid (E2.out.below b4)
  have B4 := Lib.hid (B2.out.trans (b4.mono B2.out.size))
  have K4 := Lib.hid (blk_below K2.out b4)
  have X4 := Lib.hid x4
  clear b3 b4 x4 E2 B2 K2 HAB
  go_upto_region 3 with (fail)
  rw [← hw4]
  clear hw4
  go_wp2_with fail
  refine (number_is rb 128 w4 E4.out (by omega)).mono ?_
  rintro e w5 ⟨rfl, b5⟩
  have E5 := Lib.hid (E4.out.below b5)
  have B5 := Lib.hid (B4.out.trans (b5.mono B4.out.size))
  have K5 := Lib.hid (blk_below K4.out b5)
  have X5 := Lib.hid (blk_below X4.out b5)
  obtain ⟨n, hn⟩ : ∃ n, n = numV rb.data.toList := ⟨_, rfl⟩
  obtain ⟨nb, hnb⟩ : ∃ nb, nb = numB rb.data.toList 128 := ⟨_, rfl⟩
  have hR := HR2.out
  rw [← hn, ← hnb] at hR ⊢
  have HR := Lib.hid hR
  clear HR2 hR hn hnb b5 E4 B4 K4 X4
  go_upto_region 4 with (fail)
  by_cases hc : (ok && (b && nb)) = false
  · have hz := HR.out
    rw [hc, if_neg Bool.false_ne_true] at hz
    clear HR
    simp only [Option.some.injEq, Prod.mk.injEq] at hz
    obtain ⟨rfl, rfl, rfl, rfl⟩ := hz
    have q0 := blk_cell K5.out 0
    have q1 := blk_cell K5.out 1
    have q2 := blk_cell K5.out 2
    simp only [List.getElem?_toArray, List.getElem?_cons_zero, List.getElem?_cons_succ] at q0 q1 q2
    have f2 := fun i => blk_frozen K5.out i
    cases ok with
    | false =>
      clear hc
      go_wp2
      (try simp only [Exit.inBlock, Exit.then])
      refine bodyPost_ret (v := .tuple #[.agg #[.int .u64 0, .int .u64 0, .int .i64 0], .int .i64 2]) (results_ct (fn := Tryd.f18) rfl _ _ w.heap.size 26 _ (0, 0) _ _ rfl rfl (lay3_here K5.out _ _ _) Tryd.underlying26 rfl (by kernel_rfl)) rfl ?_
      exact ⟨rfl, below3 B5.out _ _ _⟩
    | true =>
      cases b with
      | false =>
        clear hc
        go_wp2
        (try simp only [Exit.inBlock, Exit.then])
        refine bodyPost_ret (v := .tuple #[.agg #[.int .u64 0, .int .u64 0, .int .i64 0], .int .i64 2]) (results_ct (fn := Tryd.f18) rfl _ _ w.heap.size 26 _ (0, 0) _ _ rfl rfl (lay3_here K5.out _ _ _) Tryd.underlying26 rfl (by kernel_rfl)) rfl ?_
        exact ⟨rfl, below3 B5.out _ _ _⟩
      | true =>
        have hnb : nb = false := by simpa using hc
        clear hc
        subst hnb
        go_wp2
        (try simp only [Exit.inBlock, Exit.then])
        refine bodyPost_ret (v := .tuple #[.agg #[.int .u64 0, .int .u64 0, .int .i64 0], .int .i64 2]) (results_ct (fn := Tryd.f18) rfl _ _ w.heap.size 26 _ (0, 0) _ _ rfl rfl (lay3_here K5.out _ _ _) Tryd.underlying26 rfl (by kernel_rfl)) rfl ?_
        exact ⟨rfl, below3 B5.out _ _ _⟩
  · have hc' : (ok && (b && nb)) = true := by
      cases h : (ok && (b && nb)) with
      | true => rfl
      | false => exact absurd h hc
    have hz := HR.out
    rw [hc', if_pos rfl] at hz
    simp only [Bool.and_eq_true] at hc'
    obtain ⟨rfl, rfl, rfl⟩ := hc'
    have HZ := Lib.hid hz
    clear HR hz hc
    have x0 := blk_cell X5.out 0
    have x1 := blk_cell X5.out 1
    simp only [List.getElem?_toArray, List.getElem?_cons_zero, List.getElem?_cons_succ] at x0 x1
    go_wp2_with fail
    refine (cidr_Length.calls hi lo n r1 r2 r3 r4 w5 HZ.out).mono ?_
    rintro e w6 ⟨rfl, b6⟩
    have k6 := blk_below K5.out b6
    have q0 := blk_cell k6 0
    have q1 := blk_cell k6 1
    have q2 := blk_cell k6 2
    simp only [List.getElem?_toArray, List.getElem?_cons_zero, List.getElem?_cons_succ] at q0 q1 q2
    have f2 := fun i => blk_frozen k6 i
    have K6 := Lib.hid k6
    have B6 := Lib.hid (B5.out.trans (b6.mono B5.out.size))
    clear k6 b6 HZ B5 K5 X5
    go_wp2
    (try simp only [Exit.inBlock, Exit.then])
    refine bodyPost_ret (v := .tuple #[.agg #[.int .u64 r1, .int .u64 r2, .int .i64 r3], .int .i64 r4]) (results_ct (fn := Tryd.f18) rfl _ _ w.heap.size 26 _ (0, 0) _ _ rfl rfl (lay3_here K6.out _ _ _) Tryd.underlying26 rfl (by kernel_rfl)) rfl ?_
    exact ⟨rfl, below3 B6.out _ _ _⟩
end Go.Proofs.YtjhlgfafjjmooaaDoor.Dot
