/- Package cidr: what Read answers. -/
import Derived.Test.YtjhlgfafjjmooaaDoorPCidrTellsx5
import Derived.Lib.SplitLaws
namespace Go.Proofs.YtjhlgfafjjmooaaDoor.Dot
open Go.RowKit Go.Proofs.YtjhlgfafjjmooaaDoor.PCidrTells Go.Proofs.YtjhlgfafjjmooaaDoorW.PrintWords Go.Proofs.YtjhlgfafjjmooaaDoorW.PrintLast Go.Proofs.YtjhlgfafjjmooaaDoorW.PrintMore

def stepA (a v : Int) : Int := bits .or .u64 (IntKind.u64.wrap (a * 256)) (IntKind.u64.wrap v)
/-- The numbers between the dots, joined; nothing: one is none. -/
def rdA : List ByteArray → Int → Option Int
  | [], a => some a
  | x :: xs, a => if numB x.data.toList 255 = true then rdA xs (stepA a (numV x.data.toList)) else none
def dotB : ByteArray := ⟨#[46]⟩
def leftB (s : ByteArray) : ByteArray := ⟨(Lib.cut s.data.toList [47]).1.toArray⟩
def rightB (s : ByteArray) : ByteArray := ⟨(Lib.cut s.data.toList [47]).2.1.toArray⟩
def okB (s : ByteArray) : Bool := (Lib.cut s.data.toList [47]).2.2
def partsB (s : ByteArray) : List ByteArray := Lib.splitB dotB 0 (Lib.countB (leftB s) dotB) (leftB s)
theorem parts_length (s : ByteArray) : (partsB s).length = Lib.countB (leftB s) dotB + 1 := Lib.splitB_all dotB (by decide) 0 _ _ rfl
theorem length_total (hi lo n : Int) : ∃ r1 r2 r3 r4, cidr_Length.f hi lo n = some (r1, r2, r3, r4) := by
  unfold cidr_Length.f addr_Right.f addr_Cut.f
  by_cases h0 : n ≥ 0
  · rw [if_pos h0]
    by_cases h1 : n ≤ 128
    · rw [if_pos h1]
      simp only [Option.bind_some]
      split
      · exact ⟨_, _, _, _, rfl⟩
      · exact ⟨_, _, _, _, rfl⟩
    · rw [if_neg h1]; exact ⟨_, _, _, _, rfl⟩
  · rw [if_neg h0]; exact ⟨_, _, _, _, rfl⟩
theorem ba_size (l : List UInt8) : (⟨l.toArray⟩ : ByteArray).size = l.length := by show l.toArray.size = l.length; simp
theorem left_size (s : ByteArray) : (leftB s).size ≤ s.size := by
  unfold leftB
  rw [ba_size]
  have : s.data.toList.length = s.size := Array.length_toList
  unfold Lib.cut
  split
  · simp only [List.length_take]; omega
  · simp only; omega
theorem right_size (s : ByteArray) : (rightB s).size ≤ s.size := by
  unfold rightB
  rw [ba_size]
  have : s.data.toList.length = s.size := Array.length_toList
  unfold Lib.cut
  split
  · simp only [List.length_drop]; omega
  · simp
theorem split_size (sep : ByteArray) : ∀ (k : Nat) (s : ByteArray), ∀ x ∈ Lib.splitB sep 0 k s, x.size ≤ s.size
  | 0, s => by intro x hx; simp [Lib.splitB] at hx; rw [hx]; exact Nat.le_refl _
  | k + 1, s => by
    intro x hx
    simp only [Lib.splitB] at hx
    split at hx
    · simp at hx; rw [hx]; exact Nat.le_refl _
    · rcases List.mem_cons.mp hx with rfl | hx
      · rw [ByteArray.size_extract]; omega
      · have := split_size sep k _ x hx
        rw [ByteArray.size_extract] at this
        omega
theorem rdA_step {ps : List ByteArray} {i : Nat} {a : Int} {r : Option Int} (hi : i < ps.length) (h : rdA (ps.drop i) a = r) : (if numB (ps[i]).data.toList 255 = true then rdA (ps.drop (i + 1)) (stepA a (numV (ps[i]).data.toList)) else none) = r := by
  rw [List.drop_eq_getElem_cons hi] at h
  exact h
theorem lay3_here {W : World} {g t : Nat} {a0 a1 a2 : Value} (h : W.heap[g]? = some (.cells #[a0, a1, a2] t (0, 0))) (c0 c1 c2 : Value) : (((W.setCell ⟨g, 0, none⟩ c0).setCell ⟨g, 1, none⟩ c1).setCell ⟨g, 2, none⟩ c2).heap[g]? = some (.cells #[c0, c1, c2] t (0, 0)) := by
  have e0 := blk_set h 0 c0
  simp only [List.setIfInBounds_toArray, List.set_cons_zero, List.set_cons_succ] at e0
  have e1 := blk_set e0 1 c1
  simp only [List.setIfInBounds_toArray, List.set_cons_zero, List.set_cons_succ] at e1
  have e2 := blk_set e1 2 c2
  simp only [List.setIfInBounds_toArray, List.set_cons_zero, List.set_cons_succ] at e2
  exact e2
theorem below3 {w W : World} (h : Below w.heap.size w W) (c0 c1 c2 : Value) : Below w.heap.size w (((W.setCell ⟨w.heap.size, 0, none⟩ c0).setCell ⟨w.heap.size, 1, none⟩ c1).setCell ⟨w.heap.size, 2, none⟩ c2) := ((h.setCell (p := ⟨w.heap.size, 0, none⟩) (Nat.le_refl _) c0).setCell (p := ⟨w.heap.size, 1, none⟩) (Nat.le_refl _) c1).setCell (p := ⟨w.heap.size, 2, none⟩) (Nat.le_refl _) c2
/-- What Read answers: the prefix's three numbers and the error. -/
def readP (s : ByteArray) : Option (Int × Int × Int × Int) :=
  if (okB s && (numB (rightB s).data.toList 32 && decide ((partsB s).length = 4))) = true then
    match rdA (partsB s) 0 with
    | some a => cidr_Length.f (IntKind.u64.wrap (a * 4294967296)) 0 (numV (rightB s).data.toList)
    | none => some (0, 0, 0, 2)
  else some (0, 0, 0, 2)

set_option maxRecDepth 20000 in
set_option maxHeartbeats 4000000 in
theorem read_is (s : ByteArray) (r1 r2 r3 r4 : Int) (w : World) (hE : Env w) (hs : s.size < 1000000) (hr : readP s = some (r1, r2, r3, r4)) :
    Calls Tryd.prog 11 #[.string s] w fun e w' => e = .returned (.tuple #[.agg #[.int .u64 r1, .int .u64 r2, .int .i64 r3], .int .i64 r4]) ∧ Below w.heap.size w w' := by
  have HE := Lib.hid hE
  have HR := Lib.hid hr
  clear hE hr
  go_enter Tryd.func11, Tryd.ntmps11
  go_wp2_with fail
  obtain ⟨w1, hw1⟩ : ∃ w1, w1 = w.alloc (.cells #[.int .u64 0, .int .u64 0, .int .i64 0] 26 (0, 0)) := ⟨_, rfl⟩
  have k1 : w1.heap[w.heap.size]? = some (.cells #[.int .u64 0, .int .u64 0, .int .i64 0] 26 (0, 0)) := by rw [hw1]; exact blk_new _ _
  have b1 : Below w.heap.size w w1 := by rw [hw1]; exact below_alloc (Below.refl _ _) _
  rw [← hw1]
  clear hw1
  have E1 := Lib.hid (HE.out.below b1)
  have B1 := Lib.hid b1
  have K1 := Lib.hid k1
  clear b1 k1 HE
  obtain ⟨m, hm⟩ := E1.out.m
  refine (Tryd.strings_Cut s ⟨#[47]⟩ m w1 (by omega) hm).mono ?_
  rintro e w2 ⟨rfl, n2, hw2⟩
  have b2 : Below w1.heap.size w1 w2 := by rw [hw2]; exact pw_below_drewN (Below.refl _ _) n2
  have E2 := Lib.hid (E1.out.below b2)
  have B2 := Lib.hid (B1.out.trans (b2.mono B1.out.size))
  have K2 := Lib.hid (blk_below K1.out b2)
  have el : ({ data := (Lib.cut s.data.toList (⟨#[47]⟩ : ByteArray).data.toList).1.toArray } : ByteArray) = leftB s := rfl
  have er : ({ data := (Lib.cut s.data.toList (⟨#[47]⟩ : ByteArray).data.toList).2.1.toArray } : ByteArray) = rightB s := rfl
  have eo : (Lib.cut s.data.toList (⟨#[47]⟩ : ByteArray).data.toList).2.2 = okB s := rfl
  rw [el, er, eo]
  have hls := left_size s
  have hrs := right_size s
  have hps := split_size dotB (Lib.countB (leftB s) dotB) (leftB s)
  have hpl := parts_length s
  have PS := Lib.hid (show ∀ x ∈ partsB s, x.size ≤ (leftB s).size from hps)
  have hR2 := HR.out
  unfold readP at hR2
  obtain ⟨lb, hlb⟩ : ∃ lb, lb = leftB s := ⟨_, rfl⟩
  obtain ⟨rb, hrb⟩ : ∃ rb, rb = rightB s := ⟨_, rfl⟩
  obtain ⟨ps, hps2⟩ : ∃ ps, ps = partsB s := ⟨_, rfl⟩
  have hps3 : Lib.splitB ⟨#[46]⟩ 0 (Lib.countB lb ⟨#[46]⟩) lb = ps := by rw [hps2, hlb]; rfl
  have hpl2 : ps.length = Lib.countB lb ⟨#[46]⟩ + 1 := by rw [hps2, hlb]; exact hpl
  obtain ⟨ok, hok⟩ : ∃ ok, ok = okB s := ⟨_, rfl⟩
  rw [← hlb] at hls ⊢
  rw [← hrb] at hrs hR2 ⊢
  rw [← hps2] at hR2
  rw [← hok] at hR2 ⊢
  have PS2 : Hid (∀ x ∈ ps, x.size ≤ lb.size) := by rw [hps2, hlb]; exact PS.out
  have HR2 := Lib.hid hR2
  have HPS := Lib.hid hps3
  have HPL := Lib.hid hpl2
  clear el er eo hlb hrb hps2 hok hps hpl PS HR hR2 hps3 hpl2 hw2 b2 E1 B1 K1 hm
  go_wp2_with fail
  obtain ⟨m2, hm2⟩ := E2.out.m
  refine (Tryd.strings_Split lb ⟨#[46]⟩ m2 w2 (by omega) hm2 (by decide)).mono ?_
  rintro e w3 ⟨rfl, hw3⟩
  rw [HPS.out] at hw3
  rw [← HPL.out]
  have b3 : Below w2.heap.size w2 w3 := by rw [hw3]; exact below_alloc (Below.refl _ _) _
  have k3 : w3.heap[w2.heap.size]? = some (.cells (ps.map Value.string).toArray 9 (0, 0)) := by rw [hw3]; exact blk_new _ _
  obtain ⟨g, hg⟩ : ∃ g, g = w2.heap.size := ⟨_, rfl⟩
  have E3 := Lib.hid (E2.out.below b3)
  have B3 := Lib.hid (B2.out.trans (b3.mono B2.out.size))
  have K3 := Lib.hid (blk_below K2.out b3)
  have G3 := Lib.hid k3
  clear hw3 b3 k3 E2 B2 K2 hm2 HPS HPL hg
  go_wp2_with fail
  refine (number_is rb 32 w3 E3.out (by omega)).mono ?_
  rintro e w4 ⟨rfl, b4⟩
  have E4 := Lib.hid (E3.out.below b4)
  have B4 := Lib.hid (B3.out.trans (b4.mono B3.out.size))
  have K4 := Lib.hid (blk_below K3.out b4)
  have G4 := Lib.hid (blk_below G3.out b4)
  obtain ⟨n, hn⟩ : ∃ n, n = numV rb.data.toList := ⟨_, rfl⟩
  obtain ⟨nb, hnb⟩ : ∃ nb, nb = numB rb.data.toList 32 := ⟨_, rfl⟩
  have hR := HR2.out
  rw [← hn, ← hnb] at hR ⊢
  have HR := Lib.hid hR
  clear HR2 hR hn hnb b4 E3 B3 K3 G3
  go_upto_region 4 with (fail)
  by_cases hc : (ok && (nb && decide (ps.length = 4))) = false
  · have hz := HR.out
    rw [hc, if_neg Bool.false_ne_true] at hz
    clear HR
    cases ok with
    | false =>
      simp only [Option.some.injEq, Prod.mk.injEq] at hz
      obtain ⟨rfl, rfl, rfl, rfl⟩ := hz
      have q0 := blk_cell K4.out 0
      have q1 := blk_cell K4.out 1
      have q2 := blk_cell K4.out 2
      simp only [List.getElem?_toArray, List.getElem?_cons_zero, List.getElem?_cons_succ] at q0 q1 q2
      have f2 := fun i => blk_frozen K4.out i
      go_wp2
      (try simp only [Exit.inBlock, Exit.then])
      refine bodyPost_ret (v := .tuple #[.agg #[.int .u64 0, .int .u64 0, .int .i64 0], .int .i64 2]) (results_ct (fn := Tryd.f11) rfl _ _ w.heap.size 26 _ (0, 0) _ _ rfl rfl (lay3_here K4.out _ _ _) Tryd.underlying26 rfl (by kernel_rfl)) rfl ?_
      exact ⟨rfl, below3 B4.out _ _ _⟩
    | true =>
      cases nb with
      | false =>
        simp only [Option.some.injEq, Prod.mk.injEq] at hz
        obtain ⟨rfl, rfl, rfl, rfl⟩ := hz
        have q0 := blk_cell K4.out 0
        have q1 := blk_cell K4.out 1
        have q2 := blk_cell K4.out 2
        simp only [List.getElem?_toArray, List.getElem?_cons_zero, List.getElem?_cons_succ] at q0 q1 q2
        have f2 := fun i => blk_frozen K4.out i
        go_wp2
        (try simp only [Exit.inBlock, Exit.then])
        refine bodyPost_ret (v := .tuple #[.agg #[.int .u64 0, .int .u64 0, .int .i64 0], .int .i64 2]) (results_ct (fn := Tryd.f11) rfl _ _ w.heap.size 26 _ (0, 0) _ _ rfl rfl (lay3_here K4.out _ _ _) Tryd.underlying26 rfl (by kernel_rfl)) rfl ?_
        exact ⟨rfl, below3 B4.out _ _ _⟩
      | true =>
        have h4 : ¬ ps.length = 4 := by simpa using hc
        have h4' : ¬ (ps.length : Int) = 4 := by omega
        have h4b : ((ps.length : Int) == 4) = false := by simp only [beq_eq_false_iff_ne, ne_eq]; exact h4'
        clear hc
        simp only [Option.some.injEq, Prod.mk.injEq] at hz
        obtain ⟨rfl, rfl, rfl, rfl⟩ := hz
        have q0 := blk_cell K4.out 0
        have q1 := blk_cell K4.out 1
        have q2 := blk_cell K4.out 2
        simp only [List.getElem?_toArray, List.getElem?_cons_zero, List.getElem?_cons_succ] at q0 q1 q2
        have f2 := fun i => blk_frozen K4.out i
        go_wp2
        (try simp only [Exit.inBlock, Exit.then])
        refine bodyPost_ret (v := .tuple #[.agg #[.int .u64 0, .int .u64 0, .int .i64 0], .int .i64 2]) (results_ct (fn := Tryd.f11) rfl _ _ w.heap.size 26 _ (0, 0) _ _ rfl rfl (lay3_here K4.out _ _ _) Tryd.underlying26 rfl (by kernel_rfl)) rfl ?_
        exact ⟨rfl, below3 B4.out _ _ _⟩
  · have hc' : (ok && (nb && decide (ps.length = 4))) = true := by
      cases h : (ok && (nb && decide (ps.length = 4))) with
      | true => rfl
      | false => exact absurd h hc
    have hz := HR.out
    rw [hc', if_pos rfl] at hz
    simp only [Bool.and_eq_true, decide_eq_true_eq] at hc'
    obtain ⟨rfl, rfl, h4⟩ := hc'
    have HZ := Lib.hid hz
    clear HR hz hc
    rw [h4]
    have H4 := Lib.hid h4
    clear h4
    go_wp2_with fail
    go_loopw [10, 42] (fun va vi wr => ∃ (i : Nat) (a : Int), i ≤ 4 ∧ va = .int .u64 a ∧ vi = .int .i64 i ∧ Hid (Below w.heap.size w wr) ∧ Hid (Env wr) ∧ Hid (wr.heap[w.heap.size]? = some (.cells #[.int .u64 0, .int .u64 0, .int .i64 0] 26 (0, 0))) ∧ Hid (wr.heap[w2.heap.size]? = some (.cells (ps.map Value.string).toArray 9 (0, 0))) ∧ Hid (rdA (ps.drop i) a = rdA ps 0)) (fun _ i _ => 4 - (intOf i).toNat)
    case atStart => exact ⟨0, 0, Nat.zero_le _, rfl, rfl, B4.out, E4.out, K4.out, G4.out, rfl⟩
    case round =>
      clear B4 E4 K4 G4
      obtain ⟨i, a, hi, rfl, rfl, HB, HE, HK, HG, HA⟩ := hrel
      by_cases hi4 : i < 4
      · have hil : i < ps.length := by have := H4.out; omega
        have cx := blk_cell HG.out i
        rw [List.getElem?_toArray, List.getElem?_map, List.getElem?_eq_getElem hil, Option.map_some] at cx
        obtain ⟨x, hx⟩ : ∃ x, x = ps[i] := ⟨_, rfl⟩
        have hxs : x.size ≤ lb.size := by rw [hx]; exact PS2.out _ (List.getElem_mem hil)
        have hst := rdA_step hil HA.out
        rw [← hx] at cx hst
        have HST := Lib.hid hst
        clear hst hx HA
        have c0 : (0 : Int) ≤ (i : Int) := by omega
        have c1 : (i : Int) < 4 := by omega
        go_wp2_with fail
        refine (number_is x 255 wr HE.out (by omega)).mono ?_
        rintro e w5 ⟨rfl, b5⟩
        have E5 := Lib.hid (HE.out.below b5)
        have k5 := blk_below HK.out b5
        have G5 := Lib.hid (blk_below HG.out b5)
        have B5 := Lib.hid (HB.out.trans (b5.mono HB.out.size))
        obtain ⟨v, hv⟩ : ∃ v, v = numV x.data.toList := ⟨_, rfl⟩
        obtain ⟨vb, hvb⟩ : ∃ vb, vb = numB x.data.toList 255 := ⟨_, rfl⟩
        have hst := HST.out
        rw [← hv, ← hvb] at hst ⊢
        clear HST hv hvb b5 HE HK HG HB cx
        cases vb with
        | false =>
          have hz := HZ.out
          rw [if_neg Bool.false_ne_true] at hst
          rw [← hst] at hz
          clear HZ hst
          simp only [Option.some.injEq, Prod.mk.injEq] at hz
          obtain ⟨rfl, rfl, rfl, rfl⟩ := hz
          have q0 := blk_cell k5 0
          have q1 := blk_cell k5 1
          have q2 := blk_cell k5 2
          simp only [List.getElem?_toArray, List.getElem?_cons_zero, List.getElem?_cons_succ] at q0 q1 q2
          have f2 := fun i => blk_frozen k5 i
          have KK := Lib.hid k5
          go_wp2
          (try simp only [Exit.inBlock, Exit.then])
          refine bodyPost_ret (v := .tuple #[.agg #[.int .u64 0, .int .u64 0, .int .i64 0], .int .i64 2]) (results_ct (fn := Tryd.f11) rfl _ _ w.heap.size 26 _ (0, 0) _ _ rfl rfl (lay3_here KK.out _ _ _) Tryd.underlying26 rfl (by kernel_rfl)) rfl ?_
          exact ⟨rfl, below3 B5.out _ _ _⟩
        | true =>
          rw [if_pos rfl] at hst
          have HST := Lib.hid hst
          have K5 := Lib.hid k5
          clear hst k5
          clear hil
          go_wp2
          go_roundw
          case rel => exact ⟨i + 1, stepA a v, by omega, rfl, by go_num, B5.out, E5.out, K5.out, G5.out, HST.out⟩
          case measure => simp [intOf]; omega
      · obtain rfl : i = 4 := by omega
        have hst : rdA ps 0 = some a := by
          have := HA.out
          rw [List.drop_eq_nil_of_le (by have := H4.out; omega)] at this
          exact this.symm
        have hz := HZ.out
        rw [hst] at hz
        have HZ2 := Lib.hid (show cidr_Length.f (IntKind.u64.wrap (a * 4294967296)) 0 n = some (r1, r2, r3, r4) from hz)
        clear hst hz HZ HA HE HG
        go_wp2_with fail
        refine (cidr_Length.calls _ 0 n r1 r2 r3 r4 wr HZ2.out).mono ?_
        rintro e w5 ⟨rfl, b5⟩
        have k5 := blk_below HK.out b5
        have B5 := Lib.hid (HB.out.trans (b5.mono HB.out.size))
        have q0 := blk_cell k5 0
        have q1 := blk_cell k5 1
        have q2 := blk_cell k5 2
        simp only [List.getElem?_toArray, List.getElem?_cons_zero, List.getElem?_cons_succ] at q0 q1 q2
        have f2 := fun i => blk_frozen k5 i
        have KK := Lib.hid k5
        clear b5 k5
        go_wp2
        (try simp only [Exit.inBlock, Exit.then])
        refine bodyPost_ret (v := .tuple #[.agg #[.int .u64 r1, .int .u64 r2, .int .i64 r3], .int .i64 r4]) (results_ct (fn := Tryd.f11) rfl _ _ w.heap.size 26 _ (0, 0) _ _ rfl rfl (lay3_here KK.out _ _ _) Tryd.underlying26 rfl (by kernel_rfl)) rfl ?_
        exact ⟨rfl, below3 B5.out _ _ _⟩
end Go.Proofs.YtjhlgfafjjmooaaDoor.Dot
