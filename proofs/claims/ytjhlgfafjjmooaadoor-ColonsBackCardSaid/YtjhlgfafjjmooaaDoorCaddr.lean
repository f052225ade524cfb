/- Package colons: an address read. -/
import Derived.Test.YtjhlgfafjjmooaaDoorClist
namespace Go.Proofs.YtjhlgfafjjmooaaDoor.Dot
open Go.RowKit Go.Proofs.YtjhlgfafjjmooaaDoor.PCidrTells Go.Proofs.YtjhlgfafjjmooaaDoorW.PrintWords Go.Proofs.YtjhlgfafjjmooaaDoorW.PrintLast Go.Proofs.YtjhlgfafjjmooaaDoorW.PrintMore

def gapL (s : ByteArray) : List UInt8 := (Lib.cut s.data.toList [58, 58]).1
def gapR (s : ByteArray) : List UInt8 := (Lib.cut s.data.toList [58, 58]).2.1
def gapB (s : ByteArray) : Bool := (Lib.cut s.data.toList [58, 58]).2.2
/-- Eight numbers, some of them perhaps by a gap. -/
def wordsX (s : ByteArray) : Option (List Nat) :=
  match listX (gapL s), listX (gapR s) with
  | some l, some r => if (if gapB s = true then decide (l.length + r.length ≤ 7) else decide (l.length + r.length = 8)) = true then some (l ++ List.replicate (8 - (l.length + r.length)) 0 ++ r) else none
  | _, _ => none
def foldW (ws : List Nat) : Nat := ws.foldl (fun a v => a * 65536 + v) 0
def hiW (ws : List Nat) : Nat := foldW (ws.take 4)
def loW (ws : List Nat) : Nat := foldW ((ws.drop 4).take 4)
/-- What address answers. -/
def addrX (s : ByteArray) : Nat × Nat × Bool := match wordsX s with | some ws => (hiW ws, loW ws, true) | none => (0, 0, false)
theorem listX_len {l : List UInt8} {ns : List Nat} (h : listX l = some ns) : ns.length ≤ l.length + 1 := by
  unfold listX at h
  split at h
  · cases h; simp
  · have := mapX_len _ _ h
    rw [this, cutAt_length]
    have := List.count_le_length (a := (58 : UInt8)) (l := l)
    omega
theorem listX_lt {l : List UInt8} {ns : List Nat} (h : listX l = some ns) : ∀ v ∈ ns, v < 65536 := by
  unfold listX at h
  split at h
  · cases h; simp
  · exact mapX_lt _ _ h
theorem gap_len (s : ByteArray) : (gapL s).length ≤ s.size ∧ (gapR s).length ≤ s.size := by
  unfold gapL gapR Lib.cut
  have := data_len s
  split
  · simp only [List.length_take, List.length_drop]; omega
  · simp only [List.length_nil]; omega
theorem foldW_snoc (ws : List Nat) (v : Nat) : foldW (ws ++ [v]) = foldW ws * 65536 + v := by unfold foldW; rw [List.foldl_append]; rfl
theorem foldW_lt : ∀ (n : Nat) (ws : List Nat), ws.length = n → (∀ v ∈ ws, v < 65536) → foldW ws < 65536 ^ n := by
  intro n
  induction n with
  | zero => intro ws h _; rw [List.eq_nil_of_length_eq_zero h]; decide
  | succ n ih =>
    intro ws h hb
    have hne : ws ≠ [] := fun e => by rw [e] at h; cases h
    rw [← List.dropLast_concat_getLast hne, foldW_snoc]
    have h1 := ih ws.dropLast (by rw [List.length_dropLast]; omega) (fun v hv => hb v (List.dropLast_subset _ hv))
    have h2 := hb _ (List.getLast_mem hne)
    rw [Nat.pow_succ]
    omega
/-- One step of the loop. -/
theorem stepW (a v i : Nat) (ha : a < 65536 ^ i) (hi : i < 4) (hv : v < 65536) : bits .or .u64 (IntKind.u64.wrap ((a : Int) * 65536)) (v : Int) = ((a * 65536 + v : Nat) : Int) := by
  have hp : 65536 ^ i ≤ 281474976710656 := Nat.le_trans (Nat.pow_le_pow_right (show 0 < 65536 by decide) (show i ≤ 3 by omega)) (by decide)
  have e1 : IntKind.u64.wrap ((a : Int) * 65536) = ((a * 65536 : Nat) : Int) := by rw [u64_small (by omega) (by omega)]; omega
  rw [e1, u64_or_nat _ _ (by omega) (by omega), nat_join 16 _ _ (by omega) (by omega)]

theorem lay2_here {W : World} {g t : Nat} {a0 a1 : Value} (h : W.heap[g]? = some (.cells #[a0, a1] t (0, 0))) (c0 c1 : Value) : ((W.setCell ⟨g, 0, none⟩ c0).setCell ⟨g, 1, none⟩ c1).heap[g]? = some (.cells #[c0, c1] t (0, 0)) := by
  have e0 := blk_set h 0 c0
  simp only [List.setIfInBounds_toArray, List.set_cons_zero] at e0
  have e1 := blk_set e0 1 c1
  simp only [List.setIfInBounds_toArray, List.set_cons_zero, List.set_cons_succ] at e1
  exact e1
theorem below2 {w W : World} (h : Below w.heap.size w W) (c0 c1 : Value) : Below w.heap.size w ((W.setCell ⟨w.heap.size, 0, none⟩ c0).setCell ⟨w.heap.size, 1, none⟩ c1) := (h.setCell (p := ⟨w.heap.size, 0, none⟩) (Nat.le_refl _) c0).setCell (p := ⟨w.heap.size, 1, none⟩) (Nat.le_refl _) c1

theorem ints_zeros (l : List Nat) (a b : Nat) (h : a + b ≤ 8) : ints l ++ List.replicate ((8 : Int) - ((a : Int) + (b : Int))).toNat 0 = ints (l ++ List.replicate (8 - (a + b)) 0) := by
  have e : ((8 : Int) - ((a : Int) + (b : Int))).toNat = 8 - (a + b) := by omega
  rw [e]
  unfold ints
  simp
theorem ints_append (a b : List Nat) : ints a ++ ints b = ints (a ++ b) := by unfold ints; simp

set_option maxRecDepth 20000 in
set_option maxHeartbeats 4000000 in
theorem address_is (s : ByteArray) (hi lo : Nat) (b : Bool) (w : World) (h : Env w) (hs : s.size < 900000) (hx : addrX s = (hi, lo, b)) :
    Calls Tryd.prog 38 #[.string s] w fun e w' => e = .returned (.tuple #[.agg #[.int .u64 hi, .int .u64 lo], .bool b]) ∧ Below w.heap.size w w' := by
  have H0 := Lib.hid h
  have HX := Lib.hid hx
  clear h hx
  go_enter Tryd.func38, Tryd.ntmps38
  go_wp2_with fail
  obtain ⟨w1, hw1⟩ : ∃ w1, w1 = w.alloc (.cells #[.int .u64 0, .int .u64 0] 24 (0, 0)) := ⟨_, rfl⟩
  have k1 : w1.heap[w.heap.size]? = some (.cells #[.int .u64 0, .int .u64 0] 24 (0, 0)) := by rw [hw1]; exact blk_new _ _
  have b1 : Below w.heap.size w w1 := by rw [hw1]; exact below_alloc (Below.refl _ _) _
  have hz1 : w.heap.size < w1.heap.size := blk_lt k1
  rw [← hw1]
  clear hw1
  have B1 := Lib.hid b1
  have K1 := Lib.hid k1
  have E1 := Lib.hid (H0.out.below b1)
  clear b1 k1
  obtain ⟨m, hm⟩ := E1.out.m
  refine (Tryd.strings_Cut s ⟨#[58, 58]⟩ m w1 (by omega) hm).mono ?_
  rintro e w2 ⟨rfl, n2, hw2⟩
  have b2 : Below w1.heap.size w1 w2 := by rw [hw2]; exact pw_below_drewN (Below.refl _ _) n2
  have hgl := gap_len s
  obtain ⟨lb, hlb⟩ : ∃ lb, lb = ba (gapL s) := ⟨_, rfl⟩
  obtain ⟨rb, hrb⟩ : ∃ rb, rb = ba (gapR s) := ⟨_, rfl⟩
  obtain ⟨gb, hgb⟩ : ∃ gb, gb = gapB s := ⟨_, rfl⟩
  have el : ({ data := (Lib.cut s.data.toList (⟨#[58, 58]⟩ : ByteArray).data.toList).1.toArray } : ByteArray) = lb := by rw [hlb]; rfl
  have er : ({ data := (Lib.cut s.data.toList (⟨#[58, 58]⟩ : ByteArray).data.toList).2.1.toArray } : ByteArray) = rb := by rw [hrb]; rfl
  have eo : (Lib.cut s.data.toList (⟨#[58, 58]⟩ : ByteArray).data.toList).2.2 = gb := by rw [hgb]; rfl
  rw [el, er, eo]
  have hlz : lb.size < 900000 := by rw [hlb]; unfold ba; rw [ba_size]; omega
  have hrz : rb.size < 900000 := by rw [hrb]; unfold ba; rw [ba_size]; omega
  have LB := Lib.hid (show lb.data.toList = gapL s by rw [hlb]; rfl)
  have RB := Lib.hid (show rb.data.toList = gapR s by rw [hrb]; rfl)
  have GB := Lib.hid hgb
  have B2 := Lib.hid (B1.out.trans (b2.mono B1.out.size))
  have K2 := Lib.hid (blk_below K1.out b2)
  have E2 := Lib.hid (E1.out.below b2)
  have hz2 : w.heap.size < w2.heap.size := blk_lt K2.out
  clear el er eo hlb hrb hgb hw2 b2 hm hgl B1 K1 E1 hz1
  go_wp2_with fail
  refine (list_is lb w2 E2.out (by omega)).mono ?_
  rintro e w3 ⟨v3, rfl, r3, b3⟩
  have B3 := Lib.hid (B2.out.trans (b3.mono B2.out.size))
  have K3 := Lib.hid (blk_below K2.out b3)
  have E3 := Lib.hid (E2.out.below b3)
  rw [LB.out] at r3 ⊢
  obtain ⟨A3, c3, hv3⟩ := Kd.R_slice r3
  subst hv3
  rw [ints_len] at r3 ⊢
  have R3 := Lib.hid (Kd.R_lower (Kd.R_mono (Kd.R_bound r3) (fun j hj => show j ≠ w.heap.size by omega)) (Nat.le_of_lt hz2))
  clear r3 b3 B2 K2 E2
  go_wp2_with fail
  refine (list_is rb w3 E3.out (by omega)).mono ?_
  rintro e w4 ⟨v4, rfl, r4, b4⟩
  have B4 := Lib.hid (B3.out.trans (b4.mono B3.out.size))
  have K4 := Lib.hid (blk_below K3.out b4)
  rw [RB.out] at r4 ⊢
  obtain ⟨A4, c4, hv4⟩ := Kd.R_slice r4
  subst hv4
  rw [ints_len] at r4 ⊢
  have R4 := Lib.hid (Kd.R_lower (Kd.R_newR r4 R3.out) B3.out.size)
  have R34 := Lib.hid (Kd.R_below R3.out b4)
  clear r4 b4 B3 K3 E3 R3
  have hL1 : ((listX (gapL s)).getD []).length ≤ 900001 := by
    cases hl : listX (gapL s) with
    | none => simp
    | some l => have := listX_len hl; have := gap_len s; simp only [Option.getD_some]; omega
  have hL2 : ((listX (gapR s)).getD []).length ≤ 900001 := by
    cases hl : listX (gapR s) with
    | none => simp
    | some l => have := listX_len hl; have := gap_len s; simp only [Option.getD_some]; omega
  have hAX := HX.out
  unfold addrX wordsX at hAX
  rw [← GB.out] at hAX
  have LT1 := Lib.hid (fun (l : List Nat) (hl : listX (gapL s) = some l) => listX_lt hl)
  have LT2 := Lib.hid (fun (l : List Nat) (hl : listX (gapR s) = some l) => listX_lt hl)
  have HAX := Lib.hid hAX
  clear hAX HX GB
  obtain ⟨ol, hol⟩ : ∃ ol, ol = listX (gapL s) := ⟨_, rfl⟩
  obtain ⟨or_, hor⟩ : ∃ or_, or_ = listX (gapR s) := ⟨_, rfl⟩
  rw [← hol] at HAX R34 R4 hL1 LT1 ⊢
  rw [← hor] at HAX R4 hL2 LT2 ⊢
  clear hol hor LB RB
  cases ol with
  | none =>
    have hz := HAX.out
    simp only [Prod.mk.injEq] at hz
    obtain ⟨rfl, rfl, rfl⟩ := hz
    have q0 := blk_cell K4.out 0
    have q1 := blk_cell K4.out 1
    simp only [List.getElem?_toArray, List.getElem?_cons_zero, List.getElem?_cons_succ] at q0 q1
    have f2 := fun i => blk_frozen K4.out i
    clear HAX R4 R34 LT1 LT2
    go_wp2
    (try simp only [Exit.inBlock, Exit.then])
    refine bodyPost_ret (v := .tuple #[.agg #[.int .u64 0, .int .u64 0], .bool false]) (results_ct (fn := Tryd.f38) rfl _ _ w.heap.size 24 _ (0, 0) _ _ rfl rfl (lay2_here K4.out _ _) Tryd.underlying24 rfl (by kernel_rfl)) rfl ?_
    exact ⟨rfl, below2 B4.out _ _⟩
  | some l =>
    cases or_ with
    | none =>
      have hz := HAX.out
      simp only [Prod.mk.injEq] at hz
      obtain ⟨rfl, rfl, rfl⟩ := hz
      have q0 := blk_cell K4.out 0
      have q1 := blk_cell K4.out 1
      simp only [List.getElem?_toArray, List.getElem?_cons_zero, List.getElem?_cons_succ] at q0 q1
      have f2 := fun i => blk_frozen K4.out i
      clear HAX R4 R34 LT1 LT2
      go_wp2
      (try simp only [Exit.inBlock, Exit.then])
      refine bodyPost_ret (v := .tuple #[.agg #[.int .u64 0, .int .u64 0], .bool false]) (results_ct (fn := Tryd.f38) rfl _ _ w.heap.size 24 _ (0, 0) _ _ rfl rfl (lay2_here K4.out _ _) Tryd.underlying24 rfl (by kernel_rfl)) rfl ?_
      exact ⟨rfl, below2 B4.out _ _⟩
    | some r =>
      simp only [Option.getD_some] at hL1 hL2 R34 R4 HAX ⊢
      by_cases hbad : (if gb = true then decide (l.length + r.length ≤ 7) else decide (l.length + r.length = 8)) = false
      · have HAX2 := Lib.hid (show ((0, 0, false) : Nat × Nat × Bool) = (hi, lo, b) by have := HAX.out; rw [hbad, if_neg Bool.false_ne_true] at this; exact this)
        clear HAX
        have HAX := HAX2
        clear HAX2
        cases gb with
        | true =>
          have h7 : ¬ (l.length + r.length ≤ 7) := by simpa using hbad
          clear hbad
          have hz := HAX.out
          simp only [Prod.mk.injEq] at hz
          obtain ⟨rfl, rfl, rfl⟩ := hz
          have q0 := blk_cell K4.out 0
          have q1 := blk_cell K4.out 1
          simp only [List.getElem?_toArray, List.getElem?_cons_zero, List.getElem?_cons_succ] at q0 q1
          have f2 := fun i => blk_frozen K4.out i
          clear HAX R4 R34 LT1 LT2
          go_wp2
          (try simp only [Exit.inBlock, Exit.then])
          refine bodyPost_ret (v := .tuple #[.agg #[.int .u64 0, .int .u64 0], .bool false]) (results_ct (fn := Tryd.f38) rfl _ _ w.heap.size 24 _ (0, 0) _ _ rfl rfl (lay2_here K4.out _ _) Tryd.underlying24 rfl (by kernel_rfl)) rfl ?_
          exact ⟨rfl, below2 B4.out _ _⟩
        | false =>
          have h8 : ¬ (l.length + r.length = 8) := by simpa using hbad
          have h8' : ¬ ((l.length : Int) + (r.length : Int) = 8) := by omega
          have h8b : (((l.length : Int) + (r.length : Int)) == 8) = false := by simp only [beq_eq_false_iff_ne, ne_eq]; exact h8'
          have h8c : (((l.length : Int) + (r.length : Int)) != 8) = true := by simp only [bne_iff_ne, ne_eq]; exact h8'
          clear hbad h8 h8'
          have hz := HAX.out
          simp only [Prod.mk.injEq] at hz
          obtain ⟨rfl, rfl, rfl⟩ := hz
          have q0 := blk_cell K4.out 0
          have q1 := blk_cell K4.out 1
          simp only [List.getElem?_toArray, List.getElem?_cons_zero, List.getElem?_cons_succ] at q0 q1
          have f2 := fun i => blk_frozen K4.out i
          clear HAX R4 R34 LT1 LT2
          go_wp2
          (try simp only [Exit.inBlock, Exit.then])
          refine bodyPost_ret (v := .tuple #[.agg #[.int .u64 0, .int .u64 0], .bool false]) (results_ct (fn := Tryd.f38) rfl _ _ w.heap.size 24 _ (0, 0) _ _ rfl rfl (lay2_here K4.out _ _) Tryd.underlying24 rfl (by kernel_rfl)) rfl ?_
          exact ⟨rfl, below2 B4.out _ _⟩
      · have hgood : (if gb = true then decide (l.length + r.length ≤ 7) else decide (l.length + r.length = 8)) = true := by
          cases h : (if gb = true then decide (l.length + r.length ≤ 7) else decide (l.length + r.length = 8)) with
          | true => rfl
          | false => exact absurd h hbad
        have hn8 : l.length + r.length ≤ 8 := by
          cases gb with
          | true => have : l.length + r.length ≤ 7 := by simpa using hgood
                    omega
          | false => have : l.length + r.length = 8 := by simpa using hgood
                     omega
        have hz := HAX.out
        rw [hgood, if_pos rfl] at hz
        simp only [Prod.mk.injEq] at hz
        obtain ⟨hhi, hlo, rfl⟩ := hz
        have HHI := Lib.hid hhi
        have HLO := Lib.hid hlo
        clear HAX hbad hhi hlo
        go_upto_region 5 with (fail)
        go_cut [56] (fun v56 wc => v56 = .bool false ∧ Hid (wc = w4))
        case first =>
          cases gb with
          | true =>
            have h7 : l.length + r.length ≤ 7 := by simpa using hgood
            clear hgood
            go_wp2
            go_meet
            exact ⟨by first | rfl | (congr 1; exact decide_eq_false (by omega)), rfl⟩
          | false =>
            have h8 : l.length + r.length = 8 := by simpa using hgood
            have h8b : (((l.length : Int) + (r.length : Int)) == 8) = true := by simp only [beq_iff_eq]; omega
            have h8c : (((l.length : Int) + (r.length : Int)) != 8) = false := by simp only [bne_eq_false_iff_eq]; omega
            clear hgood h8
            go_wp2
            go_meet
            exact ⟨by first | rfl | (congr 1; exact decide_eq_false (by omega)), rfl⟩
        case rest =>
          obtain ⟨rfl, hcw0⟩ := hcut
          have hcw := hcw0.out.symm
          clear hcw0
          subst hcw
          obtain ⟨ws, hws⟩ : ∃ ws, ws = l ++ List.replicate (8 - (l.length + r.length)) 0 ++ r := ⟨_, rfl⟩
          have HWS := Lib.hid hws
          have hwl : ws.length = 8 := by rw [hws]; simp only [List.length_append, List.length_replicate]; omega
          have HWL := Lib.hid hwl
          clear hws hwl
          go_wp2_with (first
            | ((with_reducible refine gate_builtin (b := .append) (xs := #[.tmp 58, .tmp 60]) rfl ?_); at_builtin; refine Kd.R_append_zeros (Kd.int .u64) (w0 := w) (W := w4) w.heap.size rfl (.tmp 58) (.tmp 60) 61 3 22 (.int .u64 0) 8 rfl Tryd.underlying61 Tryd.underlying3 info22 rfl (by decide) (by decide) (.slice A3 l.length c3) (ints l) (0 : Int) ((8 : Int) - ((l.length : Int) + (r.length : Int))) (fun j => j ≠ w.heap.size) rfl rfl rfl (fun j hj => by have := blk_lt K4.out; omega) R34.out (by omega) B4.out B4.out.size (by rw [ints_len]; omega) ?_; intro v5 w5 ho hb hg hat; rw [ints_zeros l _ _ hn8] at ho; obtain ⟨A5, c5, he⟩ := Kd.R_slice ho; subst he; have K5 := Lib.hid (blk_grown K4.out hg (fun e => (R34.out.1 _ e.symm) rfl)); have R5 := Lib.hid (Kd.R_after R4.out hg hat); have O5 := Lib.hid ho; have B5 := Lib.hid hb; clear ho hb hg hat R4 R34 K4 B4)
            | ((with_reducible refine gate_builtin (b := .append) (xs := #[.tmp 61, .tmp 62]) rfl ?_); at_builtin; refine Kd.R_append_rows (Kd.int .u64) (w0 := w) (W := w5) w.heap.size rfl (.tmp 61) (.tmp 62) 61 22 (.int .u64 0) 8 rfl Tryd.underlying61 info22 rfl (by decide) (by decide) (.slice A5 (ints (l ++ List.replicate (8 - (l.length + r.length)) 0)).length c5) (ints (l ++ List.replicate (8 - (l.length + r.length)) 0)) (ints r) A4 r.length c4 (fun j => j ≠ w.heap.size) (fun k_ => some k_ ≠ (.slice A5 (ints (l ++ List.replicate (8 - (l.length + r.length)) 0)).length c5 : Value).ownBlock ∧ k_ ≠ w.heap.size) rfl rfl O5.out (by have := (Kd.R_reads' R5.out).2.2; rw [ints_len] at this; exact this) (fun _ _ h => h) (fun k_ hk => ⟨hk.2, hk.1⟩) (fun j hj => by have := blk_lt K5.out; omega) B5.out B5.out.size (by rw [ints_len, List.length_append, List.length_replicate]; omega) ?_; intro v6 w6 ho hb hg hat; rw [ints_append, ← HWS.out] at ho; obtain ⟨A6, c6, he⟩ := Kd.R_slice ho; subst he; rw [ints_len ws] at ho ⊢; have K6 := Lib.hid (blk_grown K5.out hg (fun e => (O5.out.1 _ e.symm) rfl)); have O6 := Lib.hid ho; have B6 := Lib.hid hb; clear ho hb hg hat R5 O5 K5 B5))
          obtain ⟨w7, hw7⟩ : ∃ w7, w7 = w6.alloc (.cells #[.int .u64 0, .int .u64 0] 24 (0, 0)) := ⟨_, rfl⟩
          have k7 : w7.heap[w6.heap.size]? = some (.cells #[.int .u64 0, .int .u64 0] 24 (0, 0)) := by rw [hw7]; exact blk_new _ _
          have b7 : Below w6.heap.size w6 w7 := by rw [hw7]; exact below_alloc (Below.refl _ _) _
          rw [← hw7, HWL.out]
          have B7 := Lib.hid b7
          have K7 := Lib.hid k7
          have hg6 : w.heap.size < w6.heap.size := blk_lt K6.out
          have hlt : ∀ v ∈ ws, v < 65536 := by
            rw [HWS.out]
            intro v hv
            rcases List.mem_append.mp hv with hv | hv
            · rcases List.mem_append.mp hv with hv | hv
              · exact LT1.out l rfl v hv
              · rw [List.eq_of_mem_replicate hv]; decide
            · exact LT2.out r rfl v hv
          have HLT := Lib.hid hlt
          clear hw7 k7 b7 hlt LT1 LT2
          obtain ⟨g, cap, hge, hbg, hg, _⟩ := Kd.R_form O6.out (by rw [ints_len, HWL.out]; omega)
          simp only [Value.slice.injEq] at hge
          obtain ⟨rfl, _, rfl⟩ := hge
          go_loopw [64] (fun v64 wr => ∃ (i a c : Nat), i ≤ 4 ∧ v64 = .int .i64 i ∧ Hid (a = foldW (ws.take i)) ∧ Hid (c = foldW ((ws.drop 4).take i)) ∧ Hid (Below w6.heap.size w6 wr) ∧ Hid (wr.heap[w6.heap.size]? = some (.cells #[.int .u64 a, .int .u64 c] 24 (0, 0)))) (fun v64 _ => 4 - (intOf v64).toNat)
          case atStart => exact ⟨0, 0, 0, by omega, rfl, rfl, rfl, B7.out, K7.out⟩
          case round =>
            clear B7 K7
            obtain ⟨i, a, c, hi4, rfl, HA, HC, HB, HK⟩ := hrel
            by_cases hlt : i < 4
            · have hC := Kd.C_below (Kd.R_reads' O6.out).2.2 HB.out
              have hwl := HWL.out
              obtain ⟨ad, hA, hx1⟩ := Kd.at_int hC (i : Int) (by omega) (by rw [ints_len]; omega)
              cases hA
              obtain ⟨ad', hA', hx2⟩ := Kd.at_int hC (4 + (i : Int)) (by omega) (by rw [ints_len]; omega)
              cases hA'
              have ht4 : ((4 : Int) + (i : Int)).toNat = 4 + i := by omega
              have hr2 := rd_ints ws (4 + i) (by omega)
              rw [show ((4 + i : Nat) : Int) = 4 + (i : Int) by omega] at hr2
              rw [rd_ints ws i (by omega), Int.toNat_natCast, Lib.add_plain, Nat.zero_add] at hx1
              rw [hr2, ht4, Lib.add_plain, Nat.zero_add] at hx2
              obtain ⟨x1, hx1e⟩ : ∃ x, x = ws[i]'(by omega) := ⟨_, rfl⟩
              obtain ⟨x2, hx2e⟩ : ∃ x, x = ws[4 + i]'(by omega) := ⟨_, rfl⟩
              rw [← hx1e] at hx1
              rw [← hx2e] at hx2
              have hb1 : x1 < 65536 := by rw [hx1e]; exact HLT.out _ (List.getElem_mem _)
              have hb2 : x2 < 65536 := by rw [hx2e]; exact HLT.out _ (List.getElem_mem _)
              have HA2 := Lib.hid (show a * 65536 + x1 = foldW (ws.take (i + 1)) by rw [List.take_succ_eq_append_getElem (by omega), foldW_snoc, ← HA.out, hx1e])
              have HC2 := Lib.hid (show c * 65536 + x2 = foldW ((ws.drop 4).take (i + 1)) by
                rw [List.take_succ_eq_append_getElem (by rw [List.length_drop]; omega), foldW_snoc, ← HC.out, List.getElem_drop, hx2e])
              have ha4 : a < 65536 ^ i := by rw [HA.out]; exact foldW_lt i _ (by rw [List.length_take]; omega) (fun v hv => HLT.out v (List.mem_of_mem_take hv))
              have hc4 : c < 65536 ^ i := by rw [HC.out]; exact foldW_lt i _ (by rw [List.length_take, List.length_drop]; omega) (fun v hv => HLT.out v (List.mem_of_mem_drop (List.mem_of_mem_take hv)))
              have HS1 := Lib.hid (stepW a x1 i ha4 hlt hb1)
              have HS2 := Lib.hid (stepW c x2 i hc4 hlt hb2)
              have q0 := blk_cell HK.out 0
              have q1 := blk_cell HK.out 1
              simp only [List.getElem?_toArray, List.getElem?_cons_zero, List.getElem?_cons_succ] at q0 q1
              have f2 := fun i => blk_frozen HK.out i
              have hx2' : (wr.setCell ⟨w6.heap.size, 0, none⟩ (.int .u64 (bits .or .u64 (IntKind.u64.wrap ((a : Int) * 65536)) (x1 : Int)))).cell? ⟨g, 4 + i, none⟩ = some (.int .u64 x2) := by
                rw [World.cell?_setCell_other _ _ _ _ (fun e => by simp only [Addr.mk.injEq] at e; omega)]; exact hx2
              have c0 : (0 : Int) ≤ (i : Int) := by omega
              have c1 : (i : Int) < 8 := by omega
              have c2 : (0 : Int) ≤ 4 + (i : Int) := by omega
              have c3 : (4 : Int) + (i : Int) < 8 := by omega
              clear hx1e hx2e hwl hr2 hC ha4 hc4 HA HC
              have hw4 : IntKind.i64.wrap (4 + (i : Int)) = 4 + (i : Int) := by unfold IntKind.wrap; simp [IntKind.signed, IntKind.bits]; omega
              go_upto_block 1 with (fail)
              go_cut [] (fun wc => Hid (Below w6.heap.size w6 wc) ∧ Hid (wc.heap[w6.heap.size]? = some (.cells #[.int .u64 ((a * 65536 + x1 : Nat) : Int), .int .u64 ((c * 65536 + x2 : Nat) : Int)] 24 (0, 0))))
              case first =>
                have K9 := Lib.hid ((lay2_here HK.out (.int .u64 (bits .or .u64 (IntKind.u64.wrap ((a : Int) * 65536)) (x1 : Int))) (.int .u64 (bits .or .u64 (IntKind.u64.wrap ((c : Int) * 65536)) (x2 : Int)))).trans (show _ = some (.cells #[.int .u64 ((a * 65536 + x1 : Nat) : Int), .int .u64 ((c * 65536 + x2 : Nat) : Int)] 24 (0, 0)) by rw [HS1.out, HS2.out]))
                have B9 := Lib.hid ((HB.out.setCell (p := ⟨w6.heap.size, 0, none⟩) (Nat.le_refl _) (.int .u64 (bits .or .u64 (IntKind.u64.wrap ((a : Int) * 65536)) (x1 : Int)))).setCell (p := ⟨w6.heap.size, 1, none⟩) (Nat.le_refl _) (.int .u64 (bits .or .u64 (IntKind.u64.wrap ((c : Int) * 65536)) (x2 : Int))))
                go_wp2_with fail
                go_region_law fail
                all_goals go_wp2
                all_goals go_meet
                all_goals exact ⟨below_drew B9.out, blk_drew K9.out⟩
              case rest =>
                obtain ⟨HB2, HK2⟩ := hcut
                clear HB HK q0 q1 f2 hx1 hx2 hx2' hw4
                go_wp2
                go_roundw
                case rel => exact ⟨i + 1, a * 65536 + x1, c * 65536 + x2, by omega, by go_num, HA2.out, HC2.out, HB2.out, HK2.out⟩
                case measure => simp [intOf]; omega
            · obtain rfl : i = 4 := by omega
              have hwl := HWL.out
              have ea : a = hi := by rw [HA.out, ← HHI.out, ← HWS.out]; rfl
              have ec : c = lo := by rw [HC.out, ← HLO.out, ← HWS.out]; rfl
              subst ea ec
              have q0 := blk_cell HK.out 0
              have q1 := blk_cell HK.out 1
              have K8 := blk_below K6.out HB.out
              have p0 := blk_cell K8 0
              have p1 := blk_cell K8 1
              simp only [List.getElem?_toArray, List.getElem?_cons_zero, List.getElem?_cons_succ] at q0 q1 p0 p1
              have f2 := fun i => blk_frozen K8 i
              have B8 := Lib.hid (B6.out.trans (HB.out.mono B6.out.size))
              have K8H := Lib.hid K8
              clear HB HK K8 HA HC HHI HLO hwl
              go_wp2
              (try simp only [Exit.inBlock, Exit.then])
              refine bodyPost_ret (v := .tuple #[.agg #[.int .u64 a, .int .u64 c], .bool true]) (results_ct (fn := Tryd.f38) rfl _ _ w.heap.size 24 _ (0, 0) _ _ rfl rfl (lay2_here K8H.out _ _) Tryd.underlying24 rfl (by kernel_rfl)) rfl ?_
              exact ⟨rfl, below2 B8.out _ _⟩
end Go.Proofs.YtjhlgfafjjmooaaDoor.Dot
