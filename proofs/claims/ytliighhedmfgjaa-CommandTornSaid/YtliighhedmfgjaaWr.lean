/- Package command's writer: what its methods write. -/
import Derived.Test.YtliighhedmfgjaaProg
import Derived.Test.YtliighhedmfgjaaWMore
import Derived.Test.YtliighhedmfgjaaWRepsOne
import Derived.Lib.Hide
import Derived.WalkKit
import Derived.LoopTactic
import Derived.Outline
import Derived.WalkLawsBesides
import Derived.WalkSpells
import Derived.Deep.RegionHeld3
import Derived.Deep.RegionLaw
import Derived.Deep.AppendLies
import Derived.Deep.Cut
import Derived.Deep.CutRange
import Derived.StillTactics
namespace Go.Proofs.Ytliighhedmfgjaa.Cmd
open Go.RowKit Go.Proofs.YtliighhedmfgjaaW.PrintWords Go.Proofs.YtliighhedmfgjaaW.PrintLast Go.Proofs.YtliighhedmfgjaaW.PrintMore

theorem info5 : (Try.prog.info? 5).map (fun i => (i.zero, i.size, i.bytes)) = some (some (.int .u8 0), 1, 1) := by kernel_rfl

theorem wrap_of {n : Int} (h0 : -9223372036854775808 ≤ n) (h1 : n < 9223372036854775808) : wrap64 n = n := by unfold wrap64; omega
theorem i64_of {n : Int} (h0 : -9223372036854775808 ≤ n) (h1 : n < 9223372036854775808) : IntKind.i64.wrap n = n := by
  unfold IntKind.wrap
  simp only [IntKind.signed, IntKind.bits, Bool.true_and]
  split
  · rename_i h
    have := of_decide_eq_true h
    omega
  · rename_i h
    have := of_decide_eq_false (Bool.eq_false_iff.mpr h)
    omega

/-- A number's low k bytes, the highest first. -/
def be : Nat → Int → List Int
  | 0, _ => []
  | k + 1, n => (n / 2 ^ (8 * k)) % 256 :: be k n
theorem be_length : ∀ (k : Nat) (n : Int), (be k n).length = k
  | 0, _ => rfl
  | k + 1, n => by simp only [be, List.length_cons, be_length k n]

/-- At wb lies a writer that has written bs. -/
structure WS (w0 W : World) (B wb : Nat) (bs : List Int) (bad : Bool) : Prop where
  is : ∃ v, W.heap[wb]? = some (.cells #[v, .bool bad] 52 (0, 0)) ∧ (Kd.int .u8).R 5 W B (fun _ => True) v bs
  bel : Below B w0 W
  le : B ≤ wb
  size : B ≤ W.heap.size
section
variable {w0 W W1 : World} {B wb : Nat} {bs cs : List Int} {bad : Bool}
theorem WS.draw (h : WS w0 W B wb bs bad) (k : Nat) : WS w0 (W.drewN k) B wb bs bad := by
  obtain ⟨⟨v, h1, h2⟩, h3, h4, h5⟩ := h
  exact ⟨⟨v, h1, Kd.R_drewN h2 k⟩, pw_below_drewN h3 k, h4, h5⟩
theorem WS.below (h : WS w0 W B wb bs bad) (hb : Below W.heap.size W W1) : WS w0 W1 B wb bs bad := by
  obtain ⟨⟨v, h1, h2⟩, h3, h4, h5⟩ := h
  exact ⟨⟨v, (hb.block wb (blk_lt h1)).trans h1, Kd.R_below h2 hb⟩, h3.trans (hb.mono h5), h4, Nat.le_trans h5 hb.size⟩
theorem WS.setBad (h : WS w0 W B wb bs bad) (b : Bool) : WS w0 (W.setCell ⟨wb, 1, none⟩ (.bool b)) B wb bs b := by
  obtain ⟨⟨v, h1, h2⟩, h3, h4, h5⟩ := h
  exact ⟨⟨v, blk_set h1 1 _, Kd.R_set h2 h1 (by decide) 1 _⟩, h3.setCell h4 _, h4, by rw [World.size_setCell]; exact h5⟩
/-- Bytes are appended, and the writer's slice is stored. -/
theorem WS.app {v v1 : Value} (h1 : W.heap[wb]? = some (.cells #[v, .bool bad] 52 (0, 0))) (h2 : (Kd.int .u8).R 5 W1 B (fun _ => True) v1 cs) (hg : W.grownBy W1 v.ownBlock) (hne : some wb ≠ v.ownBlock) (hb : Below B w0 W1) (hle : B ≤ wb) (hs : B ≤ W1.heap.size) : WS w0 (W1.setCell ⟨wb, 0, none⟩ v1) B wb cs bad := by
  have h3 := blk_grown h1 hg hne
  exact ⟨⟨v1, blk_set h3 0 _, Kd.R_set h2 h3 (by decide) 0 _⟩, hb.setCell hle _, hle, by rw [World.size_setCell]; exact hs⟩
end
/-- No block is written but wb and rows of bytes. -/
def Keeps (W W1 : World) (wb : Nat) : Prop := ∀ (k : Nat) (cs : Array Value) (t : TypeId), W.heap[k]? = some (.cells cs t (0, 0)) → t ≠ 5 → k ≠ wb → W1.heap[k]? = some (.cells cs t (0, 0))
theorem Keeps.refl (W : World) (wb : Nat) : Keeps W W wb := fun _ _ _ h _ _ => h
theorem Keeps.trans {W W1 W2 : World} {wb : Nat} (h : Keeps W W1 wb) (g : Keeps W1 W2 wb) : Keeps W W2 wb := fun k cs t hk ht hw => g k cs t (h k cs t hk ht hw) ht hw
theorem Keeps.below {W W1 W2 : World} {wb : Nat} (h : Keeps W W1 wb) (g : Below W1.heap.size W1 W2) : Keeps W W2 wb := fun k cs t hk ht hw => (g.block k (blk_lt (h k cs t hk ht hw))).trans (h k cs t hk ht hw)
theorem Keeps.draw {W W1 : World} {wb : Nat} (h : Keeps W W1 wb) (n : Nat) : Keeps W (W1.drewN n) wb := fun k cs t hk ht hw => h k cs t hk ht hw
theorem Keeps.set {W W1 : World} {wb : Nat} (h : Keeps W W1 wb) (i : Nat) (u : Value) : Keeps W (W1.setCell ⟨wb, i, none⟩ u) wb := fun k cs t hk ht hw => (Below.heap_setCell W1 ⟨wb, i, none⟩ u k hw).trans (h k cs t hk ht hw)
theorem Keeps.grown {W W1 W2 : World} {wb B : Nat} {v : Value} {xs : List Int} (h : Keeps W W1 wb) (hv : (Kd.int .u8).R 5 W1 B (fun _ => True) v xs) (hg : W1.grownBy W2 v.ownBlock) : Keeps W W2 wb := fun k cs t hk ht hw => blk_grown (h k cs t hk ht hw) hg (Kd.R_ne hv (h k cs t hk ht hw) (Ne.symm ht))
theorem lit_one (k : IntKind) (e : Nat) (W : World) (base g : Nat) (x : Int) (hb : base ≤ W.heap.size) (hg : g = W.heap.size) : (Kd.int k).R e (W.alloc (.cells #[.int k x] e (0, 0))) base (fun _ => True) (.slice (some ⟨g, 0, none⟩) 1 1) [x] := by
  subst hg
  exact ⟨fun _ _ => trivial, OwnRow.lit (R := (Kd.int k).M (W.alloc (.cells #[.int k x] e (0, 0))) base (fun j => True ∧ some j ≠ (Value.slice (some ⟨W.heap.size, 0, none⟩) 1 1).ownBlock)) (ps := [x]) W base (inner := [.int k x]) (Reps.one (p := x) (v := .int k x) rfl (Reps.none _ _)) hb (by show 1 ≤ 9223372036854775807; decide)⟩

set_option maxRecDepth 20000 in
set_option maxHeartbeats 2000000 in
theorem put_is (w0 W : World) (B wb k : Nat) (n : Int) (bs : List Int) (bad : Bool) (h : WS w0 W B wb bs bad) (hn : 0 ≤ n ∧ n < 18446744073709551616) (hk : k ≤ 8) (hl : bs.length ≤ 1000000000) :
    Calls Try.prog 17 #[.pointer (some ⟨wb, 0, none⟩), .int .u64 n, .int .i64 k] W fun e w' => e = .returned (.tuple #[]) ∧ WS w0 w' B wb (bs ++ be k n) bad ∧ Keeps W w' wb := by
  have H := Lib.hid h
  clear h
  go_enter Try.func17, Try.ntmps17
  go_wp2_with fail
  go_loopw [6] (fun vi wr => ∃ (j : Nat) (cs : List Int), j ≤ k ∧ vi = .int .i64 ((j : Int) - 1) ∧ Hid (WS w0 wr B wb cs bad) ∧ Hid (cs ++ be j n = bs ++ be k n) ∧ Hid (Keeps W wr wb)) (fun i _ => (intOf i + 1).toNat)
  case atStart => exact ⟨k, bs, Nat.le_refl _, by go_num, H.out, rfl, Keeps.refl _ _⟩
  case round =>
    clear H
    obtain ⟨j, cs, hj, rfl, HS, HE, HK⟩ := hrel
    cases j with
    | zero =>
      go_wp2
      go_end0
      refine ⟨rfl, ?_⟩
      have e : cs = bs ++ be k n := by have := HE.out; simpa [be] using this
      rw [← e]
      exact ⟨HS.out, HK.out⟩
    | succ j =>
      obtain ⟨v, hb, ho⟩ := HS.out.is
      have q0 := blk_cell hb 0
      have f0 := blk_frozen hb 0
      have hlt : wb < wr.heap.size := blk_lt hb
      simp only [List.getElem?_toArray, List.getElem?_cons_zero] at q0
      have HB := Lib.hid hb
      have HO := Lib.hid ho
      clear hb ho
      have b0 : (0 : Int) ≤ (j : Int) := by omega
      have b1 : (j : Int) ≤ 7 := by omega
      obtain ⟨y, hy⟩ : ∃ y, IntKind.i64.wrap (8 * (j : Int)) = y := ⟨_, rfl⟩
      have hyj : y = 8 * (j : Int) := by rw [← hy]; exact i64_of (by omega) (by omega)
      have y0 : 0 ≤ y := by omega
      have y1 : y ≤ 64 := by omega
      have HYJ := Lib.hid hyj
      clear hyj
      have hcl : cs.length + j + 1 = bs.length + k := by have := congrArg List.length HE.out; simp only [List.length_append, be_length] at this; omega
      go_wp2_with fail
      have hlit := Kd.R_drew (lit_one .u8 5 wr wr.heap.size wr.heap.size (IntKind.u8.wrap (n / 2 ^ y.toNat)) (Nat.le_refl _) rfl)
      have HL := Lib.hid (Kd.R_reads' hlit).2.2
      clear hlit
      go_region_law (first
        | (refine Kd.R_append_rows_step (w0 := w0) (W := (wr.alloc (.cells #[.int .u8 (IntKind.u8.wrap (n / 2 ^ y.toNat))] 5 (0, 0))).drew) (Rr := fun x cs => cs = [Value.int .u8 x]) (Kd.int .u8) B (by rfl) _ _ 30 5 (.int .u8 0) 1 (by rfl) Try.underlying30 info5 rfl (by decide) (by decide) v cs [IntKind.u8.wrap (n / 2 ^ y.toNat)] (some ⟨wr.heap.size, 0, none⟩) 1 1 (fun _ => True) (fun _ => False) (by rfl) (by rfl) (Kd.R_drew (Kd.R_alloc HO.out _)) HL.out (fun x cs h => h) (fun _ hk => hk.elim) (fun _ _ => trivial) (below_drew (HS.out.bel.alloc HS.out.size _)) (Nat.le_trans HS.out.size (by simp)) (by omega) ?_; intro v5 w5 hown5 hB5 hg5 hat5; obtain ⟨A5, c5, he5⟩ := Kd.R_slice hown5; subst he5; have hb5 := blk_grown (g := wb) (o := .cells #[v, .bool bad] 52 (0, 0)) (blk_drew (blk_alloc HB.out _)) hg5 (Kd.R_ne HO.out HB.out (by decide)); have q5 := blk_cell hb5 0; have f5 := blk_frozen hb5 0; simp only [List.getElem?_toArray, List.getElem?_cons_zero] at q5; have HB5 := Lib.hid hb5; clear hb5))
      all_goals go_wp2
      all_goals go_roundw
      all_goals try (simp [intOf]; done)
      all_goals (refine ⟨j, cs ++ [IntKind.u8.wrap (n / 2 ^ y.toNat)], by omega, by go_num, ?_, ?_, ?_⟩)
      all_goals first
        | (have := HE.out; have e : y.toNat = 8 * j := (by have := HYJ.out; omega); simp only [be] at this; rw [List.append_assoc, e]; exact this)
        | exact Keeps.set (Keeps.grown (Keeps.below HK.out (below_drew ((Below.refl _ _).alloc (Nat.le_refl _) _))) (Kd.R_drew (Kd.R_alloc HO.out _)) hg5) 0 _
        | skip
      all_goals (have hw := WS.app (bad := bad) (blk_drew (blk_alloc HB.out _)) hown5 hg5 (Kd.R_ne HO.out HB.out (by decide)) hB5 HS.out.le (Nat.le_trans HS.out.size (Nat.le_trans (by simp) hg5.size)))
      all_goals (rw [show (cs ++ [IntKind.u8.wrap (n / 2 ^ y.toNat)]).length = cs.length + 1 by simp] at hw)
      all_goals exact hw

set_option maxRecDepth 20000 in
set_option maxHeartbeats 2000000 in
theorem number_is (w0 W : World) (B wb k : Nat) (n most : Int) (bs : List Int) (bad : Bool) (h : WS w0 W B wb bs bad) (hk : k ≤ 8) (hl : bs.length ≤ 1000000000) :
    Calls Try.prog 19 #[.pointer (some ⟨wb, 0, none⟩), .int .i64 n, .int .i64 k, .int .i64 most] W fun e w' => e = .returned (.tuple #[]) ∧ WS w0 w' B wb (bs ++ be k (IntKind.u64.wrap n)) (bad || decide (n < 0) || decide (most < n)) ∧ Keeps W w' wb := by
  obtain ⟨v, hb, ho⟩ := h.is
  have q1 := blk_cell hb 1
  have f1 := blk_frozen hb 1
  simp only [List.getElem?_toArray, List.getElem?_cons_zero, List.getElem?_cons_succ] at q1
  have hu : 0 ≤ IntKind.u64.wrap n ∧ IntKind.u64.wrap n < 18446744073709551616 := by
    show 0 ≤ n % 18446744073709551616 ∧ n % 18446744073709551616 < 18446744073709551616
    omega
  have HS := fun b => h.setBad b
  have H := Lib.hid HS
  clear hb ho HS h
  cases bad with
  | true =>
    go_enter Try.func19, Try.ntmps19
    go_wp2_with fail
    refine (put_is w0 _ B wb k _ bs true (H.out true) hu hk hl).mono ?_
    rintro e w1 ⟨rfl, h1, h2⟩
    go_wp2
    go_end0
    exact ⟨rfl, by simp [*], (Keeps.set (Keeps.refl _ _) 1 _).trans h2⟩
  | false =>
    by_cases c1 : n < 0
    · have c1' : decide (n < 0) = true := decide_eq_true c1
      go_enter Try.func19, Try.ntmps19
      go_wp2_with fail
      refine (put_is w0 _ B wb k _ bs true (H.out true) hu hk hl).mono ?_
      rintro e w1 ⟨rfl, h1, h2⟩
      go_wp2
      go_end0
      exact ⟨rfl, by simp [*], (Keeps.set (Keeps.refl _ _) 1 _).trans h2⟩
    · by_cases c2 : most < n
      · have c2' : decide (most < n) = true := decide_eq_true c2
        go_enter Try.func19, Try.ntmps19
        go_wp2_with fail
        refine (put_is w0 _ B wb k _ bs true (H.out true) hu hk hl).mono ?_
        rintro e w1 ⟨rfl, h1, h2⟩
        go_wp2
        go_end0
        exact ⟨rfl, by simp [*], (Keeps.set (Keeps.refl _ _) 1 _).trans h2⟩
      · have c1' : decide (n < 0) = false := decide_eq_false c1
        have c2' : decide (most < n) = false := decide_eq_false c2
        go_enter Try.func19, Try.ntmps19
        go_wp2_with fail
        refine (put_is w0 _ B wb k _ bs false (H.out false) hu hk hl).mono ?_
        rintro e w1 ⟨rfl, h1, h2⟩
        go_wp2
        go_end0
        exact ⟨rfl, by simp [*], (Keeps.set (Keeps.refl _ _) 1 _).trans h2⟩

def u64 (n : Int) : Prop := 0 ≤ n ∧ n < 18446744073709551616
set_option maxRecDepth 20000 in
set_option maxHeartbeats 2000000 in
theorem address_is (w0 W : World) (B wb : Nat) (hi lo : Int) (bs : List Int) (bad : Bool) (h : WS w0 W B wb bs bad) (h1 : u64 hi) (h2 : u64 lo) (hl : bs.length ≤ 900000000) :
    Calls Try.prog 18 #[.pointer (some ⟨wb, 0, none⟩), .agg #[.int .u64 hi, .int .u64 lo]] W fun e w' => e = .returned (.tuple #[]) ∧ WS w0 w' B wb (bs ++ be 8 hi ++ be 8 lo) bad ∧ Keeps W w' wb := by
  have H := Lib.hid h
  have hlt : wb < W.heap.size := by obtain ⟨v, hb, _⟩ := h.is; exact blk_lt hb
  clear h
  go_enter Try.func18, Try.ntmps18
  go_wp2_with fail
  refine (put_is w0 _ B wb 8 hi bs bad (H.out.below (below_alloc (Below.refl _ _) _)) h1 (by omega) (by omega)).mono ?_
  rintro e w1 ⟨rfl, s1, k1⟩
  have hb := k1 W.heap.size _ 24 (blk_new _ _) (by decide) (by omega)
  have q1 := blk_cell hb 1
  simp only [List.getElem?_toArray, List.getElem?_cons_zero, List.getElem?_cons_succ] at q1
  clear hb
  go_wp2_with fail
  refine (put_is w0 _ B wb 8 lo _ bad s1 h2 (by omega) (by rw [List.length_append, be_length]; omega)).mono ?_
  rintro e w2 ⟨rfl, s2, k2⟩
  go_wp2
  go_end0
  exact ⟨rfl, s2, ((Keeps.refl _ _).below (below_alloc (Below.refl _ _) _)).trans (k1.trans k2)⟩
set_option maxRecDepth 20000 in
set_option maxHeartbeats 2000000 in
theorem prefix_is (w0 W : World) (B wb : Nat) (hi lo len : Int) (bs : List Int) (bad : Bool) (h : WS w0 W B wb bs bad) (h1 : u64 hi) (h2 : u64 lo) (hl : bs.length ≤ 800000000) :
    Calls Try.prog 28 #[.pointer (some ⟨wb, 0, none⟩), .agg #[.int .u64 hi, .int .u64 lo, .int .i64 len]] W fun e w' => e = .returned (.tuple #[]) ∧ WS w0 w' B wb (bs ++ be 8 hi ++ be 8 lo ++ be 1 (IntKind.u64.wrap len)) (bad || decide (len < 0) || decide (255 < len)) ∧ Keeps W w' wb := by
  have H := Lib.hid h
  have hlt : wb < W.heap.size := by obtain ⟨v, hb, _⟩ := h.is; exact blk_lt hb
  clear h
  go_enter Try.func28, Try.ntmps28
  go_wp2_with fail
  refine (address_is w0 _ B wb hi lo bs bad (H.out.below (below_alloc (Below.refl _ _) _)) h1 h2 (by omega)).mono ?_
  rintro e w1 ⟨rfl, s1, k1⟩
  have hb := k1 W.heap.size _ 26 (blk_new _ _) (by decide) (by omega)
  have q2 := blk_cell hb 2
  simp only [List.getElem?_toArray, List.getElem?_cons_zero, List.getElem?_cons_succ] at q2
  clear hb
  go_wp2_with fail
  refine (number_is w0 _ B wb 1 len 255 _ bad s1 (by omega) (by simp only [List.length_append, be_length]; omega)).mono ?_
  rintro e w2 ⟨rfl, s2, k2⟩
  go_wp2
  go_end0
  exact ⟨rfl, s2, ((Keeps.refl _ _).below (below_alloc (Below.refl _ _) _)).trans (k1.trans k2)⟩
end Go.Proofs.Ytliighhedmfgjaa.Cmd
