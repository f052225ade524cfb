/- Package command's writer: a batch. -/
import Derived.Test.YtliighhedmfgjaaWr2
import Derived.Test.YtliighhedmfgjaaPRefCx0
namespace Go.Proofs.Ytliighhedmfgjaa.Cmd
open Go.RowKit Go.Proofs.Ytliighhedmfgjaa.PRefC Go.Proofs.YtliighhedmfgjaaW.PrintWords Go.Proofs.YtliighhedmfgjaaW.PrintLast Go.Proofs.YtliighhedmfgjaaW.PrintMore

def edB (x : S29) : List Int := editB x.f0 x.f1 x.f3.f0.f0 x.f3.f0.f1 x.f3.f1
def edX (x : S29) : Bool := editX x.f0 x.f1 x.f3.f1
def batchB (l : List S29) : List Int := be 1 (w64 l.length) ++ if 20 < l.length then [] else l.flatMap edB
def batchX (l : List S29) : Bool := decide (20 < l.length) || l.any edX
theorem edB_length (x : S29) : (edB x).length ≤ 22 := by
  unfold edB editB
  split
  · simp only [List.length_append, be_length, prefB_length]; omega
  · split
    · simp only [List.length_append, be_length, prefB_length]; omega
    · simp only [List.length_append, be_length, List.length_nil]; omega
theorem flat_length : ∀ l : List S29, (l.flatMap edB).length ≤ 22 * l.length
  | [] => by simp
  | x :: xs => by
    have := flat_length xs
    have := edB_length x
    simp only [List.flatMap_cons, List.length_append, List.length_cons]
    omega
def okA (x : S29) : Prop := u64 x.f3.f0.f0 ∧ u64 x.f3.f0.f1
theorem rd_at (l : List S29) (i : Nat) (hi : i < l.length) : rd_T29 l (i : Int) = l[i] := by
  unfold rd_T29
  rw [List.getD_eq_getElem?_getD, Int.toNat_natCast, List.getElem?_eq_getElem hi]; rfl
theorem take_flat (l : List S29) (i : Nat) (hi : i < l.length) : (l.take (i + 1)).flatMap edB = (l.take i).flatMap edB ++ edB (rd_T29 l i) := by
  rw [rd_at l i hi, List.take_succ_eq_append_getElem hi, List.flatMap_append]
  simp
theorem take_any (l : List S29) (i : Nat) (hi : i < l.length) : (l.take (i + 1)).any edX = ((l.take i).any edX || edX (rd_T29 l i)) := by
  rw [rd_at l i hi, List.take_succ_eq_append_getElem hi, List.any_append]
  simp

set_option maxRecDepth 20000 in
set_option maxHeartbeats 4000000 in
theorem batch_is (w0 W : World) (wb : Nat) (A : Option Addr) (c : Nat) (l : List S29) (bs : List Int) (h : WS w0 W w0.heap.size wb bs false) (hC : k29.C w0 A l.length l) (hok : ∀ x ∈ l, okA x) (hl : bs.length ≤ 1000) (hmax : l.length ≤ 9223372036854775807) :
    Calls Try.prog 20 #[.pointer (some ⟨wb, 0, none⟩), .slice A l.length c] W fun e w' => e = .returned (.tuple #[]) ∧ WS w0 w' w0.heap.size wb (bs ++ batchB l) (batchX l) ∧ Keeps W w' wb := by
  have H := Lib.hid h
  have HC := Lib.hid hC
  have HOK := Lib.hid hok
  clear h hC hok
  go_enter Try.func20, Try.ntmps20
  go_wp2_with fail
  refine (number_is w0 _ _ wb 1 (l.length : Int) 20 bs false H.out (by omega) (by omega)).mono ?_
  rintro e w1 ⟨rfl, s1, k1⟩
  obtain ⟨v, hb, _⟩ := s1.is
  have q1 := blk_cell hb 1
  have S1 := Lib.hid s1
  have K1 := Lib.hid k1
  clear hb s1 k1
  simp only [List.getElem?_toArray, List.getElem?_cons_zero, List.getElem?_cons_succ] at q1
  by_cases hlen : 20 < l.length
  · have c1 : (20 : Int) < (l.length : Int) := by omega
    have c0 : ¬ (l.length : Int) < 0 := by omega
    have q1' : w1.cell? ⟨wb, 1, none⟩ = some (.bool true) := by rw [q1, decide_eq_true c1, decide_eq_false c0]; rfl
    clear q1
    go_wp2
    (try simp only [Exit.inBlock, Exit.then])
    refine bodyPost_ret (results_none rfl _ _ _) rfl ?_
    refine ⟨rfl, ?_, K1.out⟩
    have := S1.out
    rw [decide_eq_true (show (20 : Int) < (l.length : Int) by omega), decide_eq_false (show ¬ (l.length : Int) < 0 by omega)] at this
    unfold batchB batchX
    rw [if_pos hlen, decide_eq_true hlen, List.append_nil]
    exact this
  · have c1 : ¬ (20 : Int) < (l.length : Int) := by omega
    have c0 : ¬ (l.length : Int) < 0 := by omega
    have q1' : w1.cell? ⟨wb, 1, none⟩ = some (.bool false) := by rw [q1, decide_eq_false c1, decide_eq_false c0]; rfl
    have s1 := S1.out
    rw [decide_eq_false c1, decide_eq_false c0] at s1
    have S2 := Lib.hid s1
    have hl20 : l.length ≤ 20 := by omega
    clear q1 S1 s1 c1 c0 hlen
    go_wp2_with fail
    go_loopw [16] (fun vi wr => ∃ i : Nat, i ≤ l.length ∧ vi = .int .i64 i ∧ Hid (WS w0 wr w0.heap.size wb (bs ++ be 1 (w64 l.length) ++ (l.take i).flatMap edB) ((l.take i).any edX)) ∧ Hid (Keeps W wr wb)) (fun i _ => l.length - (intOf i).toNat)
    case atStart => exact ⟨0, Nat.zero_le _, rfl, (by show WS _ _ _ _ _ _; have := S2.out; simpa [w64] using this), K1.out⟩
    case round =>
      clear S2 K1 q1'
      obtain ⟨i, hi, rfl, HS, HK⟩ := hrel
      by_cases hlt : i < l.length
      · obtain ⟨ad, A9, c9, hA, p0, p1, p2, p3, p4, p5, p6, p7, p8, p9, _, _⟩ := at_T29 (Kd.C_below HC.out HS.out.bel) (i : Int) (by omega) (by omega)
        subst hA
        simp only [Int.toNat_natCast] at p0 p1 p2 p3 p4 p5 p6 p7 p8 p9
        have hx := HOK.out (l[i]) (List.getElem_mem hlt)
        rw [← rd_at l i hlt] at hx
        have htf := take_flat l i hlt
        have hta := take_any l i hlt
        obtain ⟨x, hxe⟩ : ∃ x, x = rd_T29 l i := ⟨_, rfl⟩
        rw [← hxe] at p0 p1 p2 p3 p4 p5 p6 p7 p8 p9 hx htf hta
        have HX := Lib.hid hx
        have HTF := Lib.hid htf
        have HTA := Lib.hid hta
        have hfl := flat_length (l.take i)
        rw [List.length_take] at hfl
        have HFL : Hid ((bs ++ be 1 (w64 l.length) ++ (l.take i).flatMap edB).length ≤ 700000000) := by
          show (bs ++ be 1 (w64 l.length) ++ (l.take i).flatMap edB).length ≤ 700000000
          simp only [List.length_append, be_length]; omega
        clear hx htf hta hxe hfl
        have b1 : (i : Int) < (l.length : Int) := by omega
        go_wp2_with fail
        refine (edit_is w0 _ _ wb x.f0 x.f1 x.f2 x.f3.f0.f0 x.f3.f0.f1 x.f3.f1 x.f4.f0 x.f4.f1 x.f5 A9 x.f6.length c9 _ _ (HS.out.below (by repeat (first | exact Below.refl _ _ | apply below_alloc))) HX.out.1 HX.out.2 HFL.out).mono ?_
        rintro e w2 ⟨rfl, s2, k2⟩
        go_wp2
        go_roundw
        case rel =>
          refine ⟨i + 1, by omega, by go_num, ?_, HK.out.trans (((Keeps.refl _ _).below (by repeat (first | exact Below.refl _ _ | apply below_alloc))).trans k2)⟩
          show WS _ _ _ _ _ _
          rw [HTF.out, HTA.out, ← List.append_assoc]
          exact s2
        case measure => simp [intOf]; omega
      · obtain rfl : i = l.length := by omega
        go_wp2
        go_end0
        refine ⟨rfl, ?_, HK.out⟩
        have := HS.out
        rw [List.take_length] at this
        unfold batchB batchX
        rw [if_neg (by omega), decide_eq_false (by omega), Bool.false_or, ← List.append_assoc]
        exact this
end Go.Proofs.Ytliighhedmfgjaa.Cmd
