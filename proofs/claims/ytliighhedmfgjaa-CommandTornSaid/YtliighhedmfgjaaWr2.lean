/- Package command's writer: what edit, batch and all write. -/
import Derived.Test.YtliighhedmfgjaaWr
namespace Go.Proofs.Ytliighhedmfgjaa.Cmd
open Go.RowKit Go.Proofs.YtliighhedmfgjaaW.PrintWords Go.Proofs.YtliighhedmfgjaaW.PrintLast Go.Proofs.YtliighhedmfgjaaW.PrintMore

def w64 (n : Int) : Int := IntKind.u64.wrap n
theorem w64_range (n : Int) : u64 (w64 n) := by
  show 0 ≤ n % 18446744073709551616 ∧ n % 18446744073709551616 < 18446744073709551616
  omega
def prefB (hi lo len : Int) : List Int := be 8 hi ++ be 8 lo ++ be 1 (w64 len)
def prefX (len : Int) : Bool := decide (len < 0) || decide (255 < len)
def editB (kind hop phi plo plen : Int) : List Int := be 1 (w64 kind) ++ if kind = 1 then prefB phi plo plen ++ be 4 (w64 hop) else if kind = 2 then prefB phi plo plen else []
def editX (kind hop plen : Int) : Bool := if kind = 1 then prefX plen || (decide (hop < 0) || decide (2147483647 < hop)) else if kind = 2 then prefX plen else true
theorem prefB_length (hi lo len : Int) : (prefB hi lo len).length = 17 := by simp only [prefB, List.length_append, be_length]

set_option maxRecDepth 20000 in
set_option maxHeartbeats 2000000 in
theorem edit_is (w0 W : World) (B wb : Nat) (kind hop nn phi plo plen ahi alo seed : Int) (A6 : Option Addr) (n6 c6 : Nat) (bs : List Int) (bad : Bool) (h : WS w0 W B wb bs bad) (h1 : u64 phi) (h2 : u64 plo) (hl : bs.length ≤ 700000000) :
    Calls Try.prog 15 #[.pointer (some ⟨wb, 0, none⟩), .agg #[.int .i64 kind, .int .i64 hop, .int .i64 nn, .int .u64 phi, .int .u64 plo, .int .i64 plen, .int .u64 ahi, .int .u64 alo, .int .u64 seed, .slice A6 n6 c6]] W fun e w' =>
      e = .returned (.tuple #[]) ∧ WS w0 w' B wb (bs ++ editB kind hop phi plo plen) (bad || editX kind hop plen) ∧ Keeps W w' wb := by
  have H := Lib.hid h
  have hlt : wb < W.heap.size := by obtain ⟨v, hb, _⟩ := h.is; exact blk_lt hb
  clear h
  go_enter Try.func15, Try.ntmps15
  go_wp2_with fail
  refine (put_is w0 _ B wb 1 _ bs bad (H.out.below (below_alloc (Below.refl _ _) _)) (w64_range kind) (by omega) (by omega)).mono ?_
  rintro e w1 ⟨rfl, s1, k1⟩
  have hb := k1 W.heap.size _ 29 (blk_new _ _) (by decide) (by omega)
  have q0 := blk_cell hb 0
  have q1 := blk_cell hb 1
  have q3 := blk_cell hb 3
  have q4 := blk_cell hb 4
  have q5 := blk_cell hb 5
  simp only [List.getElem?_toArray, List.getElem?_cons_zero, List.getElem?_cons_succ] at q0 q1 q3 q4 q5
  have HB := Lib.hid hb
  have HK1 := Lib.hid (((Keeps.refl W wb).below (below_alloc (Below.refl _ _) _)).trans k1)
  have hlt1 : wb < w1.heap.size := by obtain ⟨v, hb, _⟩ := s1.is; exact blk_lt hb
  have S1 := Lib.hid s1
  clear hb k1 s1
  by_cases e1 : kind = 1
  · subst e1
    go_wp2_with fail
    refine (prefix_is w0 _ B wb phi plo plen _ bad S1.out h1 h2 (by rw [List.length_append, be_length]; omega)).mono ?_
    rintro e w2 ⟨rfl, s2, k2⟩
    have hb2 := k2 W.heap.size _ 29 HB.out (by decide) (by omega)
    have r1 := blk_cell hb2 1
    simp only [List.getElem?_toArray, List.getElem?_cons_zero, List.getElem?_cons_succ] at r1
    clear hb2
    go_wp2_with fail
    refine (number_is w0 _ B wb 4 hop 2147483647 _ _ s2 (by omega) (by simp only [List.length_append, be_length]; omega)).mono ?_
    rintro e w3 ⟨rfl, s3, k3⟩
    go_wp2
    go_end0
    refine ⟨rfl, ?_, HK1.out.trans (k2.trans k3)⟩
    have e1 : editB 1 hop phi plo plen = be 1 (w64 1) ++ (prefB phi plo plen ++ be 4 (w64 hop)) := rfl
    have e2 : editX 1 hop plen = (prefX plen || (decide (hop < 0) || decide (2147483647 < hop))) := rfl
    rw [e1, e2]
    simp only [prefB, prefX, List.append_assoc, Bool.or_assoc] at s3 ⊢
    exact s3
  · by_cases e2 : kind = 2
    · subst e2
      go_wp2_with fail
      refine (prefix_is w0 _ B wb phi plo plen _ bad S1.out h1 h2 (by rw [List.length_append, be_length]; omega)).mono ?_
      rintro e w2 ⟨rfl, s2, k2⟩
      go_wp2
      go_end0
      refine ⟨rfl, ?_, HK1.out.trans k2⟩
      have e1 : editB 2 hop phi plo plen = be 1 (w64 2) ++ prefB phi plo plen := rfl
      have e2 : editX 2 hop plen = prefX plen := rfl
      rw [e1, e2]
      simp only [prefB, prefX, List.append_assoc, Bool.or_assoc] at s2 ⊢
      exact s2
    · obtain ⟨v, hbv, _⟩ := S1.out.is
      have p1 := blk_cell hbv 1
      have f1 := blk_frozen hbv 1
      simp only [List.getElem?_toArray, List.getElem?_cons_zero, List.getElem?_cons_succ] at p1
      clear hbv
      go_wp2
      go_end0
      refine ⟨rfl, ?_, HK1.out.set 1 _⟩
      have e3 : editB kind hop phi plo plen = be 1 (w64 kind) := by unfold editB; rw [if_neg e1, if_neg e2, List.append_nil]
      have e4 : editX kind hop plen = true := by unfold editX; rw [if_neg e1, if_neg e2]
      rw [e3, e4, Bool.or_true]
      exact S1.out.setBad true

set_option maxRecDepth 20000 in
set_option maxHeartbeats 2000000 in
/-- What was written is handed back, or nothing. -/
theorem all_is (w0 W : World) (B wb : Nat) (bs : List Int) (bad : Bool) (h : WS w0 W B wb bs bad) :
    Calls Try.prog 16 #[.pointer (some ⟨wb, 0, none⟩)] W fun e w' => ∃ v, e = .returned v ∧ (Kd.int .u8).R 5 w' B (fun _ => True) v (if bad = true then [] else bs) ∧ w' = W := by
  obtain ⟨v, hb, hr⟩ := h.is
  have q0 := blk_cell hb 0
  have q1 := blk_cell hb 1
  simp only [List.getElem?_toArray, List.getElem?_cons_zero, List.getElem?_cons_succ] at q0 q1
  have HR := Lib.hid hr
  clear hb h
  obtain ⟨A, c, he⟩ := Kd.R_slice hr
  clear hr
  subst he
  cases bad with
  | true =>
    go_enter Try.func16, Try.ntmps16
    go_wp2
    go_ret
    exact ⟨_, rfl, Kd.R_nil _ _ _ _ _, rfl⟩
  | false =>
    go_enter Try.func16, Try.ntmps16
    go_wp2
    go_ret
    exact ⟨_, rfl, HR.out, rfl⟩
end Go.Proofs.Ytliighhedmfgjaa.Cmd
