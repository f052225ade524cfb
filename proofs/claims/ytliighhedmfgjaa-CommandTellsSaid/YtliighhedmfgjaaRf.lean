/- The reference's reader of commands: what its numbers and prefixes are. -/
import Derived.Test.YtliighhedmfgjaaPl
namespace Go.Proofs.Ytliighhedmfgjaa.Cmd
open Go.RowKit Go.Proofs.Ytliighhedmfgjaa.PRefC Go.Proofs.YtliighhedmfgjaaW.PrintWords Go.Proofs.YtliighhedmfgjaaW.PrintLast Go.Proofs.YtliighhedmfgjaaW.PrintMore

/-- At rb lies the reference's reader with rs in front of it. -/
structure Rf (w0 W : World) (rb : Nat) (s : St) : Prop where
  is : ∃ A c, W.heap[rb]? = some (.cells #[.slice A s.1.length c, .bool s.2] 64 (0, 0)) ∧ s.1.length ≤ c ∧ (Kd.int .u8).C w0 A s.1.length s.1
  byte : Byte s.1
  bel : Below w0.heap.size w0 W
  le : w0.heap.size ≤ rb
  small : s.1.length ≤ 1000000000
section
variable {w0 W W1 : World} {rb : Nat} {s : St}
theorem Rf.below (h : Rf w0 W rb s) (hb : Below W.heap.size W W1) : Rf w0 W1 rb s := by
  obtain ⟨⟨A, c, h1, h2, h3⟩, h4, h5, h6, h7⟩ := h
  exact ⟨⟨A, c, (hb.block rb (blk_lt h1)).trans h1, h2, h3⟩, h4, h5.trans (hb.mono h5.size), h6, h7⟩
theorem Rf.lt (h : Rf w0 W rb s) : rb < W.heap.size := by obtain ⟨A, c, h1, _⟩ := h.is; exact blk_lt h1
theorem Rf.other {g : Nat} (h : Rf w0 W rb s) (hg : g ≠ rb) (hle : w0.heap.size ≤ g) (i : Nat) (u : Value) : Rf w0 (W.setCell ⟨g, i, none⟩ u) rb s := by
  obtain ⟨⟨A, c, h1, h2, h3⟩, h4, h5, h6, h7⟩ := h
  exact ⟨⟨A, c, (Below.heap_setCell W ⟨g, i, none⟩ u rb (Ne.symm hg)).trans h1, h2, h3⟩, h4, h5.setCell hle _, h6, h7⟩
end
/-- What is in front of it behind a number of k bytes: where there are none it stays. -/
def fs (k : Nat) (s : St) : St := if getX k s.1 s.2 = true then (s.1, true) else (s.1.drop k, false)

set_option maxRecDepth 20000 in
set_option maxHeartbeats 2000000 in
theorem fnum_st (w0 W : World) (rb k : Nat) (s : St) (h : Rf w0 W rb s) (hk : k ≤ 8) :
    Calls Try.prog 32 #[.pointer (some ⟨rb, 0, none⟩), .int .i64 k] W fun e w' => e = .returned (.int .u64 (gv k s)) ∧ Rf w0 w' rb (fs k s) ∧ Only W w' rb := by
  obtain ⟨A, c, hb, hc, hC⟩ := h.is
  have q0 := blk_cell hb 0
  have q1 := blk_cell hb 1
  have f0 := blk_frozen hb 0
  have f1 := blk_frozen hb 1
  simp only [List.getElem?_toArray, List.getElem?_cons_zero, List.getElem?_cons_succ] at q0 q1
  have HB := Lib.hid hb
  have HC := Lib.hid hC
  have H := Lib.hid h
  have hl := h.small
  clear hb hC h
  obtain ⟨rs, bad⟩ := s
  dsimp only at q0 q1 hc hl
  have none_ : Rf w0 (W.setCell ⟨rb, 1, none⟩ (.bool true)) rb (rs, true) := ⟨⟨A, c, blk_set HB.out 1 _, hc, HC.out⟩, H.out.byte, H.out.bel.setCell H.out.le _, H.out.le, hl⟩
  have NONE := Lib.hid none_
  clear none_
  cases bad with
  | true =>
    have e1 : getX k rs true = true := rfl
    have e2 : gv k (rs, true) = 0 := rfl
    have e3 : fs k (rs, true) = (rs, true) := by unfold fs; rw [if_pos e1]
    rw [e2, e3]
    go_enter Try.func32, Try.ntmps32
    go_wp2
    go_ret
    exact ⟨rfl, NONE.out, (Only.refl _ _).set 1 _⟩
  | false =>
    by_cases hlt : rs.length < k
    · have e1 : getX k rs false = true := by unfold getX; rw [decide_eq_true hlt]; rfl
      have e2 : gv k (rs, false) = 0 := by show getV k rs false = 0; unfold getV; rw [if_pos e1]
      have e3 : fs k (rs, false) = (rs, true) := by unfold fs; rw [if_pos e1]
      rw [e2, e3]
      have hlt' : (rs.length : Int) < (k : Int) := by omega
      go_enter Try.func32, Try.ntmps32
      go_wp2
      go_ret
      exact ⟨rfl, NONE.out, (Only.refl _ _).set 1 _⟩
    · have e1 : getX k rs false = false := by unfold getX; rw [decide_eq_false hlt]; rfl
      have e2 : gv k (rs, false) = valB (rs.take k) := by show getV k rs false = _; unfold getV; rw [if_neg (by rw [e1]; decide)]
      have e3 : fs k (rs, false) = (rs.drop k, false) := by unfold fs; rw [if_neg (by show ¬ getX k rs false = true; rw [e1]; decide)]
      rw [e2, e3]
      have hlt' : ¬ (rs.length : Int) < (k : Int) := by omega
      obtain ⟨i0, hi, hzz⟩ := Option.map_eq_some_iff.1 info5
      simp only [Prod.mk.injEq] at hzz
      obtain ⟨_, hsz, _⟩ := hzz
      obtain ⟨A', d1, d2, d3⟩ := print_drop_of (P := Try.prog) (Value.int .u8) (0 : Int) 30 5 .i64 Try.underlying30 hi hsz A c rs (k : Int) (by omega) (by omega) hc
      simp only [Int.toNat_natCast] at d1 d2 d3
      have hr := Kd.reads_of_C (d := (0 : Int)) HC.out
      have hCD : (Kd.int .u8).C w0 A' (rs.drop k).length (rs.drop k) := Kd.C_of_reads (d2 _ hr)
      have HCD := Lib.hid hCD
      have D3 := Lib.hid d3
      clear d2 hr hCD d3 NONE e1 e2 e3 hi hsz
      go_enter Try.func32, Try.ntmps32
      go_wp2_with fail
      go_loopw [5, 6] (fun vn vi wr => ∃ i : Nat, i ≤ k ∧ vn = .int .u64 (valB (rs.take i)) ∧ vi = .int .i64 i ∧ wr = W) (fun _ i _ => k - (intOf i).toNat)
      case atStart => exact ⟨0, Nat.zero_le _, rfl, rfl, rfl⟩
      case round =>
        obtain ⟨i, hi, rfl, rfl, rfl⟩ := hrel
        by_cases hik : i < k
        · obtain ⟨ad, hA, p0⟩ := Kd.at_int (Kd.C_below HC.out H.out.bel) (i : Int) (by omega) (by show (i : Int) < (rs.length : Int); omega)
          subst hA
          simp only [Int.toNat_natCast] at p0
          have hr1 := valB_range i (rs.take i) (by rw [List.length_take]; omega) (fun x hx => H.out.byte x (List.mem_of_mem_take hx))
          have hby := H.out.byte (rs[i]'(by omega)) (List.getElem_mem _)
          have hrd : rd rs (i : Int) = rs[i]'(by omega) := by
            unfold rd
            rw [List.getD_eq_getElem?_getD, Int.toNat_natCast, List.getElem?_eq_getElem (by omega)]; rfl
          have hsn : valB (rs.take (i + 1)) = valB (rs.take i) * 256 + rd rs i := by rw [hrd, List.take_succ_eq_append_getElem (by omega), valB_snoc]
          rw [← hrd] at hby
          obtain ⟨v, hv⟩ : ∃ v, v = valB (rs.take i) := ⟨_, rfl⟩
          obtain ⟨b, hbb⟩ : ∃ b, b = rd rs i := ⟨_, rfl⟩
          rw [← hv] at hr1 hsn ⊢
          have p0' : wr.cell? (ad.add i) = some (.int .u8 b) := by rw [hbb]; exact p0
          rw [← hbb] at hby hsn
          have hp7 : (256 : Int) ^ i ≤ 256 ^ 7 := by
            have := Nat.pow_le_pow_right (n := 256) (by omega) (show i ≤ 7 by omega)
            exact_mod_cast this
          have hv7 : v < 72057594037927936 := by
            have e : (256 : Int) ^ 7 = 72057594037927936 := by decide
            omega
          have hv0 : 0 ≤ v := hr1.1
          have HSN := Lib.hid hsn
          clear hr1 hp7 hsn hv hbb hrd p0
          have b1 : (i : Int) < (k : Int) := by omega
          have b2 : (i : Int) < (rs.length : Int) := by omega
          have b0 : (0 : Int) ≤ (i : Int) := by omega
          obtain ⟨hby0, hby1⟩ := hby
          go_wp2
          go_roundw
          case rel => exact ⟨i + 1, by omega, by rw [HSN.out, join8 v b hv0 hv7 hby0 hby1], by go_num, trivial⟩
          case measure => simp [intOf]; omega
        · obtain rfl : i = k := by omega
          go_wp2
          go_ret
          refine ⟨rfl, ⟨⟨A', c - i, ?_, D3.out, HCD.out⟩, fun x hx => H.out.byte x (List.mem_of_mem_drop hx), H.out.bel.setCell H.out.le _, H.out.le, by show (rs.drop i).length ≤ _; rw [List.length_drop]; omega⟩, (Only.refl _ _).set 0 _⟩
          show _ = some (Obj.cells #[.slice A' (rs.drop i).length (c - i), .bool false] 64 (0, 0))
          rw [List.length_drop]
          exact blk_set HB.out 0 _
end Go.Proofs.Ytliighhedmfgjaa.Cmd
