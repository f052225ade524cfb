/- Package cidr: a number in decimal. -/
import Derived.Test.YtjhlgfafjjmooaaDoorShelf
import Derived.Test.YtjhlgfafjjmooaaDoorPCidrTellsx0
import Derived.WalkSmall
import Derived.Lib.AtoiErrMem
namespace Go.Proofs.YtjhlgfafjjmooaaDoor.Dot
open Go.RowKit Go.Proofs.YtjhlgfafjjmooaaDoorW.PrintWords Go.Proofs.YtjhlgfafjjmooaaDoorW.PrintLast Go.Proofs.YtjhlgfafjjmooaaDoorW.PrintMore

theorem gM : Tryd.prog.globalNamed "internal/bytealg.MaxLen" = some 0 := by kernel_rfl
theorem gS : Tryd.prog.globalNamed "strconv.ErrSyntax" = some 1 := by kernel_rfl
theorem gR : Tryd.prog.globalNamed "strconv.ErrRange" = some 2 := by kernel_rfl
theorem gT : Tryd.prog.globalNamed "internal/strconv.uint64pow10" = some 3 := by kernel_rfl
/-- What the library's own variables hold. -/
structure Env (w : World) : Prop where
  m : ∃ m, w.cell? ⟨0, 0, none⟩ = some (.int .i64 m)
  tab : Lib.TabIs Tryd.prog w "internal/strconv.uint64pow10" .u64 Lib.pow10Tab
  syn : ∃ tp p, w.var? Tryd.prog "strconv.ErrSyntax" = some #[.iface tp p]
  rng : ∃ tp p, w.var? Tryd.prog "strconv.ErrRange" = some #[.iface tp p]
  le : 4 ≤ w.heap.size
theorem Env.below {w w1 : World} (h : Env w) (hb : Below w.heap.size w w1) : Env w1 := by
  obtain ⟨⟨m, hm⟩, ht, ⟨t1, p1, h1⟩, ⟨t2, p2, h2⟩, hle⟩ := h
  exact ⟨⟨m, (hb.cell (p := ⟨0, 0, none⟩) (by show 0 < w.heap.size; omega)).trans hm⟩, var?_below hb gT (by omega) ht, ⟨t1, p1, var?_below hb gS (by omega) h1⟩, ⟨t2, p2, var?_below hb gR (by omega) h2⟩, Nat.le_trans hle hb.size⟩
theorem below_sgrow (w : World) (os : Array Obj) : Below w.heap.size w (Sort.grow w os) := ⟨rfl, rfl, rfl, by simp [Sort.grow], fun k hk => by simp [Sort.grow, Array.getElem?_append_left hk]⟩

def numV (l : List UInt8) : Int := match Lib.atoiAll l with | .ok v => v | .range => Lib.atoiSat l | _ => 0
def numB (l : List UInt8) (top : Int) : Bool := match Lib.atoiAll l with | .ok v => decide (0 ≤ v) && (decide (v ≤ top) && decide (Lib.itoa v = l)) | _ => false

set_option maxRecDepth 20000 in
set_option maxHeartbeats 2000000 in
theorem number_is (s : ByteArray) (top : Int) (w : World) (hE : Env w) (hs : s.size ≤ 281474976710656) :
    Calls Tryd.prog 25 #[.string s, .int .i64 top] w fun e w' => e = .returned (.tuple #[.int .i64 (numV s.data.toList), .bool (numB s.data.toList top)]) ∧ Below w.heap.size w w' := by
  have HE := Lib.hid hE
  clear hE
  cases hA : Lib.atoiAll s.data.toList with
  | range =>
    have e1 : numV s.data.toList = Lib.atoiSat s.data.toList := by unfold numV; rw [hA]
    have e2 : numB s.data.toList top = false := by unfold numB; rw [hA]
    rw [e1, e2]
    obtain ⟨tp, p, hv⟩ := HE.out.rng
    go_enter Tryd.func25, Tryd.ntmps25
    go_wp2_with (first | (go_at_call 47; refine (Tryd.strconv_Atoi_range_var s hs hA tp p w hv).mono ?_; rintro e w1 ⟨N, rfl, _, _, b1⟩))
    go_ret2
    exact ⟨rfl, b1⟩
  | ok v =>
    have e1 : numV s.data.toList = v := by unfold numV; rw [hA]
    have e2 : numB s.data.toList top = (decide (0 ≤ v) && (decide (v ≤ top) && decide (Lib.itoa v = s.data.toList))) := by unfold numB; rw [hA]
    obtain ⟨v0, v1⟩ := Lib.atoiAll_bounds hA
    obtain ⟨b, hbb⟩ : ∃ b, b = (decide (0 ≤ v) && (decide (v ≤ top) && decide (Lib.itoa v = s.data.toList))) := ⟨_, rfl⟩
    rw [e1, e2, ← hbb]
    have HBB := Lib.hid hbb
    clear hbb e1 e2
    go_enter Tryd.func25, Tryd.ntmps25
    go_wp2_with fail
    refine (Tryd.strconv_Atoi_ok s (by omega) v hA w).mono ?_
    rintro e w1 ⟨rfl, hw⟩
    have b1 : Below w.heap.size w w1 := by
      rcases hw with rfl | ⟨t, rfl⟩
      · exact Below.refl _ _
      · exact Lib.bytesWorld_below w 5 t
    have E1 := Lib.hid (HE.out.below b1)
    have B1 := Lib.hid b1
    clear hw b1
    by_cases h0 : 0 ≤ v
    · by_cases h1 : v ≤ top
      · go_wp2_with fail
        refine (Tryd.strconv_Itoa v v0 v1 w1 E1.out.tab).mono ?_
        rintro e w2 ⟨rfl, k, os, rfl⟩
        have b2 : Below w1.heap.size w1 (Sort.grow (w1.drewN k) os) := by
          have := below_sgrow (w1.drewN k) os
          exact ⟨this.os, this.tape, this.output, this.size, this.block⟩
        have B2 := Lib.hid (B1.out.trans (b2.mono B1.out.size))
        by_cases hi : Lib.itoa v = s.data.toList
        · have hb : (Lib.itoa v == s.toList) = true := by
            rw [Lib.toList_data, hi]; simp
          have hbt : b = true := by rw [HBB.out]; simp [h0, h1, hi]
          clear HBB
          subst hbt
          go_wp2
          go_ret2
          exact ⟨rfl, B2.out⟩
        · have hb : (Lib.itoa v == s.toList) = false := by
            rw [Lib.toList_data]; simp [hi]
          have hbt : b = false := by rw [HBB.out]; simp [h0, h1, hi]
          clear HBB
          subst hbt
          go_wp2
          go_ret2
          exact ⟨rfl, B2.out⟩
      · have hbt : b = false := by rw [HBB.out, decide_eq_false h1]; simp
        clear HBB
        subst hbt
        go_wp2
        go_ret2
        exact ⟨rfl, B1.out⟩
    · have hbt : b = false := by rw [HBB.out, decide_eq_false h0]; simp
      clear HBB
      subst hbt
      go_wp2
      go_ret2
      exact ⟨rfl, B1.out⟩
  | _ =>
    have e1 : numV s.data.toList = 0 := by unfold numV; rw [hA]
    have e2 : numB s.data.toList top = false := by unfold numB; rw [hA]
    rw [e1, e2]
    obtain ⟨tp, p, hv⟩ := HE.out.syn
    go_enter Tryd.func25, Tryd.ntmps25
    go_wp2_with (first | (go_at_call 47; refine (Tryd.strconv_Atoi_syntax_var s hs hA tp p w hv).mono ?_; rintro e w1 ⟨N, rfl, _, _, b1⟩))
    go_ret2
    exact ⟨rfl, b1⟩
end Go.Proofs.YtjhlgfafjjmooaaDoor.Dot
