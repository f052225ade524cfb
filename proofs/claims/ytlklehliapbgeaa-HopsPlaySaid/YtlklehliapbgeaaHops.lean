/- Package hops: what each call answers and does to the counts: New, Up, Down, Uses, Count, at a pointer that is not nil. -/
import Derived.Test.YtlklehliapbgeaaProg
import Derived.WalkKit
import Derived.LoopTactic
import Derived.KernelRfl
import Derived.Outline
import Derived.WalkLawsBesides
import Derived.WalkSpells
import Derived.Lib.Hide
import Derived.Deep.QuietTactic
import Derived.BigQuiet
import Derived.RegionTactic
import Derived.Maps.OwnSet
import Derived.Maps.OwnOps
namespace Go.Proofs.Ytlklehliapbgeaa.Hops
open Go.RowKit Go.Maps

theorem law3 : Keyed Try.prog 3 := int_keyed Try.underlying3
theorem zero3 (w : World) : (zeroValue 3).run Try.prog w = .ok (.int .i64 0) w := by kernel_rfl
abbrev Own (w : World) (mb N : Nat) (D : DataW Unit) : Prop := w.ownsMap Try.prog 3 (plainElem Try.prog 3) mb N D
/-- What a key has. -/
def At (D : DataW Unit) (x c : Int) : Prop := D.atKey (.int .i64 x) (.lit (.int .i64 0)) = .lit (.int .i64 c)
theorem At.one {D : DataW Unit} {x c d : Int} (h : At D x c) (g : At D x d) : c = d := by
  unfold At at h g; rw [h] at g; injection g with g; injection g with _ g
theorem look {w : World} {mb N : Nat} {D : DataW Unit} (h : Own w mb N D) {x c : Int} (hx : (Lit.int .i64 x).wf = true) (hc : At D x c) :
    (Instr.lookup 64 (.map (some mb)) (.int .i64 x) false).run Try.prog w = .ok (.int .i64 c) w := by
  obtain ⟨d, hrun, hat, _⟩ := h.lookup_int law3 Try.underlying64 Try.underlying3 (zero3 w) (keyOf_int_mk Try.underlying3 hx)
  rw [hrun, At.one hat hc]
theorem atSome {w : World} {mb N : Nat} {D : DataW Unit} (h : Own w mb N D) {x : Int} (hx : (Lit.int .i64 x).wf = true) : ∃ c, At D x c ∧ (Lit.int .i64 c).wf = true := by
  obtain ⟨d, _, hat, hw⟩ := h.lookup_int law3 Try.underlying64 Try.underlying3 (zero3 w) (keyOf_int_mk Try.underlying3 hx)
  exact ⟨d, hat, hw⟩

set_option maxHeartbeats 400000 in
theorem uses_any (w : World) (hb mb N : Nat) (most x c : Int) (D : DataW Unit) (h0 : w.heap[hb]? = some (.cells #[.int .i64 most, .map (some mb)] 66 (0, 0))) (ho : Own w mb N D) (hx : (Lit.int .i64 x).wf = true) (hc : At D x c) :
    Calls Try.prog 23 #[.pointer (some ⟨hb, 0, none⟩), .int .i64 x] w fun e w' => e = .returned (.int .i64 c) ∧ w' = w := by
  have c1 : w.cell? ⟨hb, 1, none⟩ = some (.map (some mb)) := by simp [World.cell?, h0]
  have hl := look ho hx hc
  clear h0 hc
  go_enter Try.func23, Try.ntmps23
  go_wp2
  go_ret
  exact ⟨rfl, rfl⟩

set_option maxHeartbeats 400000 in
theorem count_any (w : World) (hb mb N : Nat) (most : Int) (D : DataW Unit) (h0 : w.heap[hb]? = some (.cells #[.int .i64 most, .map (some mb)] 66 (0, 0))) (ho : Own w mb N D) :
    Calls Try.prog 24 #[.pointer (some ⟨hb, 0, none⟩)] w fun e w' => e = .returned (.int .i64 (Maps.size D)) ∧ w' = w := by
  have c1 : w.cell? ⟨hb, 1, none⟩ = some (.map (some mb)) := by simp [World.cell?, h0]
  have hl := ho.len Try.underlying64 3
  clear h0
  go_enter Try.func24, Try.ntmps24
  go_wp2
  go_ret
  exact ⟨rfl, rfl⟩

/-- What New makes of its number. -/
def capm (n : Int) : Int := if n ≤ 0 then 0 else if n ≤ 60 then n else 60
theorem capm_range (n : Int) : 0 ≤ capm n ∧ capm n ≤ 60 := by unfold capm; split; omega; split <;> omega
def newWorld (w : World) (m : Int) : World := (w.alloc (.map #[] 0)).alloc (.cells #[.int .i64 m, .map (some w.heap.size)] 66)
set_option maxHeartbeats 400000 in
theorem new_any (w : World) (most : Int) :
    Calls Try.prog 20 #[.int .i64 most] w fun e w' => e = .returned (.pointer (some ⟨w.heap.size + 1, 0, none⟩)) ∧ w' = newWorld w (capm most) := by
  have hmm := @run_makeMap Try.prog
  unfold newWorld
  rcases (show most ≤ 0 ∨ (0 < most ∧ most ≤ 60) ∨ 60 < most by omega) with h | ⟨h, h'⟩ | h
  · have e : capm most = 0 := by unfold capm; rw [if_pos h]
    rw [e]
    have h1 : most ≤ 60 := by omega
    clear e
    go_enter Try.func20, Try.ntmps20
    go_wp2
    go_ret
    exact ⟨rfl, rfl⟩
  · have e : capm most = most := by unfold capm; rw [if_neg (by omega), if_pos h']
    rw [e]
    clear e
    go_enter Try.func20, Try.ntmps20
    go_wp2
    go_ret
    exact ⟨rfl, rfl⟩
  · have e : capm most = 60 := by unfold capm; rw [if_neg (by omega), if_neg (by omega)]
    rw [e]
    clear e
    go_enter Try.func20, Try.ntmps20
    go_wp2
    go_ret
    exact ⟨rfl, rfl⟩

set_option maxHeartbeats 400000 in
theorem up_no (w : World) (hb mb N : Nat) (most x c : Int) (D : DataW Unit) (h0 : w.heap[hb]? = some (.cells #[.int .i64 most, .map (some mb)] 66 (0, 0))) (ho : Own w mb N D) (hx : (Lit.int .i64 x).wf = true) (hc : At D x c)
    (hno : x < 0 ∨ (c = 0 ∧ most ≤ Maps.size D)) :
    Calls Try.prog 21 #[.pointer (some ⟨hb, 0, none⟩), .int .i64 x] w fun e w' => e = .returned (.bool false) ∧ ∃ k, w' = w.drewN k := by
  have c0 : w.cell? ⟨hb, 0, none⟩ = some (.int .i64 most) := by simp [World.cell?, h0]
  have c1 : w.cell? ⟨hb, 1, none⟩ = some (.map (some mb)) := by simp [World.cell?, h0]
  have hl := fun n => look (w := w.drewN n) ho hx hc
  have hn := fun n => World.ownsMap.len (w := w.drewN n) ho Try.underlying64 3
  clear h0 hc
  by_cases hlt : x < 0
  · clear hno
    go_enter Try.func21, Try.ntmps21
    go_wp2
    go_quiet (fail)
    go_wp2
    go_ret
    exact ⟨rfl, _, rfl⟩
  · obtain ⟨rfl, hle⟩ := hno.resolve_left hlt
    clear hno
    go_enter Try.func21, Try.ntmps21
    go_wp2
    go_quiet (fail)
    go_wp2
    go_ret
    exact ⟨rfl, _, rfl⟩

theorem grown_drewN {w w1 : World} {n : Nat} {row : Option Nat} (h : (w.drewN n).grownBy w1 row) : w.grownBy w1 row := ⟨h.os, h.tape, h.output, h.size, h.block⟩
/-- The counter's cell behind a turn of the map. -/
theorem cell_turned {w w1 : World} {hb mb : Nat} {most : Int} {h : Nat} (h0 : w.heap[hb]? = some (.cells #[.int .i64 most, .map (some h)] 66 (0, 0))) (ht : w.mapTurned w1 mb) : w1.heap[hb]? = some (.cells #[.int .i64 most, .map (some h)] 66 (0, 0)) := by
  have hne : some hb ≠ some mb := by
    intro e
    obtain ⟨es, clock, _, _, hb', _⟩ := ht
    injection e with e
    rw [e, hb'] at h0
    cases h0
  have hlt : hb < w.heap.size := by
    rcases Nat.lt_or_ge hb w.heap.size with h | h
    · exact h
    · rw [Array.getElem?_eq_none h] at h0; cases h0
  exact (ht.grown.block hb hlt hne).trans h0

set_option maxHeartbeats 1000000 in
theorem up_yes (w : World) (hb mb N : Nat) (most x c : Int) (D : DataW Unit) (h0 : w.heap[hb]? = some (.cells #[.int .i64 most, .map (some mb)] 66 (0, 0))) (ho : Own w mb N D) (hx : (Lit.int .i64 x).wf = true) (hc : At D x c) (hN : N < maxLen)
    (hx0 : 0 ≤ x) (hc0 : 0 ≤ c) (hcb : c < 1000000) (hyes : c ≠ 0 ∨ Maps.size D < most) :
    Calls Try.prog 21 #[.pointer (some ⟨hb, 0, none⟩), .int .i64 x] w fun e w' => e = .returned (.bool true) ∧ Own w' mb (N + 1) (D.put (.int .i64 x) (.lit (.int .i64 (c + 1)))) ∧ w.grownBy w' (some mb) := by
  have c0 : w.cell? ⟨hb, 0, none⟩ = some (.int .i64 most) := by simp [World.cell?, h0]
  have c1 : w.cell? ⟨hb, 1, none⟩ = some (.map (some mb)) := by simp [World.cell?, h0]
  have hl := fun n => look (w := w.drewN n) ho hx hc
  have hn := fun n => World.ownsMap.len (w := w.drewN n) ho Try.underlying64 3
  have hkey := keyOf_int_mk Try.underlying3 hx
  have hv : (Lit.int .i64 (c + 1)).wf = true := by simp [Lit.wf, IntKind.min, IntKind.max, IntKind.signed, IntKind.bits]; omega
  clear h0 hc
  have hxd : decide (x < 0) = false := by rw [decide_eq_false_iff_not]; omega
  by_cases hz : c = 0
  · have hlt : (Maps.size D : Int) < most := hyes.resolve_left (fun h => h hz)
    have hzb : (c == 0) = true := by rw [beq_iff_eq]; exact hz
    clear hyes hz
    go_enter Try.func21, Try.ntmps21
    go_wp2
    go_quiet (fail)
    go_wp2_with (first
      | (at_mapUpdate; refine wpList_mapUpdate_in _ rfl _ _ _ 64 rfl 3 3 law3 Try.underlying64 _ mb N D rfl ho hN _ _ _ rfl rfl hkey _ [] (plainElem_int Try.underlying3 hv) ?_; intro w1 hown1 hturn1))
    go_ret
    exact ⟨rfl, hown1, grown_drewN hturn1.grown⟩
  · have hzb : (c == 0) = false := by rw [beq_eq_false_iff_ne]; exact hz
    clear hyes hz
    go_enter Try.func21, Try.ntmps21
    go_wp2
    go_quiet (fail)
    go_wp2_with (first
      | (at_mapUpdate; refine wpList_mapUpdate_in _ rfl _ _ _ 64 rfl 3 3 law3 Try.underlying64 _ mb N D rfl ho hN _ _ _ rfl rfl hkey _ [] (plainElem_int Try.underlying3 hv) ?_; intro w1 hown1 hturn1))
    go_ret
    exact ⟨rfl, hown1, grown_drewN hturn1.grown⟩

set_option maxHeartbeats 400000 in
theorem down_no (w : World) (hb mb N : Nat) (most x : Int) (D : DataW Unit) (h0 : w.heap[hb]? = some (.cells #[.int .i64 most, .map (some mb)] 66 (0, 0))) (ho : Own w mb N D) (hx : (Lit.int .i64 x).wf = true) (hc : At D x 0) :
    Calls Try.prog 22 #[.pointer (some ⟨hb, 0, none⟩), .int .i64 x] w fun e w' => e = .returned (.bool false) ∧ ∃ k, w' = w.drewN k := by
  have c1 : w.cell? ⟨hb, 1, none⟩ = some (.map (some mb)) := by simp [World.cell?, h0]
  have hl := look ho hx hc
  clear h0 hc
  go_enter Try.func22, Try.ntmps22
  go_wp2
  go_ret
  exact ⟨rfl, 0, rfl⟩

theorem isKey (x : Int) : WideAt.IsKeyLit (.int .i64 x) := trivial
theorem at_put {w : World} {mb N : Nat} {D : DataW Unit} (ho : Own w mb N D) (x c : Int) : At (D.put (.int .i64 x) (.lit (.int .i64 c))) x c := Maps.atKey_put_same ho.isMap (isKey x) _ _

set_option maxHeartbeats 400000 in
theorem down_many (w : World) (hb mb N : Nat) (most x c : Int) (D : DataW Unit) (h0 : w.heap[hb]? = some (.cells #[.int .i64 most, .map (some mb)] 66 (0, 0))) (ho : Own w mb N D) (hx : (Lit.int .i64 x).wf = true) (hc : At D x c) (hN : N < maxLen)
    (hc0 : 1 < c) (hcb : c < 1000000) :
    Calls Try.prog 22 #[.pointer (some ⟨hb, 0, none⟩), .int .i64 x] w fun e w' => e = .returned (.bool true) ∧ Own w' mb (N + 1) (D.put (.int .i64 x) (.lit (.int .i64 (c - 1)))) ∧ w.grownBy w' (some mb) := by
  have c1 : w.cell? ⟨hb, 1, none⟩ = some (.map (some mb)) := by simp [World.cell?, h0]
  have hl := look ho hx hc
  have hkey := keyOf_int_mk Try.underlying3 hx
  have hv : (Lit.int .i64 (c - 1)).wf = true := by simp [Lit.wf, IntKind.min, IntKind.max, IntKind.signed, IntKind.bits]; omega
  have hz : (c == 0) = false := by rw [beq_eq_false_iff_ne]; omega
  have hz1 : (c - 1 == 0) = false := by rw [beq_eq_false_iff_ne]; omega
  have H0 := Lib.hid h0
  clear h0 hc
  go_enter Try.func22, Try.ntmps22
  go_wp2_with (first
      | (at_mapUpdate; refine wpList_mapUpdate_in _ rfl _ _ _ 64 rfl 3 3 law3 Try.underlying64 _ mb N D rfl ho hN _ _ _ rfl rfl hkey _ [] (plainElem_int Try.underlying3 hv) ?_; intro w1 hown1 hturn1; have d1 : w1.cell? ⟨hb, 1, none⟩ = some (.map (some mb)) := (by simp [World.cell?, cell_turned H0.out hturn1]); have hl1 := look hown1 hx (at_put ho x (c - 1)); clear c1 hl))
  go_ret
  exact ⟨rfl, hown1, hturn1.grown⟩

theorem At.put_other {D : DataW Unit} {x y c d : Int} (h : At D y d) (hne : y ≠ x) : At (D.put (.int .i64 x) (.lit (.int .i64 c))) y d := by
  unfold At at h ⊢
  rw [Maps.atKey_put_other (fun e => hne (by injection e))]
  exact h

set_option maxHeartbeats 400000 in
theorem down_last (w : World) (hb mb N : Nat) (most x : Int) (D : DataW Unit) (h0 : w.heap[hb]? = some (.cells #[.int .i64 most, .map (some mb)] 66 (0, 0))) (ho : Own w mb N D) (hx : (Lit.int .i64 x).wf = true) (hc : At D x 1) (hN : N < maxLen) :
    Calls Try.prog 22 #[.pointer (some ⟨hb, 0, none⟩), .int .i64 x] w fun e w' => e = .returned (.bool true) ∧ Own w' mb (N + 1) ((D.put (.int .i64 x) (.lit (.int .i64 0))).del (.int .i64 x)) ∧ w.grownBy w' (some mb) := by
  have c1 : w.cell? ⟨hb, 1, none⟩ = some (.map (some mb)) := by simp [World.cell?, h0]
  have hl := look ho hx hc
  have hkey := keyOf_int_mk Try.underlying3 hx
  have hv : (Lit.int .i64 0).wf = true := by decide
  have H0 := Lib.hid h0
  clear h0 hc
  go_enter Try.func22, Try.ntmps22
  go_wp2_with (first
      | (at_mapUpdate; refine wpList_mapUpdate_in _ rfl _ _ _ 64 rfl 3 3 law3 Try.underlying64 _ mb N D rfl ho hN _ _ _ rfl rfl hkey _ [] (plainElem_int Try.underlying3 hv) ?_; intro w1 hown1 hturn1; have d1 : w1.cell? ⟨hb, 1, none⟩ = some (.map (some mb)) := (by simp [World.cell?, cell_turned H0.out hturn1]); have hl1 := look hown1 hx (at_put ho x 0); clear c1 hl)
      | (at_delete; refine wpList_delete_own _ rfl _ _ 64 3 rfl 3 law3 Try.underlying64 _ mb (N + 1) _ rfl hown1 _ _ rfl hkey ?_; intro w2 hown2 hturn2))
  go_ret
  exact ⟨rfl, hown2, (hturn1.trans hturn2).grown⟩
end Go.Proofs.Ytlklehliapbgeaa.Hops
