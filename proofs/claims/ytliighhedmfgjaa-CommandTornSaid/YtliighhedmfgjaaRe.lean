/- Package command's reader: what its methods read. -/
import Derived.Test.YtliighhedmfgjaaWr4
import Derived.Laws.BitsLemmas
namespace Go.Proofs.Ytliighhedmfgjaa.Cmd
open Go.RowKit Go.Proofs.Ytliighhedmfgjaa.PRefC Go.Proofs.YtliighhedmfgjaaW.PrintWords Go.Proofs.YtliighhedmfgjaaW.PrintLast Go.Proofs.YtliighhedmfgjaaW.PrintMore

/-- At rb lies a reader with rs in front of it. -/
structure Rd (w0 W : World) (rb : Nat) (rs : List Int) (bad : Bool) : Prop where
  is : ∃ A c, W.heap[rb]? = some (.cells #[.slice A rs.length c, .bool bad] 60 (0, 0)) ∧ rs.length ≤ c ∧ (Kd.int .u8).C w0 A rs.length rs
  byte : ∀ x ∈ rs, 0 ≤ x ∧ x < 256
  bel : Below w0.heap.size w0 W
  le : w0.heap.size ≤ rb
def Only (W W1 : World) (rb : Nat) : Prop := W.heap.size ≤ W1.heap.size ∧ ∀ (k : Nat) (o : Obj), W.heap[k]? = some o → k ≠ rb → W1.heap[k]? = some o
theorem Only.refl (W : World) (rb : Nat) : Only W W rb := ⟨Nat.le_refl _, fun _ _ h _ => h⟩
theorem Only.trans {W W1 W2 : World} {rb : Nat} (h : Only W W1 rb) (g : Only W1 W2 rb) : Only W W2 rb := ⟨Nat.le_trans h.1 g.1, fun k o hk hr => g.2 k o (h.2 k o hk hr) hr⟩
theorem Only.below {W W1 W2 : World} {rb : Nat} (h : Only W W1 rb) (g : Below W1.heap.size W1 W2) : Only W W2 rb := ⟨Nat.le_trans h.1 g.size, fun k o hk hr => (g.block k (blk_lt (h.2 k o hk hr))).trans (h.2 k o hk hr)⟩
theorem Only.set {W W1 : World} {rb : Nat} (h : Only W W1 rb) (i : Nat) (u : Value) : Only W (W1.setCell ⟨rb, i, none⟩ u) rb := ⟨by rw [World.size_setCell]; exact h.1, fun k o hk hr => (Below.heap_setCell W1 ⟨rb, i, none⟩ u k hr).trans (h.2 k o hk hr)⟩
section
variable {w0 W W1 : World} {rb : Nat} {rs : List Int} {bad : Bool}
theorem Rd.below (h : Rd w0 W rb rs bad) (hb : Below W.heap.size W W1) : Rd w0 W1 rb rs bad := by
  obtain ⟨⟨A, c, h1, h2, h3⟩, h4, h5, h6⟩ := h
  exact ⟨⟨A, c, (hb.block rb (blk_lt h1)).trans h1, h2, h3⟩, h4, h5.trans (hb.mono h5.size), h6⟩
theorem Rd.setBad (h : Rd w0 W rb rs bad) (b : Bool) : Rd w0 (W.setCell ⟨rb, 1, none⟩ (.bool b)) rb rs b := by
  obtain ⟨⟨A, c, h1, h2, h3⟩, h4, h5, h6⟩ := h
  exact ⟨⟨A, c, blk_set h1 1 _, h2, h3⟩, h4, h5.setCell h6 _, h6⟩
theorem Rd.lt (h : Rd w0 W rb rs bad) : rb < W.heap.size := by obtain ⟨A, c, h1, _⟩ := h.is; exact blk_lt h1
end

/-- The number that bytes are. -/
def valB (l : List Int) : Int := l.foldl (fun n c => n * 256 + c) 0
theorem valB_snoc (l : List Int) (c : Int) : valB (l ++ [c]) = valB l * 256 + c := by unfold valB; rw [List.foldl_append]; rfl
theorem pow256 (n : Nat) : (0 : Int) < 256 ^ n := Int.pow_pos (by decide)
theorem valB_range : ∀ (n : Nat) (l : List Int), l.length = n → (∀ x ∈ l, 0 ≤ x ∧ x < 256) → 0 ≤ valB l ∧ valB l < 256 ^ n
  | 0, l, h, _ => by obtain rfl := List.eq_nil_of_length_eq_zero h; exact ⟨Int.le_refl _, by decide⟩
  | n + 1, l, h, hb => by
    obtain ⟨l', c, rfl⟩ : ∃ l' c, l = l' ++ [c] := by
      obtain ⟨l', c, e⟩ := (List.eq_nil_or_concat l).resolve_left (by intro e; rw [e] at h; cases h)
      exact ⟨l', c, by rw [e, List.concat_eq_append]⟩
    have ih := valB_range n l' (by simpa using h) (fun x hx => hb x (List.mem_append_left _ hx))
    have hc := hb c (by simp)
    rw [valB_snoc, Int.pow_succ]
    omega
theorem wraps64 : ∀ n : Int, 0 ≤ n → n < 2 ^ 64 → IntKind.u64.wrap n = n := fun n h0 h1 => Int.emod_eq_of_lt h0 h1
theorem join8 (v b : Int) (h0 : 0 ≤ v) (h1 : v < 72057594037927936) (h2 : 0 ≤ b) (h3 : b < 256) : bits .or .u64 (v * 256) b = v * 256 + b := by
  have e8 : (2 : Int) ^ 8 = 256 := by decide
  have e64 : (2 : Int) ^ 64 = 18446744073709551616 := by decide
  exact bits_join .u64 64 (by decide) wraps64 8 (v * 256) b (by omega) (by rw [e8]; omega) (by rw [e64]; omega) h2 (by rw [e8]; omega) (by rw [e64]; omega)
def getX (k : Nat) (rs : List Int) (bad : Bool) : Bool := bad || decide (rs.length < k)
def getV (k : Nat) (rs : List Int) (bad : Bool) : Int := if getX k rs bad = true then 0 else valB (rs.take k)
def getR (k : Nat) (rs : List Int) (bad : Bool) : List Int := if getX k rs bad = true then [] else rs.drop k

set_option maxRecDepth 20000 in
set_option maxHeartbeats 2000000 in
theorem get_is (w0 W : World) (rb k : Nat) (rs : List Int) (bad : Bool) (h : Rd w0 W rb rs bad) (hk : k ≤ 8) (hl : rs.length ≤ 1000000000) :
    Calls Try.prog 30 #[.pointer (some ⟨rb, 0, none⟩), .int .i64 k] W fun e w' => e = .returned (.int .u64 (getV k rs bad)) ∧ Rd w0 w' rb (getR k rs bad) (getX k rs bad) ∧ Only W w' rb := by
  obtain ⟨A, c, hb, hc, hC⟩ := h.is
  have q0 := blk_cell hb 0
  have q1 := blk_cell hb 1
  have f0 := blk_frozen hb 0
  have f1 := blk_frozen hb 1
  simp only [List.getElem?_toArray, List.getElem?_cons_zero, List.getElem?_cons_succ] at q0 q1
  have HB := Lib.hid hb
  have HC := Lib.hid hC
  have H := Lib.hid h
  clear hb hC h
  have none_ : bad = true ∨ rs.length < k → Rd w0 ((W.setCell ⟨rb, 0, none⟩ (.slice none 0 0)).setCell ⟨rb, 1, none⟩ (.bool true)) rb [] true := fun _ =>
    ⟨⟨none, 0, blk_set (blk_set HB.out 0 _) 1 _, Nat.le_refl _, Kd.C_nil _ _⟩, (fun x hx => by cases hx), (H.out.bel.setCell H.out.le _).setCell H.out.le _, H.out.le⟩
  have NONE := Lib.hid none_
  clear none_
  cases bad with
  | true =>
    have e1 : getX k rs true = true := rfl
    have e2 : getV k rs true = 0 := rfl
    have e3 : getR k rs true = [] := rfl
    rw [e1, e2, e3]
    go_enter Try.func30, Try.ntmps30
    go_wp2
    go_ret
    exact ⟨rfl, NONE.out (.inl trivial), ((Only.refl _ _).set 0 _).set 1 _⟩
  | false =>
    by_cases hlt : rs.length < k
    · have e1 : getX k rs false = true := by unfold getX; rw [decide_eq_true hlt]; rfl
      have e2 : getV k rs false = 0 := by unfold getV; rw [if_pos e1]
      have e3 : getR k rs false = [] := by unfold getR; rw [if_pos e1]
      rw [e1, e2, e3]
      have hlt' : (rs.length : Int) < (k : Int) := by omega
      go_enter Try.func30, Try.ntmps30
      go_wp2
      go_ret
      exact ⟨rfl, NONE.out (.inr hlt), ((Only.refl _ _).set 0 _).set 1 _⟩
    · have e1 : getX k rs false = false := by unfold getX; rw [decide_eq_false hlt]; rfl
      have e2 : getV k rs false = valB (rs.take k) := by unfold getV; rw [if_neg (by rw [e1]; decide)]
      have e3 : getR k rs false = rs.drop k := by unfold getR; rw [if_neg (by rw [e1]; decide)]
      rw [e1, e2, e3]
      have hlt' : ¬ (rs.length : Int) < (k : Int) := by omega
      obtain ⟨i0, hi, hzz⟩ := Option.map_eq_some_iff.1 info5
      simp only [Prod.mk.injEq] at hzz
      obtain ⟨_, hsz, _⟩ := hzz
      obtain ⟨t1, t2, t3⟩ := print_take_of (P := Try.prog) (Value.int .u8) (0 : Int) 30 5 .i64 Try.underlying30 hi hsz A c rs (k : Int) (by omega) (by omega) hc
      obtain ⟨A', d1, d2, d3⟩ := print_drop_of (P := Try.prog) (Value.int .u8) (0 : Int) 30 5 .i64 Try.underlying30 hi hsz A c rs (k : Int) (by omega) (by omega) hc
      simp only [Int.toNat_natCast] at t1 t2 t3 d1 d2 d3
      have hr := Kd.reads_of_C (d := (0 : Int)) HC.out
      have hCT : (Kd.int .u8).C w0 A (rs.take k).length (rs.take k) := Kd.C_of_reads (t2 _ hr)
      have hCD : (Kd.int .u8).C w0 A' (rs.drop k).length (rs.drop k) := Kd.C_of_reads (d2 _ hr)
      have HCT := Lib.hid hCT
      have HCD := Lib.hid hCD
      have D3 := Lib.hid d3
      have T3 := Lib.hid t3
      have htl : (rs.take k).length = k := by rw [List.length_take]; omega
      rw [htl] at t1
      clear t2 d2 hr hCT hCD d3 t3 NONE e1 e2 e3 hi hsz
      go_enter Try.func30, Try.ntmps30
      go_wp2_with fail
      go_loopw [5, 34] (fun vn vi wr => ∃ i : Nat, i ≤ k ∧ vn = .int .u64 (valB (rs.take i)) ∧ vi = .int .i64 i ∧ wr = W) (fun _ i _ => k - (intOf i).toNat)
      case atStart => exact ⟨0, Nat.zero_le _, rfl, rfl, rfl⟩
      case round =>
        obtain ⟨i, hi, rfl, rfl, rfl⟩ := hrel
        by_cases hik : i < k
        · obtain ⟨ad, hA, p0⟩ := Kd.at_int (Kd.C_below HC.out H.out.bel) (i : Int) (by omega) (by omega)
          subst hA
          simp only [Int.toNat_natCast] at p0
          have hr1 := valB_range i (rs.take i) (by rw [List.length_take]; omega) (fun x hx => H.out.byte x (List.mem_of_mem_take hx))
          have hby := H.out.byte (rs[i]'(by omega)) (List.getElem_mem _)
          have hrd : rd rs (i : Int) = rs[i]'(by omega) := by
            unfold rd
            rw [List.getD_eq_getElem?_getD, Int.toNat_natCast, List.getElem?_eq_getElem (by omega)]; rfl
          have hsn : valB (rs.take (i + 1)) = valB (rs.take i) * 256 + rd rs i := by rw [hrd, List.take_succ_eq_append_getElem (by omega), valB_snoc]
          rw [← hrd] at hby
          obtain ⟨v, hv⟩ : ∃ v, v = valB (rs.take i) := ⟨_, rfl⟩
          obtain ⟨b, hbb⟩ : ∃ b, b = rd rs i := ⟨_, rfl⟩
          rw [← hv] at hr1 hsn ⊢
          rw [← hbb] at hby hsn p0
          have hp7 : (256 : Int) ^ i ≤ 256 ^ 7 := by
            have := Nat.pow_le_pow_right (n := 256) (by omega) (show i ≤ 7 by omega)
            exact_mod_cast this
          have hv7 : v < 72057594037927936 := by
            have e : (256 : Int) ^ 7 = 72057594037927936 := by decide
            omega
          have hv0 : 0 ≤ v := hr1.1
          have HSN := Lib.hid hsn
          clear hr1 hp7 hsn hv hbb hrd
          have b1 : (i : Int) < (k : Int) := by omega
          have b0 : (0 : Int) ≤ (i : Int) := by omega
          obtain ⟨hby0, hby1⟩ := hby
          go_wp2
          go_roundw
          case rel => exact ⟨i + 1, by omega, by rw [HSN.out, join8 v b hv0 hv7 hby0 hby1], by go_num, trivial⟩
          case measure => simp [intOf]; omega
        · obtain rfl : i = k := by omega
          go_wp2
          go_ret
          refine ⟨rfl, ⟨⟨A', c - i, ?_, D3.out, HCD.out⟩, fun x hx => H.out.byte x (List.mem_of_mem_drop hx), H.out.bel.setCell H.out.le _, H.out.le⟩, (Only.refl _ _).set 0 _⟩
          rw [List.length_drop]
          exact blk_set HB.out 0 _
end Go.Proofs.Ytliighhedmfgjaa.Cmd
