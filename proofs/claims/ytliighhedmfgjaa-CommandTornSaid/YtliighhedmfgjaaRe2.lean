/- Package command's reader: numbers, addresses, prefixes, edits. -/
import Derived.Test.YtliighhedmfgjaaRe
namespace Go.Proofs.Ytliighhedmfgjaa.Cmd
open Go.RowKit Go.Proofs.Ytliighhedmfgjaa.PRefC Go.Proofs.YtliighhedmfgjaaW.PrintWords Go.Proofs.YtliighhedmfgjaaW.PrintLast Go.Proofs.YtliighhedmfgjaaW.PrintMore

/-- What is in front of a reader, and whether something was wrong. -/
abbrev St := List Int × Bool
def gv (k : Nat) (s : St) : Int := getV k s.1 s.2
def gs (k : Nat) (s : St) : St := (getR k s.1 s.2, getX k s.1 s.2)
def ns (k : Nat) (most : Int) (s : St) : St := (getR k s.1 s.2, getX k s.1 s.2 || decide (most < gv k s))
def ads (s : St) : St := gs 8 (gs 8 s)
def ps (s : St) : St := ns 1 255 (ads s)
def Rs (w0 W : World) (rb : Nat) (s : St) : Prop := Rd w0 W rb s.1 s.2 ∧ s.1.length ≤ 1000000000
theorem Rs.below {w0 W W1 : World} {rb : Nat} {s : St} (h : Rs w0 W rb s) (hb : Below W.heap.size W W1) : Rs w0 W1 rb s := ⟨h.1.below hb, h.2⟩
theorem Rs.other {w0 W : World} {rb g : Nat} {s : St} (h : Rs w0 W rb s) (hg : g ≠ rb) (hle : w0.heap.size ≤ g) (i : Nat) (u : Value) : Rs w0 (W.setCell ⟨g, i, none⟩ u) rb s := by
  obtain ⟨⟨⟨A, c, h1, h2, h3⟩, h4, h5, h6⟩, h7⟩ := h
  exact ⟨⟨⟨A, c, (Below.heap_setCell W ⟨g, i, none⟩ u rb (Ne.symm hg)).trans h1, h2, h3⟩, h4, h5.setCell hle _, h6⟩, h7⟩
theorem Only.new {W W1 : World} {rb g : Nat} (h : Only W W1 rb) (hg : W.heap.size ≤ g) (i : Nat) (u : Value) : Only W (W1.setCell ⟨g, i, none⟩ u) rb :=
  ⟨by rw [World.size_setCell]; exact h.1, fun k o hk hr => (Below.heap_setCell W1 ⟨g, i, none⟩ u k (fun e => by have := blk_lt hk; have e' : k = g := e; omega)).trans (h.2 k o hk hr)⟩
theorem gs_len (k : Nat) (s : St) : (gs k s).1.length ≤ s.1.length := by
  show (getR k s.1 s.2).length ≤ _
  unfold getR
  split
  · exact Nat.zero_le _
  · rw [List.length_drop]; omega
theorem gv_range (k : Nat) (s : St) (hb : ∀ x ∈ s.1, 0 ≤ x ∧ x < 256) : 0 ≤ gv k s ∧ gv k s < 256 ^ k := by
  unfold gv getV
  split
  · exact ⟨Int.le_refl _, pow256 k⟩
  · rename_i h
    have hl : ¬ s.1.length < k := fun hh => h (by unfold getX; rw [decide_eq_true hh, Bool.or_true])
    exact valB_range k _ (by rw [List.length_take]; omega) (fun x hx => hb x (List.mem_of_mem_take hx))

theorem get_st (w0 W : World) (rb k : Nat) (s : St) (h : Rs w0 W rb s) (hk : k ≤ 8) :
    Calls Try.prog 30 #[.pointer (some ⟨rb, 0, none⟩), .int .i64 k] W fun e w' => e = .returned (.int .u64 (gv k s)) ∧ Rs w0 w' rb (gs k s) ∧ Only W w' rb := by
  refine (get_is w0 W rb k s.1 s.2 h.1 hk h.2).mono ?_
  rintro e w' ⟨rfl, h1, h2⟩
  exact ⟨rfl, ⟨h1, Nat.le_trans (gs_len k s) h.2⟩, h2⟩

set_option maxRecDepth 20000 in
set_option maxHeartbeats 2000000 in
theorem number_st (w0 W : World) (rb k : Nat) (most : Int) (s : St) (h : Rs w0 W rb s) (hk : k ≤ 4) :
    Calls Try.prog 26 #[.pointer (some ⟨rb, 0, none⟩), .int .i64 k, .int .i64 most] W fun e w' => e = .returned (.int .i64 (gv k s)) ∧ Rs w0 w' rb (ns k most s) ∧ Only W w' rb := by
  have hr := gv_range k s h.1.byte
  have h4 : gv k s < 4294967296 := by
    have := Nat.pow_le_pow_right (n := 256) (by omega) hk
    have e : (256 : Int) ^ 4 = 4294967296 := by decide
    have : (256 : Int) ^ k ≤ 256 ^ 4 := by exact_mod_cast this
    omega
  have hw : IntKind.i64.wrap (gv k s) = gv k s := i64_of (by omega) (by omega)
  have H := Lib.hid h
  clear h
  obtain ⟨n, hn⟩ : ∃ n, n = gv k s := ⟨_, rfl⟩
  rw [← hn] at hw hr h4 ⊢
  obtain ⟨hr0, _⟩ := hr
  go_enter Try.func26, Try.ntmps26
  go_wp2_with fail
  refine (get_st w0 W rb k s H.out (by omega)).mono ?_
  rintro e w1 ⟨rfl, h1, o1⟩
  rw [← hn]
  obtain ⟨A, c, hb, _⟩ := h1.1.is
  have q1 := blk_cell hb 1
  have f1 := blk_frozen hb 1
  simp only [List.getElem?_toArray, List.getElem?_cons_zero, List.getElem?_cons_succ] at q1
  have H1 := Lib.hid h1
  clear hb h1
  have fin : ∀ b, (gs k s).2 = b → Rs w0 (w1.setCell ⟨rb, 1, none⟩ (.bool (b || decide (most < n)))) rb (ns k most s) := fun b hb => by
    have h2 := H1.out.1.setBad (b || decide (most < n))
    refine ⟨?_, H1.out.2⟩
    have e : (ns k most s).2 = (b || decide (most < n)) := by rw [hn, ← hb]; rfl
    show Rd _ _ _ (getR k s.1 s.2) (ns k most s).2
    rw [e]
    exact h2
  have FIN := Lib.hid fin
  clear fin
  obtain ⟨b, hbb⟩ : ∃ b, (gs k s).2 = b := ⟨_, rfl⟩
  rw [hbb] at q1
  have HBB := Lib.hid hbb
  have HN := Lib.hid hn
  clear hbb hn
  cases b with
  | true =>
    go_wp2
    go_ret
    exact ⟨rfl, FIN.out true HBB.out, o1.set 1 _⟩
  | false =>
    have hf := FIN.out false HBB.out
    rw [Bool.false_or] at hf
    have HF := Lib.hid hf
    clear hf FIN
    go_wp2
    go_ret
    exact ⟨rfl, HF.out, o1.set 1 _⟩

theorem results_one {P : Program} {fn : Func} {p : Tmp} {ty : TypeId} (h : fn.results = #[.cell p ty]) (tmps : Array Value) (w : World) (g : Nat) (t : TypeId) (cs : Array Value) (fr : Nat × Nat) (d : TypeDesc)
    (hp : tmps.getD p undef = .pointer (some ⟨g, 0, none⟩)) (hg : w.heap[g]? = some (.cells cs t fr))
    (hu : P.underlying ty = some d) (hd : (match d with | .struct _ | .array _ _ => true | _ => false) = true) (hi : (P.info? ty).map (·.size) = some cs.size) :
    (results fn tmps).run P w = .ok (.agg cs) w := by
  have hp' : tmps[p]?.getD undef = .pointer (some ⟨g, 0, none⟩) := by simpa using hp
  simp [results, h, hp', asAddr, run_loadVar_row w g t ty cs fr d hg hu hd hi]

set_option maxRecDepth 20000 in
set_option maxHeartbeats 2000000 in
theorem address_st (w0 W : World) (rb : Nat) (s : St) (h : Rs w0 W rb s) :
    Calls Try.prog 29 #[.pointer (some ⟨rb, 0, none⟩)] W fun e w' => e = .returned (.agg #[.int .u64 (gv 8 s), .int .u64 (gv 8 (gs 8 s))]) ∧ Rs w0 w' rb (ads s) ∧ Only W w' rb := by
  have hlt := h.1.lt
  have H := Lib.hid h
  clear h
  go_enter Try.func29, Try.ntmps29
  go_wp2_with fail
  refine (get_st w0 _ rb 8 s (H.out.below (below_alloc (Below.refl _ _) _)) (by omega)).mono ?_
  rintro e w1 ⟨rfl, h1, o1⟩
  go_wp2_with fail
  refine (get_st w0 _ rb 8 (gs 8 s) h1 (by omega)).mono ?_
  rintro e w2 ⟨rfl, h2, o2⟩
  have hb := o2.2 _ _ (o1.2 W.heap.size _ (blk_new _ _) (by omega)) (by omega)
  have q0 := blk_cell hb 0
  have q1 := blk_cell hb 1
  have f0 := blk_frozen hb 0
  have f1 := blk_frozen hb 1
  simp only [List.getElem?_toArray, List.getElem?_cons_zero, List.getElem?_cons_succ] at q0 q1
  have HB := Lib.hid hb
  have O := Lib.hid (((Only.refl W rb).below (below_alloc (Below.refl _ _) _)).trans (o1.trans o2))
  have H2 := Lib.hid h2
  have hle := h2.1.bel.size
  have hle2 := o2.1
  have hle1 := o1.1
  have hle0 : w0.heap.size ≤ W.heap.size := H.out.1.bel.size
  clear hb h1 h2 o1 o2
  go_wp2
  (try simp only [Exit.inBlock, Exit.then])
  exact bodyPost_ret (v := .agg #[.int .u64 (gv 8 s), .int .u64 (gv 8 (gs 8 s))]) (results_one (fn := Try.f29) rfl _ _ W.heap.size 24 _ (0, 0) _ rfl (blk_set (blk_set HB.out 0 _) 1 _) Try.underlying24 rfl (by kernel_rfl)) rfl
    ⟨rfl, (H2.out.other (by omega) hle0 0 _).other (by omega) hle0 1 _, (O.out.new (Nat.le_refl _) 0 _).new (Nat.le_refl _) 1 _⟩

set_option maxRecDepth 20000 in
set_option maxHeartbeats 2000000 in
theorem prefix_st (w0 W : World) (rb : Nat) (s : St) (h : Rs w0 W rb s) :
    Calls Try.prog 27 #[.pointer (some ⟨rb, 0, none⟩)] W fun e w' => e = .returned (.agg #[.int .u64 (gv 8 s), .int .u64 (gv 8 (gs 8 s)), .int .i64 (gv 1 (ads s))]) ∧ Rs w0 w' rb (ps s) ∧ Only W w' rb := by
  have hlt := h.1.lt
  have H := Lib.hid h
  clear h
  go_enter Try.func27, Try.ntmps27
  go_wp2_with fail
  refine (address_st w0 _ rb s (H.out.below (below_alloc (Below.refl _ _) _))).mono ?_
  rintro e w1 ⟨rfl, h1, o1⟩
  have hz := o1.2 W.heap.size _ (blk_new _ _) (by omega)
  have hle1 := o1.1
  have hle0 : w0.heap.size ≤ W.heap.size := H.out.1.bel.size
  have O1 := Lib.hid (((Only.refl W rb).below (below_alloc (Below.refl _ _) _)).trans o1)
  have H1 := Lib.hid h1
  clear h1 o1
  go_wp2_with fail
  obtain ⟨w2, hw2⟩ : ∃ w2, w2 = w1.alloc (.cells #[.int .u64 (gv 8 s), .int .u64 (gv 8 (gs 8 s))] 24 (0, 0)) := ⟨_, rfl⟩
  obtain ⟨g3, hg3⟩ : ∃ g3, g3 = w1.heap.size := ⟨_, rfl⟩
  obtain ⟨g2, hg2⟩ : ∃ g2, g2 = W.heap.size := ⟨_, rfl⟩
  have hn3 : w2.heap[g3]? = some (.cells #[.int .u64 (gv 8 s), .int .u64 (gv 8 (gs 8 s))] 24 (0, 0)) := by rw [hw2, hg3]; exact blk_new _ _
  have hn2 : w2.heap[g2]? = some (.cells #[.int .u64 0, .int .u64 0, .int .i64 0] 26 (0, 0)) := by rw [hw2, hg2]; exact blk_alloc hz _
  have H2 : Hid (Rs w0 w2 rb (ads s)) := by rw [hw2]; exact H1.out.below (below_alloc (Below.refl _ _) _)
  have O2 : Hid (Only W w2 rb) := by rw [hw2]; exact O1.out.below (below_alloc (Below.refl _ _) _)
  have hr3 : g3 ≠ rb := by have := H1.out.1.lt; omega
  have hr2 : g2 ≠ rb := by omega
  have hl2 : w0.heap.size ≤ g2 := by omega
  have hl3 : W.heap.size ≤ g2 := by omega
  rw [← hw2, ← hg3, ← hg2]
  have p0 := blk_cell hn3 0
  have p1 := blk_cell hn3 1
  have k0 := blk_cell hn2 0
  have k1 := blk_cell hn2 1
  have k2 := blk_cell hn2 2
  have f2 := fun i => blk_frozen hn2 i
  simp only [List.getElem?_toArray, List.getElem?_cons_zero, List.getElem?_cons_succ] at p0 p1 k0 k1 k2
  have HN3 := Lib.hid hn3
  have HN2 := Lib.hid hn2
  clear hw2 hg3 hg2 hz O1 H1 hn3 hn2 hle1 hle0 H
  go_region_law (first
    | (go_simp; go_at_call 26; refine (number_st w0 _ rb 1 255 (ads s) (H2.out.below (below_drew (Below.refl _ _))) (by omega)).mono ?_; rintro e w3 ⟨rfl, h3, o3⟩; have hm3 := o3.2 g3 _ (blk_drew HN3.out) hr3; have hm2 := o3.2 g2 _ (blk_drew HN2.out) hr2; have p0' := blk_cell hm3 0; have p1' := blk_cell hm3 1; have k0' := blk_cell hm2 0; have k1' := blk_cell hm2 1; have k2' := blk_cell hm2 2; have f2' := fun i => blk_frozen hm2 i; simp only [List.getElem?_toArray, List.getElem?_cons_zero, List.getElem?_cons_succ] at p0' p1' k0' k1' k2'; have HM2 := Lib.hid hm2; have H3 := Lib.hid h3; have O3 := Lib.hid o3; clear hm3 hm2 h3 o3))
  all_goals go_wp2
  all_goals (try simp only [Exit.inBlock, Exit.then])
  all_goals exact bodyPost_ret (v := .agg #[.int .u64 (gv 8 s), .int .u64 (gv 8 (gs 8 s)), .int .i64 (gv 1 (ads s))]) (results_one (fn := Try.f27) rfl _ _ g2 26 _ (0, 0) _ rfl (blk_set (blk_set (blk_set HM2.out 0 _) 1 _) 2 _) Try.underlying26 rfl (by kernel_rfl)) rfl ⟨rfl, ((H3.out.other hr2 hl2 0 _).other hr2 hl2 1 _).other hr2 hl2 2 _, (((O2.out.below (below_drew (Below.refl _ _))).trans O3.out).new hl3 0 _ |>.new hl3 1 _).new hl3 2 _⟩
end Go.Proofs.Ytliighhedmfgjaa.Cmd
