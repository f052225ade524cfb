/- The reference's choice of levels: what lies in memory while it chooses. -/
import Derived.Test.YtlklehliapbgeaaLevRefD
namespace Go.Proofs.Ytlklehliapbgeaa.Lev
open Go.RowKit Go.Proofs.Ytlklehliapbgeaa.PLev Go.Proofs.Ytlklehliapbgeaa.PWay Go.Proofs.YtlklehliapbgeaaW.PrintWords Go.Proofs.YtlklehliapbgeaaW.PrintLast Go.Proofs.YtlklehliapbgeaaW.PrintMore Go.Proofs.Ytlklehliapbgeaa.Histo

theorem row_get {W : World} {base g n cap : Nat} {ok : Nat → Prop} {bl : List S88} (h : k88.R 88 W base ok (.slice (some ⟨g, 0, none⟩) n cap) bl) (t : Nat) (ht : t < bl.length) :
    ∃ A c, W.cell? ⟨g, t * 3, none⟩ = some (.bool (rd_T88 bl t).f0) ∧ W.cell? ⟨g, t * 3 + 1, none⟩ = some (.int .i64 (rd_T88 bl t).f1) ∧ W.cell? ⟨g, t * 3 + 2, none⟩ = some (.slice A (rd_T88 bl t).f2.length c) ∧
      (Kd.int .i64).R 3 W base ok (.slice A (rd_T88 bl t).f2.length c) (rd_T88 bl t).f2 ∧ (rd_T88 bl t).f2.length ≤ c ∧ W.frozen? ⟨g, t * 3, none⟩ = false ∧ W.frozen? ⟨g, t * 3 + 1, none⟩ = false ∧ W.frozen? ⟨g, t * 3 + 2, none⟩ = false := by
  obtain ⟨hn, hnc, _⟩ := Kd.R_reads' h
  obtain ⟨c, hcl, hM, hcc⟩ := Kd.R_get h z88 (t : Int) (by omega) (by omega)
  obtain ⟨v2, hc, hR⟩ := k88_openM hM
  obtain ⟨A, c2, hv⟩ := Kd.R_slice hR
  subst hv
  subst hc
  simp only [Int.toNat_natCast] at hcc hR
  obtain ⟨g', cap', he, _, _, cells, hcell⟩ := Kd.R_form h (by omega)
  have hg : g' = g := by
    injection he with he _ _
    injection he with he
    injection he with he
    exact he.symm
  subst hg
  refine ⟨A, c2, ?_, ?_, ?_, Kd.R_mono hR (fun _ hk => hk.1), (Kd.R_reads' hR).2.1, blk_frozen hcell _, blk_frozen hcell _, blk_frozen hcell _⟩
  · have := hcc 0 _ rfl
    rw [add_at, Nat.zero_add] at this
    exact this
  · have := hcc 1 _ rfl
    rw [add_at, Nat.zero_add] at this
    exact this
  · have := hcc 2 _ rfl
    rw [add_at, Nat.zero_add] at this
    exact this
theorem row_put {W : World} {base g n cap : Nat} {ok : Nat → Prop} {bl : List S88} (h : k88.R 88 W base ok (.slice (some ⟨g, 0, none⟩) n cap) bl) (t : Nat) (ht : t < bl.length) (x : S88) {v2 : Value} (hv : (Kd.int .i64).R 3 W base ok v2 x.f2) :
    k88.R 88 (W.setCells g (t * 3) [.bool x.f0, .int .i64 x.f1, v2]) base ok (.slice (some ⟨g, 0, none⟩) n cap) (bl.set t x) ∧ W.grownBy (W.setCells g (t * 3) [.bool x.f0, .int .i64 x.f1, v2]) (some g) := by
  obtain ⟨hn, hnc, _⟩ := Kd.R_reads' h
  obtain ⟨c, hcl, hM, hcc⟩ := Kd.R_get h z88 (t : Int) (by omega) (by omega)
  obtain ⟨g', cap', he, hb, hlt, cells, hcell⟩ := Kd.R_form h (by omega)
  have hg : g' = g := by
    injection he with he _ _
    injection he with he
    injection he with he
    exact he.symm
  subst hg
  have hv2 := Kd.R_types hv hcell (by decide)
  have hd : c.drop 3 = [] := List.drop_eq_nil_of_le (Nat.le_of_eq hcl)
  have := Kd.R_seg h (t : Int) (by omega) (by omega) (seg := [.bool x.f0, .int .i64 x.f1, v2]) (j := 0) (x' := x) (okp := fun k => ok k ∧ k ≠ g') hcl (fun j u hu => by
    have := hcc j u hu
    rw [add_at, Nat.zero_add] at this
    exact this) (Nat.le_refl _) (by
      show k88.M W base _ x ([] ++ [.bool x.f0, .int .i64 x.f1, v2] ++ c.drop 3)
      rw [hd]
      exact k88_mkM _ _ _ _ hv2) (fun _ hk => hk)
  exact this

/-- One place is told to be a way. -/
theorem row_put0 {W : World} {base g n cap : Nat} {ok : Nat → Prop} {bl : List S88} (h : k88.R 88 W base ok (.slice (some ⟨g, 0, none⟩) n cap) bl) (t : Nat) (ht : t < bl.length) (b : Bool) :
    k88.R 88 (W.setCell ⟨g, t * 3, none⟩ (.bool b)) base ok (.slice (some ⟨g, 0, none⟩) n cap) (bl.set t ⟨b, (rd_T88 bl t).f1, (rd_T88 bl t).f2⟩) ∧ W.grownBy (W.setCell ⟨g, t * 3, none⟩ (.bool b)) (some g) := by
  obtain ⟨hn, hnc, _⟩ := Kd.R_reads' h
  obtain ⟨c, hcl, hM, hcc⟩ := Kd.R_get h z88 (t : Int) (by omega) (by omega)
  obtain ⟨v2, hc, hR⟩ := k88_openM hM
  subst hc
  have hR' := Kd.R_mono (ok' := fun k => ok k ∧ k ≠ g) hR (fun k hk => ⟨hk.1, fun e => hk.2 (by rw [e]; simp [Value.ownBlock])⟩)
  exact Kd.R_seg h (t : Int) (by omega) (by omega) (seg := [.bool b]) (j := 0) (x' := ⟨b, (rd_T88 bl t).f1, (rd_T88 bl t).f2⟩) (okp := fun k => ok k ∧ k ≠ g) hcl (fun j u hu => by
    have := hcc j u hu
    rw [add_at, Nat.zero_add] at this
    exact this) (by show 0 + 1 ≤ 3; omega) (k88_mkM _ _ _ _ hR') (fun _ hk => hk)

theorem row_reads {W : World} {base g n cap : Nat} {ok : Nat → Prop} {bl : List S88} (h : k88.R 88 W base ok (.slice (some ⟨g, 0, none⟩) n cap) bl) : ReadsRow (k88.M W base ok) 3 W (some ⟨g, 0, none⟩) n bl := by
  obtain ⟨hn, _, _⟩ := Kd.R_reads' h
  obtain ⟨A, c, he, _, hr⟩ := OwnRow.reads h.2
  injection he with h1 _ _
  subst h1
  rw [hn]
  exact hr.imp_ (Below.refl _ _) (fun _ _ hp => k88.M_mono (fun _ hk => hk.1) hp)
theorem grown_none {W W1 : World} (h : W.grownBy W1 (Value.slice none 0 0).ownBlock) : Below W.heap.size W W1 := (Below.refl _ _).grown h (Nat.le_refl _) (fun k hk => by simp [Value.ownBlock] at hk)

/-- The row that is known (at gb) and the row that is made (at gn). -/
structure RS (w W : World) (gb cb gn cn m : Nat) (bl nl : List S88) : Prop where
  ne : gb ≠ gn
  b : k88.R 88 W w.heap.size (fun k => k ≠ gn) (.slice (some ⟨gb, 0, none⟩) m cb) bl
  n : k88.R 88 W w.heap.size (fun _ => True) (.slice (some ⟨gn, 0, none⟩) m cn) nl
  bel : Below w.heap.size w W
section
variable {w W W1 : World} {gb cb gn cn m : Nat} {bl nl : List S88}
theorem RS.below (h : RS w W gb cb gn cn m bl nl) (hb : Below W.heap.size W W1) : RS w W1 gb cb gn cn m bl nl := ⟨h.ne, Kd.R_below h.b hb, Kd.R_below h.n hb, h.bel.trans (hb.mono h.bel.size)⟩
theorem RS.draw (h : RS w W gb cb gn cn m bl nl) (k : Nat) : RS w (W.drewN k) gb cb gn cn m bl nl := ⟨h.ne, Kd.R_drewN h.b k, Kd.R_drewN h.n k, pw_below_drewN h.bel k⟩
theorem RS.put (h : RS w W gb cb gn cn m bl nl) (a : Nat) (ha : a < nl.length) (x : S88) {v2 : Value} (hv : (Kd.int .i64).R 3 W w.heap.size (fun _ => True) v2 x.f2) :
    RS w (W.setCells gn (a * 3) [.bool x.f0, .int .i64 x.f1, v2]) gb cb gn cn m bl (nl.set a x) := by
  obtain ⟨h1, h2⟩ := row_put h.n a ha x hv
  exact ⟨h.ne, Kd.R_grown h.b h2 (fun k hk he => hk (Option.some.inj he)), h1, h.bel.grown h2 h.bel.size (Kd.R_base h.n)⟩
/-- A copy of the row is made. -/
theorem RS.make (hb : k88.R 88 W w.heap.size (fun _ => True) (.slice (some ⟨gb, 0, none⟩) m cb) bl) (hn : k88.R 88 W1 w.heap.size (fun _ => True) (.slice (some ⟨gn, 0, none⟩) m cn) bl) (hB : Below w.heap.size w W1) (hg : Below W.heap.size W W1) (hge : W.heap.size ≤ gn) : RS w W1 gb cb gn cn m bl bl := by
  refine ⟨fun e => ?_, Kd.R_mono (Kd.R_old hb hg) (fun k hk he => by have := hk.2; omega), hn, hB⟩
  have := Kd.R_lt hb gb (by simp [Value.ownBlock])
  omega
end
theorem lit_one (W : World) (base g : Nat) (x : Int) (hb : base ≤ W.heap.size) (hg : g = W.heap.size) : (Kd.int .i64).R 3 (W.alloc (.cells #[.int .i64 x] 3 (0, 0))) base (fun _ => True) (.slice (some ⟨g, 0, none⟩) 1 1) [x] := by
  subst hg
  exact ⟨fun _ _ => trivial, OwnRow.lit (R := (Kd.int .i64).M (W.alloc (.cells #[.int .i64 x] 3 (0, 0))) base (fun k => True ∧ some k ≠ (Value.slice (some ⟨W.heap.size, 0, none⟩) 1 1).ownBlock)) (ps := [x]) W base (inner := [.int .i64 x]) (Reps.one (p := x) (v := .int .i64 x) rfl (Reps.none _ _)) hb (by show 1 ≤ 9223372036854775807; decide)⟩
/-- Three cells of a block of ways are stored. -/
theorem fin_way {B gw : Nat} {wr W : World} {a b c x y z v : Value} {l : List Int} (hB : Below B wr W) (hge : B ≤ gw) (hz : W.heap[gw]? = some (.cells #[a, b, c] 88 (0, 0))) (hR : (Kd.int .i64).R 3 W B (fun _ => True) v l) :
    Below B wr (((W.setCell ⟨gw, 0, none⟩ x).setCell ⟨gw, 1, none⟩ y).setCell ⟨gw, 2, none⟩ z) ∧ (((W.setCell ⟨gw, 0, none⟩ x).setCell ⟨gw, 1, none⟩ y).setCell ⟨gw, 2, none⟩ z).heap[gw]? = some (.cells #[x, y, z] 88 (0, 0)) ∧
      (Kd.int .i64).R 3 (((W.setCell ⟨gw, 0, none⟩ x).setCell ⟨gw, 1, none⟩ y).setCell ⟨gw, 2, none⟩ z) B (fun _ => True) v l := by
  have e1 := blk_set hz 0 x
  have e2 := blk_set e1 1 y
  have e3 := blk_set e2 2 z
  refine ⟨((hB.setCell hge _).setCell hge _).setCell hge _, e3, ?_⟩
  exact Kd.R_set (Kd.R_set (Kd.R_set hR hz (by decide) 0 x) e1 (by decide) 1 y) e2 (by decide) 2 z
theorem push2_last (h : Array Obj) (a b : Obj) : ((h.push a).push b)[h.size + 1]? = some b := by
  have := Array.getElem?_push_size (xs := h.push a) (x := b)
  rwa [Array.size_push] at this
theorem push2_first (h : Array Obj) (a b : Obj) : ((h.push a).push b)[h.size]? = some a := by
  rw [Array.getElem?_push, if_neg (by rw [Array.size_push]; omega)]
  exact Array.getElem?_push_size
theorem push2_size0 (h : Array Obj) (a b : Obj) : h.size < ((h.push a).push b).size := by rw [Array.size_push, Array.size_push]; omega
theorem push2_size1 (h : Array Obj) (a b : Obj) : h.size + 1 < ((h.push a).push b).size := by rw [Array.size_push, Array.size_push]; omega
theorem own_ne_at {g X : Nat} (h : g ≠ X) : some X ≠ (Value.slice (some ⟨g, 0, none⟩) 1 1).ownBlock := fun e => h (by simpa [Value.ownBlock] using e.symm)
theorem gate_stepB {P : Program} {ops : Array Oper} {o : Oper} {a : Act} {W : World} {Q : Exit → Act → World → Prop} {Kc : Act → World → Prop} {s x : Operand} {ts : Array TypeId} (_ : o.op = .call { callee := .builtin .append, args := #[s, x], argTypes := ts })
    (h : if Region.wanted o (yielded ops a.tmps) = true then Oper.wp P o a W Kc Q else Kc (a.put o.dst undef) W) : if Region.wanted o (yielded ops a.tmps) = true then Oper.wp P o a W Kc Q else Kc (a.put o.dst undef) W := h
theorem rd_set88 (l : List S88) (m k : Nat) (b : S88) (hm : m < l.length) : rd_T88 (l.set m b) (k : Int) = if m = k then b else rd_T88 l k := by
  unfold rd_T88
  rw [List.getD_eq_getElem?_getD, List.getD_eq_getElem?_getD, List.getElem?_set, Int.toNat_natCast]
  by_cases h : m = k
  · subst h; rw [if_pos rfl, if_pos hm, if_pos rfl]; rfl
  · rw [if_neg h, if_neg h]
theorem rd_rep88 (n k : Nat) (b : S88) (hk : k < n) : rd_T88 (List.replicate n b) (k : Int) = b := by
  unfold rd_T88
  rw [List.getD_eq_getElem?_getD, Int.toNat_natCast, List.getElem?_replicate, if_pos hk]; rfl
theorem info88 : (Try.prog.info? 88).map (fun i => (i.zero, i.size, i.bytes)) = some (some (.agg #[.bool false, .int .i64 0, .slice none 0 0]), 3, 40) := by kernel_rfl
theorem scan_step {c : List Int} {bl : Nat → S88} {a t hi : Nat} {cur F : S88} (ht : t ≤ hi) (h : scanR c bl a (hi + 1 - t) t cur = F) : scanR c bl a (hi + 1 - (t + 1)) (t + 1) (stepR c (bl t) a t cur) = F := by
  rw [show hi + 1 - t = hi + 1 - (t + 1) + 1 by omega] at h
  exact h
end Go.Proofs.Ytlklehliapbgeaa.Lev
