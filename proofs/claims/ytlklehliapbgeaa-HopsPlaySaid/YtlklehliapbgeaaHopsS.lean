/- The law HopsPlay: what is kept of memory from call to call. -/
import Derived.Test.YtlklehliapbgeaaHopsP
namespace Go.Proofs.Ytlklehliapbgeaa.Hops
open Go.RowKit Go.Proofs.YtlklehliapbgeaaW.PrintWords Go.Proofs.YtlklehliapbgeaaW.PrintLast Go.Proofs.YtlklehliapbgeaaW.PrintMore

theorem Sees.ne_row {W : World} {hb mb : Nat} {most : Int} {N : Nat} {c : Int → Int} {m : Nat} (h : Sees W hb mb most N c m) {base n : Nat} {v : Value} {xs : List Value} (ho : W.ownsRow base 3 1 v n xs) : some hb ≠ v.ownBlock ∧ some mb ≠ v.ownBlock := by
  obtain ⟨D, h0, ⟨es, clock, hm, _⟩, _, _⟩ := h
  refine ⟨own_ne ho h0 (by decide), fun e => ?_⟩
  obtain ⟨cells, hc⟩ := own_typed ho mb e.symm
  rw [hm] at hc
  cases hc
theorem Sees.ne_map {W : World} {hb mb ob pb : Nat} {most most2 : Int} {N N2 : Nat} {c c2 : Int → Int} {m m2 : Nat} (h : Sees W hb mb most N c m) (g : Sees W ob pb most2 N2 c2 m2) : hb ≠ pb ∧ ob ≠ mb := by
  obtain ⟨D, h0, ⟨es, clock, hm, _⟩, _, _⟩ := h
  obtain ⟨D2, g0, ⟨es2, clock2, gm, _⟩, _, _⟩ := g
  exact ⟨(fun e => by rw [e, gm] at h0; cases h0), (fun e => by rw [e, hm] at g0; cases g0)⟩
theorem Sees.row_ne {W : World} {hb mb : Nat} {most : Int} {N : Nat} {c : Int → Int} {m : Nat} (h : Sees W hb mb most N c m) {base n : Nat} {v : Value} {xs : List Value} (ho : W.ownsRow base 3 1 v n xs) : v.ownBlock = none ∨ v.ownBlock ≠ some mb := .inr (fun e => (h.ne_row ho).2 e.symm)

/-- What is kept in memory: the counter at hb, the other one at ob, the rows of numbers and of uses. -/
structure MS (w W : World) (hb mb ob pb : Nat) (most : Int) (vn vu : Value) (ns us : List Int) (c c2 : Int → Int) (m m2 N N2 : Nat) : Prop where
  sh : Sees W hb mb most N c m
  so : Sees W ob pb 60 N2 c2 m2
  hmp : mb ≠ pb
  hm : w.heap.size ≤ mb
  hp : w.heap.size ≤ pb
  on : W.ownsRow w.heap.size 3 1 vn ns.length (nums .i64 ns)
  ou : W.ownsRow w.heap.size 3 1 vu us.length (nums .i64 us)
  ne : NeRow vn vu
  bel : Below w.heap.size w W
section
variable {w W W1 : World} {hb mb ob pb : Nat} {most : Int} {vn vu v1 : Value} {ns us : List Int} {c c2 : Int → Int} {m m2 N N2 : Nat}
theorem MS.draw (h : MS w W hb mb ob pb most vn vu ns us c c2 m m2 N N2) (k : Nat) : MS w (W.drewN k) hb mb ob pb most vn vu ns us c c2 m m2 N N2 :=
  ⟨h.sh.draw k, h.so.draw k, h.hmp, h.hm, h.hp, pw_own_drewN h.on k, pw_own_drewN h.ou k, h.ne, below_drewN h.bel k⟩
/-- The other counter has changed. -/
theorem MS.other (h : MS w W hb mb ob pb most vn vu ns us c c2 m m2 N N2) {N2' m2' : Nat} {c2' : Int → Int} (hs : Sees W1 ob pb 60 N2' c2' m2') (hg : W.grownBy W1 (some pb)) : MS w W1 hb mb ob pb most vn vu ns us c c2' m m2' N N2' := by
  have hn := h.sh.ne_map h.so
  exact ⟨h.sh.grown hg (fun e => hn.1 (Option.some.inj e)) (fun e => h.hmp (Option.some.inj e)), hs, h.hmp, h.hm, h.hp, own_other h.on hg (h.so.row_ne h.on), own_other h.ou hg (h.so.row_ne h.ou), h.ne, below_grown h.bel hg h.hp⟩
/-- The counter has changed. -/
theorem MS.this (h : MS w W hb mb ob pb most vn vu ns us c c2 m m2 N N2) {N' m' : Nat} {c' : Int → Int} (hs : Sees W1 hb mb most N' c' m') (hg : W.grownBy W1 (some mb)) : MS w W1 hb mb ob pb most vn vu ns us c' c2 m' m2 N' N2 := by
  have hn := h.sh.ne_map h.so
  exact ⟨hs, h.so.grown hg (fun e => hn.2 (Option.some.inj e)) (fun e => h.hmp (Option.some.inj e).symm), h.hmp, h.hm, h.hp, own_other h.on hg (h.sh.row_ne h.on), own_other h.ou hg (h.sh.row_ne h.ou), h.ne, below_grown h.bel hg h.hm⟩
/-- A number more. -/
theorem MS.appN (h : MS w W hb mb ob pb most vn vu ns us c c2 m m2 N N2) {ns' : List Int} (hown : W1.ownsRow w.heap.size 3 1 v1 ns'.length (nums .i64 ns')) (hB : Below w.heap.size w W1) (hg : W.grownBy W1 vn.ownBlock) (hat : v1.ownBlock = vn.ownBlock ∨ ∃ b, v1.ownBlock = some b ∧ W.heap.size ≤ b) : MS w W1 hb mb ob pb most v1 vu ns' us c c2 m m2 N N2 := by
  have h1 := h.sh.ne_row h.on
  have h2 := h.so.ne_row h.on
  exact ⟨h.sh.grown hg h1.1 h1.2, h.so.grown hg h2.1 h2.2, h.hmp, h.hm, h.hp, hown, own_other h.ou hg (ne_other h.ne), ne_append h.ne hat h.ou, hB⟩
/-- Uses of one more. -/
theorem MS.appU (h : MS w W hb mb ob pb most vn vu ns us c c2 m m2 N N2) {us' : List Int} (hown : W1.ownsRow w.heap.size 3 1 v1 us'.length (nums .i64 us')) (hB : Below w.heap.size w W1) (hg : W.grownBy W1 vu.ownBlock) (hat : v1.ownBlock = vu.ownBlock ∨ ∃ b, v1.ownBlock = some b ∧ W.heap.size ≤ b) : MS w W1 hb mb ob pb most vn v1 ns us' c c2 m m2 N N2 := by
  have h1 := h.sh.ne_row h.ou
  have h2 := h.so.ne_row h.ou
  exact ⟨h.sh.grown hg h1.1 h1.2, h.so.grown hg h2.1 h2.2, h.hmp, h.hm, h.hp, own_other h.on hg (ne_other (ne_symm h.ne)), hown, ne_symm (ne_append (ne_symm h.ne) hat h.on), hB⟩
/-- Uses are stored. -/
theorem MS.putU {g cap : Nat} (h : MS w W hb mb ob pb most vn (.slice (some ⟨g, 0, none⟩) us.length cap) ns us c c2 m m2 N N2) (i x : Int) : MS w (W.setCell ⟨g, i.toNat, none⟩ (.int .i64 x)) hb mb ob pb most vn (.slice (some ⟨g, 0, none⟩) us.length cap) ns (us.set i.toNat x) c c2 m m2 N N2 := by
  have h1 := h.sh.ne_row h.ou
  have h2 := h.so.ne_row h.ou
  have hs := own_store h.ou i x
  have hg : w.heap.size ≤ g := own_base h.ou g (by simp [Value.ownBlock])
  refine ⟨h.sh.grown hs.2 h1.1 h1.2, h.so.grown hs.2 h2.1 h2.2, h.hmp, h.hm, h.hp, own_other h.on hs.2 (ne_other (ne_symm h.ne)), ?_, h.ne, h.bel.setCell (p := ⟨g, i.toNat, none⟩) hg _⟩
  rw [List.length_set]
  exact hs.1
end
/-- Any call of Up on the other counter. -/
theorem up_some (w : World) (ob pb N : Nat) (x : Int) (c : Int → Int) (m B : Nat) (h : Sees w ob pb 60 N c m) (hN : N < 1000000) (hx : wf x) (hr : ∀ y, 0 ≤ c y ∧ c y ≤ B) (hB : B < 1000000) :
    Calls Try.prog 21 #[.pointer (some ⟨ob, 0, none⟩), .int .i64 x] w fun e w' => ∃ b c' m' N', e = .returned (.bool b) ∧ Sees w' ob pb 60 N' c' m' ∧ N' ≤ N + 1 ∧ (∀ y, 0 ≤ c' y ∧ c' y ≤ ((B + 1 : Nat) : Int)) ∧ w.grownBy w' (some pb) := by
  have hrx := hr x
  by_cases hno : x < 0 ∨ (c x = 0 ∧ (60 : Int) ≤ m)
  · refine (up_false w ob pb N 60 x c m h hx hno).mono ?_
    rintro e w' ⟨rfl, k, rfl⟩
    exact ⟨false, c, m, N, rfl, h.draw k, by omega, fun y => by have := hr y; omega, ⟨rfl, rfl, rfl, Nat.le_refl _, fun _ _ _ => rfl⟩⟩
  · refine (up_true w ob pb N 60 x c m h hN hx (by omega) (by omega) (by omega) (by omega)).mono ?_
    rintro e w' ⟨rfl, hs, hg⟩
    refine ⟨true, _, _, _, rfl, hs, Nat.le_refl _, fun y => ?_, hg⟩
    by_cases e : y = x
    · subst e; rw [upd_same]; omega
    · rw [upd_other _ _ e]; have := hr y; omega
end Go.Proofs.Ytlklehliapbgeaa.Hops
