/- The reference's reader of commands: a prefix. -/
import Derived.Test.YtliighhedmfgjaaRf
namespace Go.Proofs.Ytliighhedmfgjaa.Cmd
open Go.RowKit Go.Proofs.Ytliighhedmfgjaa.PRefC Go.Proofs.YtliighhedmfgjaaW.PrintWords Go.Proofs.YtliighhedmfgjaaW.PrintLast Go.Proofs.YtliighhedmfgjaaW.PrintMore

def fads (s : St) : St := fs 8 (fs 8 s)
def fps (s : St) : St := fs 1 (fads s)
def fpfx (s : St) : S26 := ⟨⟨gv 8 s, gv 8 (fs 8 s)⟩, gv 1 (fads s)⟩
theorem fs_byte {k : Nat} {s : St} (h : Byte s.1) : Byte (fs k s).1 := by
  unfold fs
  split
  · exact h
  · exact fun x hx => h x (List.mem_of_mem_drop hx)

set_option maxRecDepth 20000 in
set_option maxHeartbeats 2000000 in
theorem fpfx_st (w0 W : World) (rb : Nat) (s : St) (h : Rf w0 W rb s) :
    Calls Try.prog 33 #[.pointer (some ⟨rb, 0, none⟩)] W fun e w' => e = .returned (.agg #[.int .u64 (fpfx s).f0.f0, .int .u64 (fpfx s).f0.f1, .int .i64 (fpfx s).f1]) ∧ Rf w0 w' rb (fps s) ∧ Only W w' rb := by
  have hlt := h.lt
  have hle0 : w0.heap.size ≤ W.heap.size := h.bel.size
  have hr := gv_range 1 (fads s) (fs_byte (fs_byte h.byte))
  rw [p1] at hr
  have hw : IntKind.i64.wrap (gv 1 (fads s)) = gv 1 (fads s) := i64_of (by omega) (by omega)
  have HW := Lib.hid hw
  have H := Lib.hid h
  clear h hr hw
  go_enter Try.func33, Try.ntmps33
  go_wp2_with fail
  refine (fnum_st w0 _ rb 8 s (H.out.below (below_alloc (Below.refl _ _) _)) (by omega)).mono ?_
  rintro e w1 ⟨rfl, h1, o1⟩
  go_wp2_with fail
  refine (fnum_st w0 _ rb 8 (fs 8 s) h1 (by omega)).mono ?_
  rintro e w2 ⟨rfl, h2, o2⟩
  go_wp2_with fail
  refine (fnum_st w0 _ rb 1 (fads s) h2 (by omega)).mono ?_
  rintro e w3 ⟨rfl, h3, o3⟩
  have hm := o3.2 _ _ (o2.2 _ _ (o1.2 W.heap.size _ (blk_new _ _) (by omega)) (by omega)) (by omega)
  have k0 := blk_cell hm 0
  have k1 := blk_cell hm 1
  have k2 := blk_cell hm 2
  have f2 := fun i => blk_frozen hm i
  simp only [List.getElem?_toArray, List.getElem?_cons_zero, List.getElem?_cons_succ] at k0 k1 k2
  have HM := Lib.hid hm
  have H3 := Lib.hid h3
  have O3 := Lib.hid (((Only.refl W rb).below (below_alloc (Below.refl _ _) _)).trans (o1.trans (o2.trans o3)))
  have hw := HW.out
  clear hm h1 h2 h3 o1 o2 o3
  go_wp2
  (try simp only [Exit.inBlock, Exit.then])
  exact bodyPost_ret (v := .agg #[.int .u64 (fpfx s).f0.f0, .int .u64 (fpfx s).f0.f1, .int .i64 (fpfx s).f1]) (results_one (fn := Try.f33) rfl _ _ W.heap.size 26 _ (0, 0) _ rfl (blk_set (blk_set (blk_set HM.out 0 _) 1 _) 2 _) Try.underlying26 rfl (by kernel_rfl)) rfl
    ⟨rfl, ((H3.out.other (by omega) hle0 0 _).other (by omega) hle0 1 _).other (by omega) hle0 2 _, ((O3.out.new (Nat.le_refl _) 0 _).new (Nat.le_refl _) 1 _).new (Nat.le_refl _) 2 _⟩
end Go.Proofs.Ytliighhedmfgjaa.Cmd
