/- Package cidr: how a prefix is written. -/
import Derived.Test.YtjhlgfafjjmooaaDoorRead
namespace Go.Proofs.YtjhlgfafjjmooaaDoor.Dot
open Go.RowKit Go.Proofs.YtjhlgfafjjmooaaDoor.PCidrTells Go.Proofs.YtjhlgfafjjmooaaDoorW.PrintWords Go.Proofs.YtjhlgfafjjmooaaDoorW.PrintLast Go.Proofs.YtjhlgfafjjmooaaDoorW.PrintMore

theorem right_total (hi lo n : Int) : ∃ b, addr_Right.f hi lo n = some b := by
  unfold addr_Right.f addr_Cut.f
  by_cases h0 : n ≥ 0
  · rw [if_pos h0]
    by_cases h1 : n ≤ 128
    · rw [if_pos h1]; exact ⟨_, rfl⟩
    · rw [if_neg h1]; exact ⟨_, rfl⟩
  · rw [if_neg h0]; exact ⟨_, rfl⟩
/-- The i-th of an address's bytes. -/
def byteP (hi : Int) (i : Nat) : Int := hi / 2 ^ (56 - 8 * i) % 256
def txt (n : Int) : ByteArray := ⟨(Lib.itoa n).toArray⟩
def slashB : ByteArray := ⟨#[47]⟩
def showB (hi n : Int) : ByteArray := ⟨(Lib.join ([txt (byteP hi 0), txt (byteP hi 1), txt (byteP hi 2), txt (byteP hi 3)].map (·.data.toList)) [46]).toArray⟩ ++ slashB ++ txt n
theorem itoa_byte {n : Int} (h0 : 0 ≤ n) (h1 : n < 256) : (Lib.itoa n).length ≤ 3 := by
  have key : (List.range 256).all (fun m => decide ((Lib.itoa (m : Int)).length ≤ 3)) = true := by kernel_rfl
  obtain ⟨m, rfl⟩ := Int.eq_ofNat_of_zero_le h0
  have := List.all_eq_true.mp key m (List.mem_range.mpr (by omega))
  exact of_decide_eq_true this
theorem byteP_range (hi : Int) (i : Nat) : 0 ≤ byteP hi i ∧ byteP hi i < 256 := by unfold byteP; omega
theorem txt_byte (hi : Int) (i : Nat) : (txt (byteP hi i)).data.toList.length ≤ 3 := by
  have := byteP_range hi i
  have := itoa_byte this.1 this.2
  unfold txt
  simpa using this
theorem right_le {hi lo n : Int} (h : addr_Right.f hi lo n = some true) : 0 ≤ n := by
  unfold addr_Right.f at h
  by_cases h0 : n ≥ 0
  · exact h0
  · rw [if_neg h0] at h; cases h
theorem info9 : (Tryd.prog.info? 9).map (fun i => (i.zero, i.size, i.bytes)) = some (some (.string ByteArray.empty), 1, 16) := by kernel_rfl

set_option maxRecDepth 20000 in
set_option maxHeartbeats 4000000 in
theorem show_is (hi lo n : Int) (b : Bool) (w : World) (hE : Env w) (h0 : 0 ≤ hi ∧ hi < 18446744073709551616) (hn : -9223372036854775808 ≤ n ∧ n ≤ 9223372036854775807) (hb : addr_Right.f hi lo n = some b) :
    Calls Tryd.prog 14 #[.agg #[.int .u64 hi, .int .u64 lo, .int .i64 n]] w fun e w' => e = .returned (.string (if (b && decide (n ≤ 32)) = true then showB hi n else ByteArray.empty)) ∧ Below w.heap.size w w' := by
  have HE := Lib.hid hE
  have HRT := Lib.hid hb
  have HRL := Lib.hid (show b = true → 0 ≤ n from fun e => right_le (by rw [← e]; exact hb))
  have H0 := Lib.hid hE
  clear hE hb
  obtain ⟨r, hr⟩ : ∃ r, r = (if (b && decide (n ≤ 32)) = true then showB hi n else ByteArray.empty) := ⟨_, rfl⟩
  rw [← hr]
  have HR := Lib.hid hr
  clear hr
  go_enter Tryd.func14, Tryd.ntmps14
  go_wp2_with fail
  obtain ⟨w1, hw1⟩ : ∃ w1, w1 = w.alloc (.cells #[.int .u64 hi, .int .u64 lo, .int .i64 n] 26 (0, 0)) := ⟨_, rfl⟩
  have k1 : w1.heap[w.heap.size]? = some (.cells #[.int .u64 hi, .int .u64 lo, .int .i64 n] 26 (0, 0)) := by rw [hw1]; exact blk_new _ _
  have b1 : Below w.heap.size w w1 := by rw [hw1]; exact below_alloc (Below.refl _ _) _
  rw [← hw1]
  clear hw1
  have q0 := blk_cell k1 0
  have q1 := blk_cell k1 1
  have q2 := blk_cell k1 2
  simp only [List.getElem?_toArray, List.getElem?_cons_zero, List.getElem?_cons_succ] at q0 q1 q2
  have E1 := Lib.hid (HE.out.below b1)
  have B1 := Lib.hid b1
  have K1 := Lib.hid k1
  clear b1 k1 HE
  go_wp2_with fail
  refine (addr_Right.calls hi lo n b w1 HRT.out).mono ?_
  rintro e w2 ⟨rfl, b2⟩
  have k2 := blk_below K1.out b2
  have E2 := Lib.hid (E1.out.below b2)
  have B2 := Lib.hid (B1.out.trans (b2.mono B1.out.size))
  have K2 := Lib.hid k2
  have s0 := blk_cell k2 0
  have s1 := blk_cell k2 1
  have s2 := blk_cell k2 2
  simp only [List.getElem?_toArray, List.getElem?_cons_zero, List.getElem?_cons_succ] at s0 s1 s2
  clear q0 q1 q2 E1 B1 K1 k2 b2 w1 HRT
  cases b with
  | false =>
    have hrr : r = ByteArray.empty := HR.out
    clear HR
    subst hrr
    go_wp2
    go_ret
    exact ⟨rfl, B2.out⟩
  | true =>
    by_cases h32 : n ≤ 32
    · have hrr : r = showB hi n := by rw [HR.out, decide_eq_true h32]; rfl
      clear HR
      have HRR := Lib.hid hrr
      clear hrr
      go_wp2_with fail
      go_loopw [3, 13] (fun v3 vi wr => ∃ (i : Nat) (xs : List ByteArray) (A : Option Addr) (c : Nat), i ≤ 4 ∧ v3 = .slice A xs.length c ∧ vi = .int .i64 i ∧ Hid (xs.length = i) ∧ Hid (Below w.heap.size w wr) ∧ Hid (Env wr) ∧ Hid (wr.heap[w.heap.size]? = some (.cells #[.int .u64 hi, .int .u64 lo, .int .i64 n] 26 (0, 0))) ∧ Hid (Kd.string.R 9 wr w.heap.size (fun j => j ≠ w.heap.size) (.slice A xs.length c) xs) ∧ Hid (xs = (List.range i).map (fun j => txt (byteP hi j)))) (fun _ i _ => 4 - (intOf i).toNat)
      case atStart => exact ⟨0, [], none, 0, by omega, rfl, rfl, rfl, B2.out, E2.out, K2.out, Kd.R_nil _ _ _ _ _, rfl⟩
      case round =>
        clear B2 E2 K2 s0 s1 s2
        obtain ⟨i, xs, A, c, hi4, rfl, rfl, HX, HB, HE, HK, HO, HL⟩ := hrel
        have q0 := blk_cell HK.out 0
        have q1 := blk_cell HK.out 1
        have q2 := blk_cell HK.out 2
        simp only [List.getElem?_toArray, List.getElem?_cons_zero, List.getElem?_cons_succ] at q0 q1 q2
        by_cases hlt : i < 4
        · rcases (show i = 0 ∨ i = 1 ∨ i = 2 ∨ i = 3 by omega) with rfl | rfl | rfl | rfl
          · go_wp2_with fail
            have hp : (2 : Int) ^ (56 - 8 * 0) = 72057594037927936 := by decide
            have ev : hi / 72057594037927936 = byteP hi 0 := by
              unfold byteP
              rw [hp]
              all_goals omega
            have hr0 : 0 ≤ byteP hi 0 ∧ byteP hi 0 < 256 := by unfold byteP; omega
            rw [ev]
            refine (Tryd.strconv_Itoa (byteP hi 0) (by omega) (by omega) wr HE.out.tab).mono ?_
            rintro e w3 ⟨rfl, kk, os, hw3⟩
            have b3 : Below wr.heap.size wr w3 := by
              rw [hw3]
              have := below_sgrow (wr.drewN kk) os
              exact ⟨this.os, this.tape, this.output, this.size, this.block⟩
            obtain ⟨x, hx⟩ : ∃ x, x = txt (byteP hi 0) := ⟨_, rfl⟩
            rw [show ({ data := (Lib.itoa (byteP hi 0)).toArray } : ByteArray) = x from hx.symm]
            have B3 := Lib.hid (HB.out.trans (b3.mono HB.out.size))
            have K3 := Lib.hid (blk_below HK.out b3)
            have O3 := Lib.hid (Kd.R_step HO.out fun j _ hj => b3.block j hj)
            have HL2 := Lib.hid (show xs ++ [x] = (List.range (0 + 1)).map (fun j => txt (byteP hi j)) by rw [HL.out, hx]; rfl)
            have HX2 := Lib.hid (show (xs ++ [x]).length = 0 + 1 by rw [List.length_append, HX.out]; rfl)
            have hxl : xs.length ≤ 4 := by have := HX.out; omega
            have hlw : w.heap.size < w3.heap.size := blk_lt K3.out
            clear hw3 b3 hx ev hr0 hp HB HK HO HL HX HE q0 q1 q2
            go_wp2_with (first | ((with_reducible refine gate_builtin (b := .append) (xs := #[.tmp 16, .tmp 28]) rfl ?_); at_builtin; refine Kd.R_append Kd.string (w0 := w) (W := w3) w.heap.size rfl (.tmp 16) (.tmp 28) 38 9 (.string ByteArray.empty) 16 rfl Tryd.underlying38 info9 rfl (by decide) (by omega) (.slice A xs.length c) xs x [.string x] (fun j => j ≠ w.heap.size) (fun _ => False) rfl rfl rfl (fun _ hk => hk.elim) (fun j hj => by omega) O3.out B3.out B3.out.size (by omega) ?_; intro v4 w4 ho hb hg _; obtain ⟨A', c', he⟩ := Kd.R_slice ho; subst he; have K4 := Lib.hid (blk_grown K3.out hg (fun e => (O3.out.1 _ e.symm) rfl)); have O4 := Lib.hid ho; have B4 := Lib.hid hb; clear ho hb hg))
            go_roundw
            case rel =>
              refine ⟨0 + 1, xs ++ [x], A', c', by omega, ?_, by go_num, HX2.out, B4.out, H0.out.below B4.out, K4.out, O4.out, HL2.out⟩
              first | rfl | (congr 1; simp)
            case measure => simp [intOf]
          · go_wp2_with fail
            have hp : (2 : Int) ^ (56 - 8 * 1) = 281474976710656 := by decide
            have ev : hi / 281474976710656 % 256 = byteP hi 1 := by
              unfold byteP
              rw [hp]
              all_goals omega
            have hr0 : 0 ≤ byteP hi 1 ∧ byteP hi 1 < 256 := by unfold byteP; omega
            rw [ev]
            refine (Tryd.strconv_Itoa (byteP hi 1) (by omega) (by omega) wr HE.out.tab).mono ?_
            rintro e w3 ⟨rfl, kk, os, hw3⟩
            have b3 : Below wr.heap.size wr w3 := by
              rw [hw3]
              have := below_sgrow (wr.drewN kk) os
              exact ⟨this.os, this.tape, this.output, this.size, this.block⟩
            obtain ⟨x, hx⟩ : ∃ x, x = txt (byteP hi 1) := ⟨_, rfl⟩
            rw [show ({ data := (Lib.itoa (byteP hi 1)).toArray } : ByteArray) = x from hx.symm]
            have B3 := Lib.hid (HB.out.trans (b3.mono HB.out.size))
            have K3 := Lib.hid (blk_below HK.out b3)
            have O3 := Lib.hid (Kd.R_step HO.out fun j _ hj => b3.block j hj)
            have HL2 := Lib.hid (show xs ++ [x] = (List.range (1 + 1)).map (fun j => txt (byteP hi j)) by rw [HL.out, hx]; rfl)
            have HX2 := Lib.hid (show (xs ++ [x]).length = 1 + 1 by rw [List.length_append, HX.out]; rfl)
            have hxl : xs.length ≤ 4 := by have := HX.out; omega
            have hlw : w.heap.size < w3.heap.size := blk_lt K3.out
            clear hw3 b3 hx ev hr0 hp HB HK HO HL HX HE q0 q1 q2
            go_wp2_with (first | ((with_reducible refine gate_builtin (b := .append) (xs := #[.tmp 16, .tmp 28]) rfl ?_); at_builtin; refine Kd.R_append Kd.string (w0 := w) (W := w3) w.heap.size rfl (.tmp 16) (.tmp 28) 38 9 (.string ByteArray.empty) 16 rfl Tryd.underlying38 info9 rfl (by decide) (by omega) (.slice A xs.length c) xs x [.string x] (fun j => j ≠ w.heap.size) (fun _ => False) rfl rfl rfl (fun _ hk => hk.elim) (fun j hj => by omega) O3.out B3.out B3.out.size (by omega) ?_; intro v4 w4 ho hb hg _; obtain ⟨A', c', he⟩ := Kd.R_slice ho; subst he; have K4 := Lib.hid (blk_grown K3.out hg (fun e => (O3.out.1 _ e.symm) rfl)); have O4 := Lib.hid ho; have B4 := Lib.hid hb; clear ho hb hg))
            go_roundw
            case rel =>
              refine ⟨1 + 1, xs ++ [x], A', c', by omega, ?_, by go_num, HX2.out, B4.out, H0.out.below B4.out, K4.out, O4.out, HL2.out⟩
              first | rfl | (congr 1; simp)
            case measure => simp [intOf]
          · go_wp2_with fail
            have hp : (2 : Int) ^ (56 - 8 * 2) = 1099511627776 := by decide
            have ev : hi / 1099511627776 % 256 = byteP hi 2 := by
              unfold byteP
              rw [hp]
              all_goals omega
            have hr0 : 0 ≤ byteP hi 2 ∧ byteP hi 2 < 256 := by unfold byteP; omega
            rw [ev]
            refine (Tryd.strconv_Itoa (byteP hi 2) (by omega) (by omega) wr HE.out.tab).mono ?_
            rintro e w3 ⟨rfl, kk, os, hw3⟩
            have b3 : Below wr.heap.size wr w3 := by
              rw [hw3]
              have := below_sgrow (wr.drewN kk) os
              exact ⟨this.os, this.tape, this.output, this.size, this.block⟩
            obtain ⟨x, hx⟩ : ∃ x, x = txt (byteP hi 2) := ⟨_, rfl⟩
            rw [show ({ data := (Lib.itoa (byteP hi 2)).toArray } : ByteArray) = x from hx.symm]
            have B3 := Lib.hid (HB.out.trans (b3.mono HB.out.size))
            have K3 := Lib.hid (blk_below HK.out b3)
            have O3 := Lib.hid (Kd.R_step HO.out fun j _ hj => b3.block j hj)
            have HL2 := Lib.hid (show xs ++ [x] = (List.range (2 + 1)).map (fun j => txt (byteP hi j)) by rw [HL.out, hx]; rfl)
            have HX2 := Lib.hid (show (xs ++ [x]).length = 2 + 1 by rw [List.length_append, HX.out]; rfl)
            have hxl : xs.length ≤ 4 := by have := HX.out; omega
            have hlw : w.heap.size < w3.heap.size := blk_lt K3.out
            clear hw3 b3 hx ev hr0 hp HB HK HO HL HX HE q0 q1 q2
            go_wp2_with (first | ((with_reducible refine gate_builtin (b := .append) (xs := #[.tmp 16, .tmp 28]) rfl ?_); at_builtin; refine Kd.R_append Kd.string (w0 := w) (W := w3) w.heap.size rfl (.tmp 16) (.tmp 28) 38 9 (.string ByteArray.empty) 16 rfl Tryd.underlying38 info9 rfl (by decide) (by omega) (.slice A xs.length c) xs x [.string x] (fun j => j ≠ w.heap.size) (fun _ => False) rfl rfl rfl (fun _ hk => hk.elim) (fun j hj => by omega) O3.out B3.out B3.out.size (by omega) ?_; intro v4 w4 ho hb hg _; obtain ⟨A', c', he⟩ := Kd.R_slice ho; subst he; have K4 := Lib.hid (blk_grown K3.out hg (fun e => (O3.out.1 _ e.symm) rfl)); have O4 := Lib.hid ho; have B4 := Lib.hid hb; clear ho hb hg))
            go_roundw
            case rel =>
              refine ⟨2 + 1, xs ++ [x], A', c', by omega, ?_, by go_num, HX2.out, B4.out, H0.out.below B4.out, K4.out, O4.out, HL2.out⟩
              first | rfl | (congr 1; simp)
            case measure => simp [intOf]
          · go_wp2_with fail
            have hp : (2 : Int) ^ (56 - 8 * 3) = 4294967296 := by decide
            have ev : hi / 4294967296 % 256 = byteP hi 3 := by
              unfold byteP
              rw [hp]
              all_goals omega
            have hr0 : 0 ≤ byteP hi 3 ∧ byteP hi 3 < 256 := by unfold byteP; omega
            rw [ev]
            refine (Tryd.strconv_Itoa (byteP hi 3) (by omega) (by omega) wr HE.out.tab).mono ?_
            rintro e w3 ⟨rfl, kk, os, hw3⟩
            have b3 : Below wr.heap.size wr w3 := by
              rw [hw3]
              have := below_sgrow (wr.drewN kk) os
              exact ⟨this.os, this.tape, this.output, this.size, this.block⟩
            obtain ⟨x, hx⟩ : ∃ x, x = txt (byteP hi 3) := ⟨_, rfl⟩
            rw [show ({ data := (Lib.itoa (byteP hi 3)).toArray } : ByteArray) = x from hx.symm]
            have B3 := Lib.hid (HB.out.trans (b3.mono HB.out.size))
            have K3 := Lib.hid (blk_below HK.out b3)
            have O3 := Lib.hid (Kd.R_step HO.out fun j _ hj => b3.block j hj)
            have HL2 := Lib.hid (show xs ++ [x] = (List.range (3 + 1)).map (fun j => txt (byteP hi j)) by rw [HL.out, hx]; rfl)
            have HX2 := Lib.hid (show (xs ++ [x]).length = 3 + 1 by rw [List.length_append, HX.out]; rfl)
            have hxl : xs.length ≤ 4 := by have := HX.out; omega
            have hlw : w.heap.size < w3.heap.size := blk_lt K3.out
            clear hw3 b3 hx ev hr0 hp HB HK HO HL HX HE q0 q1 q2
            go_wp2_with (first | ((with_reducible refine gate_builtin (b := .append) (xs := #[.tmp 16, .tmp 28]) rfl ?_); at_builtin; refine Kd.R_append Kd.string (w0 := w) (W := w3) w.heap.size rfl (.tmp 16) (.tmp 28) 38 9 (.string ByteArray.empty) 16 rfl Tryd.underlying38 info9 rfl (by decide) (by omega) (.slice A xs.length c) xs x [.string x] (fun j => j ≠ w.heap.size) (fun _ => False) rfl rfl rfl (fun _ hk => hk.elim) (fun j hj => by omega) O3.out B3.out B3.out.size (by omega) ?_; intro v4 w4 ho hb hg _; obtain ⟨A', c', he⟩ := Kd.R_slice ho; subst he; have K4 := Lib.hid (blk_grown K3.out hg (fun e => (O3.out.1 _ e.symm) rfl)); have O4 := Lib.hid ho; have B4 := Lib.hid hb; clear ho hb hg))
            go_roundw
            case rel =>
              refine ⟨3 + 1, xs ++ [x], A', c', by omega, ?_, by go_num, HX2.out, B4.out, H0.out.below B4.out, K4.out, O4.out, HL2.out⟩
              first | rfl | (congr 1; simp)
            case measure => simp [intOf]
        · obtain rfl : i = 4 := by omega
          have hxs : xs = [txt (byteP hi 0), txt (byteP hi 1), txt (byteP hi 2), txt (byteP hi 3)] := by rw [HL.out]; rfl
          have hx4 := HX.out
          obtain ⟨_, hown⟩ : True ∧ wr.ownsRow w.heap.size 9 1 (.slice A xs.length c) xs.length (encs Value.string xs) := ⟨trivial, Kd.own_of_R HO.out⟩
          obtain ⟨g, cap, hge, _, _⟩ := hown.form (by omega)
          simp only [Value.slice.injEq] at hge
          obtain ⟨rfl, _, rfl⟩ := hge
          have hg : g < wr.heap.size := own_lt hown g rfl
          have hcell : ∀ (j : Nat) (x : ByteArray), xs[j]? = some x → wr.cell? ⟨g, 0 + j, none⟩ = some (.string x) := by
            intro j x hj
            obtain ⟨hjl, hjx⟩ := List.getElem?_eq_some_iff.1 hj
            have := (Kd.R_cell ByteArray.empty HO.out (j : Int) (by omega) (by omega)).1
            rw [Int.toNat_natCast] at this
            rw [Nat.zero_add, this]
            unfold rdOf
            rw [Int.toNat_natCast, List.getD_eq_getElem?_getD, hj]
            rfl
          have hjn : (Lib.join (xs.map (fun x => x.data.toList)) (⟨#[46]⟩ : ByteArray).data.toList).length ≤ 100 := by
            have t0 := txt_byte hi 0
            have t1 := txt_byte hi 1
            have t2 := txt_byte hi 2
            have t3 := txt_byte hi 3
            rw [hxs]
            have ej : ∀ a b c d s : List UInt8, (Lib.join [a, b, c, d] s).length = a.length + s.length + b.length + s.length + c.length + s.length + d.length := by
              intro a b c d s
              simp [Lib.join, List.intercalate, List.intersperse]
              omega
            rw [List.map_cons, List.map_cons, List.map_cons, List.map_cons, List.map_nil, ej]
            have e46 : (⟨#[46]⟩ : ByteArray).data.toList.length = 1 := rfl
            rw [e46]
            omega
          have hn0 : 0 ≤ n := HRL.out trivial
          have htn := itoa_byte hn0 (show n < 256 by omega)
          obtain ⟨tn, htn2⟩ : ∃ tn, tn = txt n := ⟨_, rfl⟩
          have hts : tn.size ≤ 3 := by rw [htn2]; unfold txt; rw [ba_size]; exact htn
          obtain ⟨js, hjs⟩ : ∃ js : ByteArray, js = ⟨(Lib.join (xs.map (fun x => x.data.toList)) (⟨#[46]⟩ : ByteArray).data.toList).toArray⟩ := ⟨_, rfl⟩
          have hfin : r = js ++ slashB ++ txt n := by rw [HRR.out, hjs, hxs]; rfl
          have HFIN := Lib.hid hfin
          have HJS := Lib.hid hjs
          have HCELL := Lib.hid hcell
          have HJN := Lib.hid (Nat.le_trans hjn (show 100 ≤ 140737488355328 by decide))
          have hjsz : js.size ≤ 100 := by rw [HJS.out, ba_size]; exact hjn
          have hj1 : ¬ (9223372036854775807 < js.size + 1) := by omega
          have hj2 : ¬ (9223372036854775807 < js.size + 1 + tn.size) := by omega
          have HTN := Lib.hid htn2
          clear htn2 hts hjsz htn hn0
          have hcap : xs.length ≤ c := by obtain ⟨_, _, he, hl, _⟩ := Kd.R_reads HO.out; simp only [Value.slice.injEq] at he; omega
          have BD := Lib.hid (HB.out.trans (below_drew (Below.refl _ _)) |>.mono (Nat.le_refl _))
          have hxn : xs.length ≤ 140737488355328 := by omega
          have HXN := Lib.hid hxn
          have HCAP := Lib.hid hcap
          clear hfin hjs hcell hjn hxs hown HO HL HRR hx4 hxn hcap hi4 hlt
          go_wp2_with fail
          go_region_law (first
            | (go_simp; go_at_call 32; refine (Tryd.strings_Join g 0 c xs ⟨#[46]⟩ wr.drew HCELL.out hg HXN.out HCAP.out HJN.out).mono ?_; rintro e w5 ⟨rfl, b5⟩; rw [← HJS.out]; have k5 := blk_below (blk_drew HK.out) b5; have s2 := blk_cell k5 2; simp only [List.getElem?_toArray, List.getElem?_cons_zero, List.getElem?_cons_succ] at s2; have B5 := Lib.hid (BD.out.trans (b5.mono BD.out.size)); clear b5 k5)
            | (go_simp; go_at_call 31; refine (Tryd.strconv_Itoa n hn.1 hn.2 w5 (H0.out.below B5.out).tab).mono ?_; rintro e w6 ⟨rfl, kk, os, hw6⟩; rw [show ({ data := (Lib.itoa n).toArray } : ByteArray) = tn from HTN.out.symm]; have b6 : Below w5.heap.size w5 w6 := (by rw [hw6]; have := below_sgrow (w5.drewN kk) os; exact ⟨this.os, this.tape, this.output, this.size, this.block⟩); have B6 := Lib.hid (B5.out.trans (b6.mono B5.out.size)); clear hw6 b6))
          all_goals go_wp2
          all_goals go_ret
          all_goals exact ⟨by rw [HFIN.out, HTN.out]; rfl, B6.out⟩
    · have hrr : r = ByteArray.empty := by rw [HR.out, decide_eq_false h32]; rfl
      clear HR
      subst hrr
      go_wp2
      go_ret
      exact ⟨rfl, B2.out⟩
end Go.Proofs.YtjhlgfafjjmooaaDoor.Dot
