/- strconv.FormatUint at base 16, of numbers below 2^16. -/
import Derived.Test.YtjhlgfafjjmooaaDoorDot
import Derived.Laws.IdiomStrings
namespace Go.Proofs.YtjhlgfafjjmooaaDoor.Dot
open Go.RowKit Go.Proofs.YtjhlgfafjjmooaaDoorW.PrintWords Go.Proofs.YtjhlgfafjjmooaaDoorW.PrintLast Go.Proofs.YtjhlgfafjjmooaaDoorW.PrintMore

theorem gD : Tryd.prog.globalNamed "math/bits.deBruijn64tab" = some 7 := by kernel_rfl
/-- What the library's own variables hold, the table of math/bits too. -/
structure Env2 (w : World) : Prop where
  e : Env w
  tz : w.cell? ⟨7, 15, none⟩ = some (.int .u8 4)
  le : 8 ≤ w.heap.size
theorem Env2.below {w w1 : World} (h : Env2 w) (hb : Below w.heap.size w w1) : Env2 w1 :=
  ⟨h.e.below hb, (hb.cell (p := ⟨7, 15, none⟩) (by show 7 < w.heap.size; have := h.le; omega)).trans h.tz, Nat.le_trans h.le hb.size⟩

theorem tz64_is (w : World) (h : Env2 w) : Calls Tryd.prog 101 #[.int .u64 16] w fun e w' => e = .returned (.int .i64 4) ∧ w = w' := by
  have hz := h.tz
  have e1 : bits .and .u64 16 (IntKind.u64.wrap (-16)) = 16 := by kernel_rfl
  have e2 : IntKind.u64.wrap (16 * 285870213051353865) = 4573923408821661840 := by kernel_rfl
  have e3 : IntKind.u64.wrap 4573923408821661840 = 4573923408821661840 := by kernel_rfl
  clear h
  go_enter Tryd.func101, Tryd.ntmps101
  go_wp2
  go_ret
  exact ⟨rfl, rfl⟩
theorem tz_is (w : World) (h : Env2 w) : Calls Tryd.prog 97 #[.int .u64 16] w fun e w' => e = .returned (.int .i64 4) ∧ w = w' := by
  have H := Lib.hid h
  clear h
  go_enter Tryd.func97, Tryd.ntmps97
  go_wp2_with (go_at_call 101; refine (tz64_is w H.out).mono ?_; rintro e w' ⟨rfl, rfl⟩)
  go_ret
  exact ⟨rfl, rfl⟩
theorem pow_is (w : World) : Calls Tryd.prog 96 #[.int .i64 16] w fun e w' => e = .returned (.bool true) ∧ w = w' := by
  go_enter Tryd.func96, Tryd.ntmps96
  go_wp2
  go_ret
  exact ⟨rfl, rfl⟩

def hd (n : Nat) : UInt8 := #[48, 49, 50, 51, 52, 53, 54, 55, 56, 57, 97, 98, 99, 100, 101, 102].getD n 0
/-- A number in base 16. -/
def hexF : Nat → Nat → List UInt8
  | 0, x => [hd x]
  | k + 1, x => if x < 16 then [hd x] else hexF k (x / 16) ++ [hd (x % 16)]
def hexL (x : Nat) : List UInt8 := hexF 3 x
def hexB (x : Nat) : ByteArray := ⟨(hexL x).toArray⟩
theorem hexF_small (k x : Nat) (h : x < 16) : hexF k x = [hd x] := by
  cases k with
  | zero => rfl
  | succ k => unfold hexF; rw [if_pos h]
theorem hexF_great (k x : Nat) (h : ¬ x < 16) : hexF (k + 1) x = hexF k (x / 16) ++ [hd (x % 16)] := by
  show (if x < 16 then [hd x] else hexF k (x / 16) ++ [hd (x % 16)]) = _
  rw [if_neg h]
def u8v (b : UInt8) : Value := .int .u8 (b.toNat : Int)

def digB : ByteArray := ⟨#[48, 49, 50, 51, 52, 53, 54, 55, 56, 57, 97, 98, 99, 100, 101, 102, 103, 104, 105, 106, 107, 108, 109, 110, 111, 112, 113, 114, 115, 116, 117, 118, 119, 120, 121, 122]⟩
theorem dig_hd (c : Nat) (h : c < 16) (hs : c < digB.size) : digB[c]'hs = hd c := by
  have : c = 0 ∨ c = 1 ∨ c = 2 ∨ c = 3 ∨ c = 4 ∨ c = 5 ∨ c = 6 ∨ c = 7 ∨ c = 8 ∨ c = 9 ∨ c = 10 ∨ c = 11 ∨ c = 12 ∨ c = 13 ∨ c = 14 ∨ c = 15 := by omega
  rcases this with rfl | rfl | rfl | rfl | rfl | rfl | rfl | rfl | rfl | rfl | rfl | rfl | rfl | rfl | rfl | rfl <;> rfl
theorem drop_set (L : List UInt8) (m : Nat) (b : UInt8) (h : m < L.length) : (L.set m b).drop m = b :: L.drop (m + 1) := by
  rw [List.drop_eq_getElem_cons (by rw [List.length_set]; exact h)]
  simp [List.drop_set]
set_option maxRecDepth 100000 in
set_option maxHeartbeats 2000000 in
theorem formatBits_is (x : Nat) (hx : x < 65536) (w : World) (h : Env2 w) :
    Calls Tryd.prog 84 #[.slice none 0 0, .int .u64 x, .int .i64 16, .bool false, .bool false] w fun e w' => e = .returned (.tuple #[.slice none 0 0, .string (hexB x)]) ∧ Below w.heap.size w w' := by
  have HE := Lib.hid h
  clear h
  go_enter Tryd.func84, Tryd.ntmps84
  go_wp2_with fail
  obtain ⟨w1, hw1⟩ : ∃ w1, w1 = w.alloc (.cells Tryd.zeroCells118 118 (0, 0)) := ⟨_, rfl⟩
  have k1 : w1.heap[w.heap.size]? = some (.cells ((List.replicate 65 (0 : UInt8)).map u8v).toArray 118 (0, 0)) := by
    have e : Tryd.zeroCells118 = ((List.replicate 65 (0 : UInt8)).map u8v).toArray := by kernel_rfl
    rw [hw1, ← e]; exact blk_new _ _
  have b1 : Below w.heap.size w w1 := by rw [hw1]; exact below_alloc (Below.refl _ _) _
  rw [← hw1]
  clear hw1
  have E1 := Lib.hid (HE.out.below b1)
  have B1 := Lib.hid b1
  have K1 := Lib.hid k1
  clear b1 k1 HE
  refine (pow_is w1).mono ?_
  rintro e w' ⟨rfl, rfl⟩
  go_wp2_with (go_at_call 97; refine (tz_is w1 E1.out).mono ?_; rintro e w' ⟨rfl, rfl⟩)
  go_loopw [1, 13] (fun v1 v13 wr => ∃ (m u : Nat) (sfx L : List UInt8), 62 ≤ m ∧ m ≤ 65 ∧ v1 = .int .u64 u ∧ v13 = .int .i64 m ∧ Hid (u < 16 ^ (m - 61)) ∧ Hid (hexL x = hexF (m - 62) u ++ sfx) ∧ Hid (L.length = 65 ∧ L.drop m = sfx) ∧ Hid (Below w.heap.size w wr) ∧ Hid (wr.heap[w.heap.size]? = some (.cells (L.map u8v).toArray 118 (0, 0)))) (fun _ v13 _ => (intOf v13).toNat)
  case atStart => exact ⟨65, x, [], List.replicate 65 0, by omega, by omega, rfl, rfl, hx, (by rw [List.append_nil]; rfl), ⟨by simp, by simp⟩, B1.out, K1.out⟩
  case round =>
    clear B1 K1 E1
    obtain ⟨m, u, sfx, L, hm0, hm1, rfl, rfl, HU, HX, HL, HB, HK⟩ := hrel
    by_cases hu : 16 ≤ u
    · have hm : 63 ≤ m := by
        rcases Nat.lt_or_ge m 63 with h | h
        · have h2 := HU.out
          rw [show m - 61 = 1 by omega] at h2
          omega
        · exact h
      have hul : u < 18446744073709551616 := Nat.lt_of_lt_of_le HU.out (Nat.le_trans (Nat.pow_le_pow_right (show 0 < 16 by decide) (show m - 61 ≤ 4 by omega)) (by decide))
      obtain ⟨c, hc⟩ : ∃ c, c = u % 16 := ⟨_, rfl⟩
      have hc16 : c < 16 := by omega
      have he : bits .and .u64 (u : Int) 15 = (c : Int) := by
        rw [show (15 : Int) = ((15 : Nat) : Int) from rfl, u64_and_nat _ _ hul (by decide), show (15 : Nat) = 2 ^ 4 - 1 from rfl, Nat.and_two_pow_sub_one_eq_mod, hc]
      clear hul
      have HC := Lib.hid hc
      clear hc
      have hlen := HL.out.1
      have q := blk_cell HK.out (m - 1)
      rw [List.getElem?_toArray, List.getElem?_map, List.getElem?_eq_getElem (by omega), Option.map_some] at q
      have f := blk_frozen HK.out (m - 1)
      obtain ⟨v, hv⟩ : ∃ v, u8v (L[m - 1]'(by omega)) = v := ⟨_, rfl⟩
      rw [hv] at q
      clear hv
      have hm1' : (m : Int) - 1 = ((m - 1 : Nat) : Int) := by omega
      have HM := Lib.hid hm1'
      clear hm1'
      go_wp2
      go_roundw
      case rel =>
        refine ⟨m - 1, u / 16, hd c :: sfx, L.set (m - 1) (hd c), by omega, by omega, ?_, ?_, ?_, ?_, ⟨by rw [List.length_set]; exact hlen, ?_⟩, HB.out.setCell (p := ⟨w.heap.size, m - 1, none⟩) (Nat.le_refl _) _, ?_⟩
        · congr 1
        · congr 1
        · have h2 := HU.out
          rw [show m - 61 = (m - 1 - 61) + 1 by omega, Nat.pow_succ] at h2
          show u / 16 < 16 ^ (m - 1 - 61)
          exact Nat.div_lt_of_lt_mul (by rw [Nat.mul_comm]; exact h2)
        · show hexL x = _
          rw [HX.out, show m - 62 = (m - 1 - 62) + 1 by omega, hexF_great _ _ (by omega), ← HC.out]
          simp
        · rw [drop_set _ _ _ (by omega), show m - 1 + 1 = m by omega, HL.out.2]
        · have h2 := blk_set HK.out (m - 1) (u8v (hd c))
          rw [List.setIfInBounds_toArray, ← List.map_set] at h2
          rw [← dig_hd c hc16 (by show c < 36; omega)] at h2 ⊢
          exact h2
      case measure => simp [intOf]; omega
    · have hul : u < 16 := by omega
      have hlen := HL.out.1
      have q := blk_cell HK.out (m - 1)
      rw [List.getElem?_toArray, List.getElem?_map, List.getElem?_eq_getElem (by omega), Option.map_some] at q
      have f := blk_frozen HK.out (m - 1)
      obtain ⟨v, hv⟩ : ∃ v, u8v (L[m - 1]'(by omega)) = v := ⟨_, rfl⟩
      rw [hv] at q
      clear hv
      have hm1' : (m : Int) - 1 = ((m - 1 : Nat) : Int) := by omega
      have HM := Lib.hid hm1'
      clear hm1'
      go_upto_region 30 with (fail)
      obtain ⟨w2, hw2⟩ : ∃ w2, w2 = wr.setCell ⟨w.heap.size, m - 1, none⟩ (u8v (hd u)) := ⟨_, rfl⟩
      have k2 := blk_set HK.out (m - 1) (u8v (hd u))
      rw [List.setIfInBounds_toArray, ← List.map_set, ← hw2] at k2
      have b2 : Below w.heap.size w w2 := by rw [hw2]; exact HB.out.setCell (p := ⟨w.heap.size, m - 1, none⟩) (Nat.le_refl _) _
      have hdu := dig_hd u hul (by show u < 36; omega)
      have he2 : wr.setCell ⟨w.heap.size, m - 1, none⟩ (.int .u8 ((digB[u]'(by show u < 36; omega)).toNat : Int)) = w2 := by rw [hw2, hdu]; rfl
      unfold digB at he2
      rw [he2]
      have hL : (L.set (m - 1) (hd u)).drop (m - 1) = hexL x := by
        rw [drop_set _ _ _ (by omega), show m - 1 + 1 = m by omega, HL.out.2, HX.out, hexF_small _ _ hul]
        rfl
      have K2 := Lib.hid k2
      have B2 := Lib.hid b2
      have HLL := Lib.hid hL
      clear hw2 k2 b2 hdu he2 hL q f HK HB HL HX
      have hal : Tryd.prog.arrayLen 118 = 65 := by kernel_rfl
      have hsl : (Instr.sliceAt 118 (.pointer (some ⟨w.heap.size, 0, none⟩)) (some (.int .i64 ((m : Int) - 1))) none none).run Tryd.prog w2 = .ok (.slice (some ⟨w.heap.size, m - 1, none⟩) (66 - m) (66 - m)) w2 := by
        rw [run_sliceAt_array_l w2 118 ⟨w.heap.size, 0, none⟩ (by simp [Program.arrayLen, Program.elem, Tryd.underlying118]) .i64 ((m : Int) - 1) (by omega) (by rw [hal]; omega)]
        go_simp
        omega
      have hcv : (convert 73 9 (.slice (some ⟨w.heap.size, m - 1, none⟩) (66 - m) (66 - m))).run Tryd.prog w2 = .ok (.string (hexB x)) w2 := by
        have hl : (hexL x).length = 66 - m := by rw [← HLL.out, List.length_drop, List.length_set, hlen]; omega
        have h := run_convert_bytes_back (P := Tryd.prog) w2 73 9 5 ⟨w.heap.size, m - 1, none⟩ (66 - m) (hexL x) Tryd.underlying73 Tryd.underlying5 Tryd.underlying9 (fun j hj => by
          rw [Lib.add_plain]
          have q := blk_cell K2.out (m - 1 + j)
          have hj2 : j < ((L.set (m - 1) (hd u)).drop (m - 1)).length := by rw [HLL.out]; exact hj
          rw [List.length_drop] at hj2
          rw [q, List.getElem?_toArray, List.getElem?_map, List.getElem?_eq_getElem (by omega), Option.map_some]
          have e := HLL.out
          have e2 : (hexL x)[j] = ((L.set (m - 1) (hd u)).drop (m - 1))[j]'(by rw [List.length_drop]; exact hj2) := by simp only [e]
          rw [e2, List.getElem_drop]
          rfl)
        rw [hl] at h
        exact h
      clear hal
      go_wp2
      go_ret2
      exact ⟨rfl, B2.out⟩
theorem formatUint_in (x : Nat) (hx : x < 65536) (w : World) (h : Env2 w) :
    Calls Tryd.prog 68 #[.int .u64 x, .int .i64 16] w fun e w' => e = .returned (.string (hexB x)) ∧ Below w.heap.size w w' := by
  have HE := Lib.hid h
  clear h
  go_enter Tryd.func68, Tryd.ntmps68
  go_wp2_with (go_at_call 84; refine (formatBits_is x hx w HE.out).mono ?_; rintro e w1 ⟨rfl, b1⟩)
  go_ret
  exact ⟨rfl, b1⟩
/-- strconv.FormatUint at base 16. -/
theorem formatUint_is (x : Nat) (hx : x < 65536) (w : World) (h : Env2 w) :
    Calls Tryd.prog 56 #[.int .u64 x, .int .i64 16] w fun e w' => e = .returned (.string (hexB x)) ∧ Below w.heap.size w w' := by
  have HE := Lib.hid h
  clear h
  go_enter Tryd.func56, Tryd.ntmps56
  go_wp2_with (go_at_call 68; refine (formatUint_in x hx w HE.out).mono ?_; rintro e w1 ⟨rfl, b1⟩)
  go_ret
  exact ⟨rfl, b1⟩
end Go.Proofs.YtjhlgfafjjmooaaDoor.Dot
