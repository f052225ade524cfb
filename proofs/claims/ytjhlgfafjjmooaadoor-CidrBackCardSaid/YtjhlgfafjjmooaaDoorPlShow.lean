/- Cidr: how the code writes a prefix and how the document does are one. Plain. -/
import Derived.Test.YtjhlgfafjjmooaaDoorPlRead
import Derived.Test.YtjhlgfafjjmooaaDoorShow
namespace Go.Proofs.YtjhlgfafjjmooaaDoor.Dot
open Go.RowKit Go.Proofs.YtjhlgfafjjmooaaDoor.PCidrTells Go.Proofs.YtjhlgfafjjmooaaDoorW.PrintWords Go.Proofs.YtjhlgfafjjmooaaDoorW.PrintLast Go.Proofs.YtjhlgfafjjmooaaDoorW.PrintMore

theorem dec_key : (List.range 256).all (fun n => match flocculusref1_Dec.f 4 (n : Int) with | some x => x.data.toList == Lib.itoa (n : Int) | none => false) = true := by kernel_rfl
theorem dec_up (n : Int) (r : ByteArray) : ∀ d, flocculusref1_Dec.f 4 n = some r → flocculusref1_Dec.f (4 + d) n = some r
  | 0, h => h
  | d + 1, h => flocculusref1_Dec.mono n (4 + d) r (dec_up n r d h)
theorem dec_is (k n : Nat) (hn : n < 256) (hk : 4 ≤ k) : flocculusref1_Dec.f k (n : Int) = some (txt (n : Int)) := by
  have h := List.all_eq_true.mp dec_key n (List.mem_range.mpr hn)
  cases hd : flocculusref1_Dec.f 4 (n : Int) with
  | none => rw [hd] at h; cases h
  | some x =>
    rw [hd] at h
    have hx : x = txt (n : Int) := by
      have h2 : x.data.toList = Lib.itoa (n : Int) := by simpa using h
      rw [← ba_of x, h2]; rfl
    have := dec_up _ _ (k - 4) hd
    rw [show 4 + (k - 4) = k by omega, hx] at this
    exact this
theorem byte_of (x i : Nat) (hx : x < 18446744073709551616) (hi : i < 4) : wrap64 (bits .and .u64 (shr .u64 (x : Int) (IntKind.u64.wrap (wrap64 (56 - (wrap64 (8 * (i : Int))))))) 255) = byteP x i ∧ byteP x i = ((x / 2 ^ (56 - 8 * i) % 256 : Nat) : Int) := by
  have e : (56 - wrap64 (8 * (i : Int))) = ((56 - 8 * i : Nat) : Int) := by rw [wrap64_of (by omega) (by omega)]; omega
  have e1 : IntKind.u64.wrap (wrap64 (((56 - 8 * i : Nat) : Int))) = ((56 - 8 * i : Nat) : Int) := by rw [wrap64_of (by omega) (by omega), u64_small (by omega) (by omega)]
  have e2 : shr .u64 (x : Int) ((56 - 8 * i : Nat) : Int) = ((x / 2 ^ (56 - 8 * i) : Nat) : Int) := by
    unfold shr
    have : min (((56 - 8 * i : Nat) : Int)).toNat IntKind.u64.bits = 56 - 8 * i := by simp [IntKind.bits]; omega
    rw [this]
    simp [Int.natCast_ediv, Int.natCast_pow]
  have h2 : x / 2 ^ (56 - 8 * i) < 18446744073709551616 := Nat.lt_of_le_of_lt (Nat.div_le_self _ _) hx
  have e3 : byteP x i = ((x / 2 ^ (56 - 8 * i) % 256 : Nat) : Int) := by
    unfold byteP
    simp [Int.natCast_ediv, Int.natCast_pow]
  refine ⟨?_, e3⟩
  rw [e, e1, e2, show (255 : Int) = ((255 : Nat) : Int) from rfl, u64_and_nat _ _ h2 (by decide), e3, show (255 : Nat) = 2 ^ 8 - 1 from rfl, Nat.and_two_pow_sub_one_eq_mod, wrap64_of (by omega) (by omega)]
theorem txt_size (n : Nat) (h : n < 256) : (txt (n : Int)).size ≤ 3 := by
  unfold txt
  rw [ba_size]
  exact itoa_byte (by omega) (by omega)
theorem shift_nonneg (i : Nat) : 0 ≤ IntKind.u64.wrap (wrap64 (56 - wrap64 (8 * (i : Int)))) := by rw [IntKind.wrap_u64]; omega
theorem byte_txt (x i : Nat) (hx : x < 18446744073709551616) (hi : i < 4) (k : Nat) (hk : 4 ≤ k) : flocculusref1_Dec.f k (byteP x i) = some (txt (byteP x i)) ∧ (txt (byteP x i)).size ≤ 3 := by
  rw [(byte_of x i hx hi).2]
  have h : x / 2 ^ (56 - 8 * i) % 256 < 256 := Nat.mod_lt _ (by decide)
  generalize x / 2 ^ (56 - 8 * i) % 256 = m at h ⊢
  exact ⟨dec_is k m h hk, txt_size m h⟩
theorem show_step (k x i : Nat) (lo n : Int) (s : ByteArray) (hx : x < 18446744073709551616) (hi : i < 4) (hk : 4 ≤ k) (hs : s.size < 1000) :
    flocculusref1_ShowDots.l0 (k + 1) s i x lo n = flocculusref1_ShowDots.l0 k ((if 0 < i then s ++ dotB else s) ++ txt (byteP x i)) ((i + 1 : Nat) : Int) x lo n := by
  have hw : wrap64 ((i : Int) + 1) = ((i + 1 : Nat) : Int) := by rw [wrap64_of (by omega) (by omega)]; omega
  have h4 : (i : Int) < 4 := by omega
  have h1 : (s ++ dotB).size = s.size + 1 := by rw [ByteArray.size_append]; rfl
  obtain ⟨hd, ht⟩ := byte_txt x i hx hi k hk
  have g1 : s.size + 1 ≤ 9223372036854775807 := by omega
  have g2 : (s ++ dotB).size + (txt (byteP x i)).size ≤ 9223372036854775807 := by omega
  have g3 : s.size + (txt (byteP x i)).size ≤ 9223372036854775807 := by omega
  simp only [flocculusref1_ShowDots.l0]
  rw [if_pos h4, (byte_of x i hx hi).1, hd, hw]
  by_cases h0 : 0 < i
  · have h0' : (i : Int) > 0 := by omega
    rw [if_pos h0', if_pos g1, if_pos (shift_nonneg i), Option.bind_some, if_pos h0, show (⟨#[46]⟩ : ByteArray) = dotB from rfl, if_pos g2]
  · have h0' : ¬ (i : Int) > 0 := by omega
    rw [if_neg h0', if_pos (shift_nonneg i), Option.bind_some, if_neg h0, if_pos g3]
theorem show_end (k : Nat) (x lo : Int) (n : Nat) (s : ByteArray) (hn : n < 256) (hk : 4 ≤ k) (hs : s.size < 1000) :
    flocculusref1_ShowDots.l0 (k + 1) s ((4 : Nat) : Int) x lo (n : Int) = some (s ++ slashB ++ txt (n : Int)) := by
  have ht := txt_size n hn
  have h1 : (s ++ slashB).size = s.size + 1 := by rw [ByteArray.size_append]; rfl
  simp only [flocculusref1_ShowDots.l0]
  rw [if_neg (by omega), if_pos (by omega), dec_is k n hn hk, Option.bind_some, if_pos (by rw [show (⟨#[47]⟩ : ByteArray) = slashB from rfl, h1]; omega)]
  rfl
theorem cat_list (a b : ByteArray) : (a ++ b).data.toList = a.data.toList ++ b.data.toList := by simp [ByteArray.data_append]
theorem ba_ext {a b : ByteArray} (h : a.data.toList = b.data.toList) : a = b := by rw [← ba_of a, h, ba_of]
theorem show_same (k hi lo : Nat) (n : Int) (b : Bool) (hh : hi < 18446744073709551616) (hl : lo < 18446744073709551616) (hk : 200 ≤ k) (hb : addr_Right.f hi lo n = some b) :
    flocculusref1_ShowDots.f k hi lo n = some (if (b && decide (n ≤ 32)) = true then showB hi n else ByteArray.empty) := by
  unfold flocculusref1_ShowDots.f
  rw [right_same k hi lo n hh hl (by omega), hb, Option.bind_some]
  obtain ⟨k, rfl⟩ : ∃ j, k = j + 6 := ⟨k - 6, by omega⟩
  cases b with
  | false => rfl
  | true =>
    rw [if_pos rfl]
    simp only [flocculusref1_ShowDots.j0]
    by_cases h32 : n ≤ 32
    · have h0 := right_le hb
      obtain ⟨m, rfl⟩ := Int.eq_ofNat_of_zero_le h0
      rw [decide_eq_false (show ¬ (m : Int) > 32 by omega), if_neg Bool.false_ne_true, decide_eq_true h32, Bool.and_true, if_pos rfl]
      have t0 := (byte_txt hi 0 hh (by omega) 4 (by omega)).2
      have t1 := (byte_txt hi 1 hh (by omega) 4 (by omega)).2
      have t2 := (byte_txt hi 2 hh (by omega) 4 (by omega)).2
      have t3 := (byte_txt hi 3 hh (by omega) 4 (by omega)).2
      have d1 : dotB.size = 1 := rfl
      have z0 : (⟨#[]⟩ : ByteArray).size = 0 := rfl
      have s0 := show_step (k + 4) hi 0 lo m ⟨#[]⟩ hh (by omega) (by omega) (by omega)
      rw [if_neg (by omega)] at s0
      have s1 := show_step (k + 3) hi 1 lo m (⟨#[]⟩ ++ txt (byteP hi 0)) hh (by omega) (by omega) (by rw [ByteArray.size_append]; omega)
      rw [if_pos (by omega)] at s1
      have s2 := show_step (k + 2) hi 2 lo m (⟨#[]⟩ ++ txt (byteP hi 0) ++ dotB ++ txt (byteP hi 1)) hh (by omega) (by omega) (by simp only [ByteArray.size_append]; omega)
      rw [if_pos (by omega)] at s2
      have s3 := show_step (k + 1) hi 3 lo m (⟨#[]⟩ ++ txt (byteP hi 0) ++ dotB ++ txt (byteP hi 1) ++ dotB ++ txt (byteP hi 2)) hh (by omega) (by omega) (by simp only [ByteArray.size_append]; omega)
      rw [if_pos (by omega)] at s3
      have s4 := show_end k hi lo m (⟨#[]⟩ ++ txt (byteP hi 0) ++ dotB ++ txt (byteP hi 1) ++ dotB ++ txt (byteP hi 2) ++ dotB ++ txt (byteP hi 3)) (by omega) (by omega) (by simp only [ByteArray.size_append]; omega)
      rw [show ((0 : Nat) : Int) = 0 from rfl] at s0
      rw [s0, s1, s2, s3, s4]
      refine congrArg some (ba_ext ?_)
      unfold showB
      simp only [cat_list]
      simp [Lib.join, List.intercalate, List.intersperse, dotB]
    · rw [decide_eq_true (show n > 32 by omega), decide_eq_false h32]
      rfl
theorem wf_u64 {x : Int} (h : (Lit.int .u64 x).wf = true) : 0 ≤ x ∧ x < 18446744073709551616 := by simp [Lit.wf, IntKind.min, IntKind.max, IntKind.signed, IntKind.bits] at h; omega
theorem wf_i64 {x : Int} (h : (Lit.int .i64 x).wf = true) : -9223372036854775808 ≤ x ∧ x ≤ 9223372036854775807 := by simp [Lit.wf, IntKind.min, IntKind.max, IntKind.signed, IntKind.bits] at h; omega
end Go.Proofs.YtjhlgfafjjmooaaDoor.Dot
