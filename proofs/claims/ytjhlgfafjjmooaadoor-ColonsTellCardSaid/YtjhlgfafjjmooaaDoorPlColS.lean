/- The eight numbers of an address: the document's. Plain. Colons: how the code writes a prefix and how the document does are one. Plain. -/
import Derived.Test.YtjhlgfafjjmooaaDoorPlWords
import Derived.Test.YtjhlgfafjjmooaaDoorRefCols2
import Derived.Test.YtjhlgfafjjmooaaDoorCalive
import Derived.Test.YtjhlgfafjjmooaaDoorPlDec
import Derived.Test.YtjhlgfafjjmooaaDoorPlJoin
namespace Go.Proofs.YtjhlgfafjjmooaaDoor.Dot
open Go.RowKit Go.Proofs.YtjhlgfafjjmooaaDoor.PCidrTells Go.Proofs.YtjhlgfafjjmooaaDoorW.PrintWords Go.Proofs.YtjhlgfafjjmooaaDoorW.PrintLast Go.Proofs.YtjhlgfafjjmooaaDoorW.PrintMore

theorem word_ref (x i : Nat) (hx : x < 18446744073709551616) (hi : i < 4) : wrap64 (bits .and .u64 (shr .u64 (x : Int) (IntKind.u64.wrap (wrap64 (48 - (wrap64 (16 * (i : Int))))))) 65535) = (wordN x i : Int) := by
  have e : wrap64 (48 - wrap64 (16 * (i : Int))) = ((48 - 16 * i : Nat) : Int) := by rw [wrap64_of (n := 16 * (i : Int)) (by omega) (by omega), wrap64_of (by omega) (by omega)]; omega
  rw [e, u64_small (by omega) (by omega)]
  have e2 : shr .u64 (x : Int) ((48 - 16 * i : Nat) : Int) = ((x / 2 ^ (48 - 16 * i) : Nat) : Int) := by
    unfold shr
    have : min (((48 - 16 * i : Nat) : Int)).toNat IntKind.u64.bits = 48 - 16 * i := by simp [IntKind.bits]; omega
    rw [this]
    simp [Int.natCast_ediv, Int.natCast_pow]
  have h2 : x / 2 ^ (48 - 16 * i) < 18446744073709551616 := Nat.lt_of_le_of_lt (Nat.div_le_self _ _) hx
  have h3 : wordN x i < 65536 := Nat.mod_lt _ (by decide)
  rw [e2, show (65535 : Int) = ((65535 : Nat) : Int) from rfl, u64_and_nat _ _ h2 (by decide), show (65535 : Nat) = 2 ^ 16 - 1 from rfl, Nat.and_two_pow_sub_one_eq_mod]
  show wrap64 ((wordN x i : Nat) : Int) = _
  rw [wrap64_of (by omega) (by omega)]
theorem ref_words_h (k : Nat) (xs : List Int) (i hi : Nat) (lo : Int) (hh : hi < 18446744073709551616) (h4 : i < 4) (hl : xs.length < 1000) :
    flocculusref1_words.l0 (k + 1) xs i hi lo = flocculusref1_words.l0 k (xs ++ [(wordN hi i : Int)]) ((i + 1 : Nat) : Int) hi lo := by
  have e0 : wrap64 ((i : Int) + 1) = ((i + 1 : Nat) : Int) := by rw [wrap64_of (by omega) (by omega)]; omega
  have h0 : 0 ≤ IntKind.u64.wrap (wrap64 (48 - (wrap64 (16 * (i : Int))))) := by rw [IntKind.wrap_u64]; omega
  simp only [flocculusref1_words.l0]
  rw [if_pos (by omega), if_pos h0, if_pos (by omega), word_ref hi i hh h4, e0]
theorem ref_words_l (k : Nat) (xs : List Int) (i lo : Nat) (hi : Int) (hl' : lo < 18446744073709551616) (h4 : i < 4) (hl : xs.length < 1000) :
    flocculusref1_words.l1 (k + 1) xs i hi lo = flocculusref1_words.l1 k (xs ++ [(wordN lo i : Int)]) ((i + 1 : Nat) : Int) hi lo := by
  have e0 : wrap64 ((i : Int) + 1) = ((i + 1 : Nat) : Int) := by rw [wrap64_of (by omega) (by omega)]; omega
  have h0 : 0 ≤ IntKind.u64.wrap (wrap64 (48 - (wrap64 (16 * (i : Int))))) := by rw [IntKind.wrap_u64]; omega
  simp only [flocculusref1_words.l1]
  rw [if_pos (by omega), if_pos h0, if_pos (by omega), word_ref lo i hl' h4, e0]
theorem ref_words_is (hi lo k : Nat) (hh : hi < 18446744073709551616) (hl : lo < 18446744073709551616) (hk : 20 ≤ k) : flocculusref1_words.f k hi lo = some (ints (wordsN hi lo)) := by
  obtain ⟨k, rfl⟩ : ∃ j, k = j + 10 := ⟨k - 10, by omega⟩
  unfold flocculusref1_words.f
  rw [show (0 : Int) = ((0 : Nat) : Int) from rfl, ref_words_h (k + 9) _ 0 hi lo hh (by decide) (by simp), ref_words_h (k + 8) _ 1 hi lo hh (by decide) (by simp), ref_words_h (k + 7) _ 2 hi lo hh (by decide) (by simp), ref_words_h (k + 6) _ 3 hi lo hh (by decide) (by simp)]
  simp only [flocculusref1_words.l0]
  rw [if_neg (by omega)]
  rw [show (0 : Int) = ((0 : Nat) : Int) from rfl, ref_words_l (k + 4) _ 0 lo hi hl (by decide) (by simp), ref_words_l (k + 3) _ 1 lo hi hl (by decide) (by simp), ref_words_l (k + 2) _ 2 lo hi hl (by decide) (by simp), ref_words_l (k + 1) _ 3 lo hi hl (by decide) (by simp)]
  simp only [flocculusref1_words.l1]
  rw [if_neg (by omega)]
  rfl


def hexS : ByteArray := ⟨#[48, 49, 50, 51, 52, 53, 54, 55, 56, 57, 97, 98, 99, 100, 101, 102]⟩
theorem hexS_key : (List.range 16).all (fun c => (hexS.extract c (c + 1)).data.toList == [hd c]) = true := by kernel_rfl
theorem hexS_at (c : Nat) (h : c < 16) : hexS.extract c (c + 1) = ba [hd c] := by
  have := List.all_eq_true.mp hexS_key c (List.mem_range.mpr h)
  exact ba_ext (by simpa [ba_data] using this)
theorem hex_small (k v : Nat) (h : v < 16) : flocculusref1_hex.f (k + 1) (v : Int) = some (ba [hd v]) := by
  have e1 : Int.tmod (v : Int) 16 = (v : Int) := by rw [Int.tmod_eq_emod_of_nonneg (by omega)]; omega
  have e2 : wrap64 ((v : Int) + 1) = ((v + 1 : Nat) : Int) := by rw [wrap64_of (by omega) (by omega)]; omega
  have e3 := hexS_at v h
  unfold hexS at e3
  simp only [flocculusref1_hex.f]
  rw [e1, e2, if_pos (by omega), if_pos (by omega), if_pos (by omega), if_neg (by omega), Int.toNat_natCast, Int.toNat_natCast, e3]
theorem hex_great (k v : Nat) (h : ¬ v < 16) (hv : v < 65536) (t : ByteArray) (ht : flocculusref1_hex.f k ((v / 16 : Nat) : Int) = some t) (htl : t.size < 100) : flocculusref1_hex.f (k + 1) (v : Int) = some (t ++ ba [hd (v % 16)]) := by
  have e1 : Int.tmod (v : Int) 16 = ((v % 16 : Nat) : Int) := by rw [Int.tmod_eq_emod_of_nonneg (by omega)]; omega
  have e2 : wrap64 (((v % 16 : Nat) : Int) + 1) = ((v % 16 + 1 : Nat) : Int) := by rw [wrap64_of (by omega) (by omega)]; omega
  have e4 : wrap64 (Int.tdiv (v : Int) 16) = ((v / 16 : Nat) : Int) := by rw [Int.tdiv_eq_ediv_of_nonneg (by omega), wrap64_of (by omega) (by omega)]; omega
  have e3 := hexS_at (v % 16) (by omega)
  have hz : (ba [hd (v % 16)]).size = 1 := rfl
  unfold hexS at e3
  simp only [flocculusref1_hex.f]
  rw [e1, e2, e4, if_pos (by omega), if_pos (by omega), if_pos (by omega), if_pos (by omega), ht, Option.bind_some, Int.toNat_natCast, Int.toNat_natCast, e3, if_pos (by omega)]
theorem hex_l : ∀ (j v k : Nat), j < 60 → v < 16 ^ (j + 1) → v < 65536 → j + 1 ≤ k → flocculusref1_hex.f k (v : Int) = some (ba (hexF j v)) := by
  intro j
  induction j with
  | zero =>
    intro v k _ hv _ hk
    obtain ⟨k, rfl⟩ : ∃ m, k = m + 1 := ⟨k - 1, by omega⟩
    have h16 : v < 16 := by simpa using hv
    rw [hex_small k v h16, hexF_small _ _ h16]
  | succ j ih =>
    intro v k hj hv h6 hk
    obtain ⟨k, rfl⟩ : ∃ m, k = m + 1 := ⟨k - 1, by omega⟩
    by_cases h16 : v < 16
    · rw [hex_small k v h16, hexF_small _ _ h16]
    · have hd16 : v / 16 < 16 ^ (j + 1) := Nat.div_lt_of_lt_mul (by rw [Nat.mul_comm]; rw [Nat.pow_succ] at hv; exact hv)
      have hl := hexF_len j (v / 16)
      rw [hex_great k v h16 h6 _ (ih (v / 16) k (by omega) hd16 (by omega) (by omega)) (by unfold ba; rw [ba_size]; omega), hexF_great _ _ h16]
      exact congrArg some (ba_ext (by rw [cat_list]; rfl))
theorem hex_is (v k : Nat) (hv : v < 65536) (hk : 4 ≤ k) : flocculusref1_hex.f k (v : Int) = some (hexB v) := hex_l 3 v k (by omega) (by simpa using hv) hv (by omega)

/-! ### The document's loop -/
theorem last_byte (s : ByteArray) (c : UInt8) (h : s.data.toList.getLast? = some c) : 0 < s.size ∧ bt s ((s.size - 1 : Nat) : Int) = (c.toNat : Int) := by
  have hne : s.data.toList ≠ [] := fun e => by rw [e] at h; cases h
  have hl := data_len s
  have hpos : 0 < s.size := by
    have := List.length_pos_iff.mpr hne
    omega
  refine ⟨hpos, ?_⟩
  rw [bt_list s (s.size - 1) (by omega)]
  rw [List.getLast?_eq_getElem?, hl, List.getElem?_eq_getElem (by rw [hl]; omega)] at h
  rw [Option.some.inj h]
theorem step_new (k : Nat) (ws : List Nat) (hw : ws.length = 8) (hlt : ∀ v ∈ ws, v < 65536) (at_ most hi lo n : Int) (s : ByteArray) (i : Nat) (h8 : i < 8) (hat : (i : Int) ≠ at_) (hs : s.size < 1000) (hk : 4 ≤ k)
    (hf : s.data.toList = [] ∨ s.data.toList.getLast? = some 58) :
    flocculusref1_ShowColons.l2 (k + 1) (ints ws) at_ most s i hi lo n = flocculusref1_ShowColons.l2 k (ints ws) at_ most (s ++ hexB (ws[i]'(by omega))) ((i + 1 : Nat) : Int) hi lo n := by
  have hwi : wrap64 ((i : Int) + 1) = ((i + 1 : Nat) : Int) := by rw [wrap64_of (by omega) (by omega)]; omega
  have hx := hex_is (ws[i]'(by omega)) k (hlt _ (List.getElem_mem _)) hk
  have hz : (hexB (ws[i]'(by omega))).size ≤ 4 := by unfold hexB; rw [ba_size]; exact hexL_len _
  simp only [flocculusref1_ShowColons.l2]
  rw [if_pos (by omega), if_neg hat, Lib.toList_data]
  by_cases h0 : s.data.toList = []
  · rw [if_pos h0, if_pos (by omega), if_pos (by rw [ints_len]; omega), rd_ints ws i (by omega), hx, Option.bind_some, if_pos (by omega), hwi]
  · obtain ⟨hp, hb⟩ := last_byte s 58 (hf.resolve_left h0)
    have hw1 : wrap64 ((s.size : Int) - 1) = ((s.size - 1 : Nat) : Int) := by rw [wrap64_of (by omega) (by omega)]; omega
    rw [if_neg h0, hw1, if_pos (by omega), if_pos (by omega), hb, if_pos (show (((58 : UInt8).toNat : Nat) : Int) = 58 from rfl), if_pos (by omega), if_pos (by rw [ints_len]; omega), rd_ints ws i (by omega), hx, Option.bind_some, if_pos (by omega), hwi]
theorem step_more (k : Nat) (ws : List Nat) (hw : ws.length = 8) (hlt : ∀ v ∈ ws, v < 65536) (at_ most hi lo n : Int) (s : ByteArray) (i : Nat) (h8 : i < 8) (hat : (i : Int) ≠ at_) (hs : s.size < 1000) (hk : 4 ≤ k)
    (c : UInt8) (hc : s.data.toList.getLast? = some c) (hn : c ≠ 58) :
    flocculusref1_ShowColons.l2 (k + 1) (ints ws) at_ most s i hi lo n = flocculusref1_ShowColons.l2 k (ints ws) at_ most ((s ++ ⟨#[58]⟩) ++ hexB (ws[i]'(by omega))) ((i + 1 : Nat) : Int) hi lo n := by
  have hwi : wrap64 ((i : Int) + 1) = ((i + 1 : Nat) : Int) := by rw [wrap64_of (by omega) (by omega)]; omega
  have hx := hex_is (ws[i]'(by omega)) k (hlt _ (List.getElem_mem _)) hk
  have hz : (hexB (ws[i]'(by omega))).size ≤ 4 := by unfold hexB; rw [ba_size]; exact hexL_len _
  have h1 : (s ++ (⟨#[58]⟩ : ByteArray)).size = s.size + 1 := by rw [ByteArray.size_append]; rfl
  have h0 : s.data.toList ≠ [] := fun e => by rw [e] at hc; cases hc
  obtain ⟨hp, hb⟩ := last_byte s c hc
  have hw1 : wrap64 ((s.size : Int) - 1) = ((s.size - 1 : Nat) : Int) := by rw [wrap64_of (by omega) (by omega)]; omega
  have hcn : ¬ ((c.toNat : Int) = 58) := fun e => hn (UInt8.toNat_inj.mp (by have h58 : (58 : UInt8).toNat = 58 := rfl; omega))
  simp only [flocculusref1_ShowColons.l2]
  rw [if_pos (by omega), if_neg hat, Lib.toList_data, if_neg h0, hw1, if_pos (by omega), if_pos (by omega), hb, if_neg hcn, if_pos (by omega), if_pos (by omega), if_pos (by rw [ints_len]; omega), rd_ints ws i (by omega), hx, Option.bind_some, if_pos (by omega), hwi]
theorem step_gap (k : Nat) (ws : List Nat) (m : Nat) (hi lo n : Int) (s : ByteArray) (i : Nat) (h8 : i + m ≤ 8) (hm : 1 ≤ m) (hs : s.size < 1000) :
    flocculusref1_ShowColons.l2 (k + 1) (ints ws) i m s i hi lo n = flocculusref1_ShowColons.l2 k (ints ws) i m (s ++ ⟨#[58, 58]⟩) ((i + m : Nat) : Int) hi lo n := by
  have hw : wrap64 ((wrap64 ((wrap64 ((i : Int) + (m : Int))) - 1)) + 1) = ((i + m : Nat) : Int) := by
    rw [wrap64_of (n := (i : Int) + (m : Int)) (by omega) (by omega), wrap64_of (n := (i : Int) + (m : Int) - 1) (by omega) (by omega), wrap64_of (by omega) (by omega)]; omega
  simp only [flocculusref1_ShowColons.l2]
  rw [if_pos (by omega), if_pos trivial, if_pos (by omega), hw]
theorem step_fin (k : Nat) (ws : List Nat) (at_ most hi lo : Int) (n : Nat) (s : ByteArray) (hs : s.size < 1000) (hn : n < 256) (hk : 4 ≤ k) :
    flocculusref1_ShowColons.l2 (k + 1) (ints ws) at_ most s ((8 : Nat) : Int) hi lo (n : Int) = some (s ++ ⟨#[47]⟩ ++ txt (n : Int)) := by
  have hz := txt_size n hn
  have h1 : (s ++ (⟨#[47]⟩ : ByteArray)).size = s.size + 1 := by rw [ByteArray.size_append]; rfl
  simp only [flocculusref1_ShowColons.l2]
  rw [if_neg (by omega), if_pos (by omega), dec_is k n hn hk, Option.bind_some, if_pos (by omega)]
theorem run_l2 (ws : List Nat) (hw : ws.length = 8) (hlt : ∀ v ∈ ws, v < 65536) (at_ most hi lo n : Int) (P : List UInt8) (st e : Nat) (he : e ≤ 8) (hP : P = [] ∨ P.getLast? = some 58) (hPl : P.length < 500) :
    ∀ d i k, i + d = e → st ≤ i → (∀ j : Nat, i ≤ j → j < e → (j : Int) ≠ at_) → 4 ≤ k →
    flocculusref1_ShowColons.l2 (k + d) (ints ws) at_ most (ba (P ++ joinL ((ws.drop st).take (i - st)))) i hi lo n = flocculusref1_ShowColons.l2 k (ints ws) at_ most (ba (P ++ joinL ((ws.drop st).take (e - st)))) e hi lo n := by
  intro d
  induction d with
  | zero =>
    intro i k hi' hst hat hk
    obtain rfl : i = e := by omega
    rfl
  | succ d ih =>
    intro i k hi' hst hat hk
    have hne := hat i (Nat.le_refl _) (by omega)
    have IH := ih (i + 1) k (by omega) (by omega) (fun j h1 h2 => hat j (by omega) h2) hk
    have hil : i - st < (ws.drop st).length := by rw [List.length_drop]; omega
    have htk : (ws.drop st).take (i + 1 - st) = (ws.drop st).take (i - st) ++ [ws[i]'(by omega)] := by
      rw [show i + 1 - st = (i - st) + 1 by omega, List.take_succ_eq_append_getElem hil, List.getElem_drop]
      simp [show st + (i - st) = i by omega]
    have hsz : (ba (P ++ joinL ((ws.drop st).take (i - st)))).size < 1000 := by
      unfold ba
      rw [ba_size, List.length_append]
      have h1 := joinL_len ((ws.drop st).take (i - st))
      have h2 : ((ws.drop st).take (i - st)).length ≤ 8 := by rw [List.length_take, List.length_drop]; omega
      omega
    rw [show k + (d + 1) = (k + d) + 1 by omega]
    by_cases h0 : i = st
    · subst h0
      have hj : joinL ((ws.drop i).take (i - i)) = [] := by rw [Nat.sub_self, List.take_zero]; rfl
      rw [hj, List.append_nil] at hsz ⊢
      rw [step_new (k + d) ws hw hlt at_ most hi lo n (ba P) i (by omega) hne hsz (by omega) (by rw [ba_data]; exact hP)]
      rw [htk, Nat.sub_self, List.take_zero, List.nil_append, joinL_one] at IH
      rw [show ba P ++ hexB (ws[i]'(by omega)) = ba (P ++ hexL (ws[i]'(by omega))) from ba_ext (by rw [cat_list]; rfl)]
      exact IH
    · have hnn : (ws.drop st).take (i - st) ≠ [] := by
        intro e0
        have := congrArg List.length e0
        rw [List.length_take, List.length_drop, List.length_nil] at this
        omega
      obtain ⟨c, hc, hcn⟩ := joinL_last _ hnn
      rw [step_more (k + d) ws hw hlt at_ most hi lo n _ i (by omega) hne hsz (by omega) c (by rw [ba_data]; exact last_app _ _ c hc) hcn]
      rw [htk, joinL_snoc _ _ hnn] at IH
      rw [show (ba (P ++ joinL ((ws.drop st).take (i - st))) ++ ⟨#[58]⟩) ++ hexB (ws[i]'(by omega)) = ba (P ++ (joinL ((ws.drop st).take (i - st)) ++ 58 :: hexL (ws[i]'(by omega)))) from ba_ext (by rw [cat_list, cat_list, ba_data, ba_data]; simp [hexB])]
      exact IH

/-! ### The document's longest row of zeros -/
def encA (f t : Nat) : Int := if 1 < t - f then (f : Int) else -1
def encM (f t : Nat) : Int := if 1 < t - f then ((t - f : Nat) : Int) else 1
theorem ref_l1 (ws : List Nat) (hw : ws.length = 8) (at_ : Int) (most : Int) (_ : 0 ≤ most ∧ most ≤ 8) (i : Nat) (hi : i < 8) (h0 l0 nn : Int) : ∀ (d m k : Nat), i + m + d = 8 →
    flocculusref1_ShowColons.l1 (k + runZ (ws.drop (i + m)) + 1) (ints ws) at_ most i m h0 l0 nn = if most < ((m + runZ (ws.drop (i + m)) : Nat) : Int) then flocculusref1_ShowColons.l0 k (ints ws) i ((m + runZ (ws.drop (i + m)) : Nat) : Int) ((i + 1 : Nat) : Int) h0 l0 nn else flocculusref1_ShowColons.l0 k (ints ws) at_ most ((i + 1 : Nat) : Int) h0 l0 nn := by
  have hwi : wrap64 ((i : Int) + 1) = ((i + 1 : Nat) : Int) := by rw [wrap64_of (by omega) (by omega)]; omega
  have close : ∀ (m k : Nat), (if (m : Int) > most then flocculusref1_ShowColons.l0 k (ints ws) i m (wrap64 ((i : Int) + 1)) h0 l0 nn else flocculusref1_ShowColons.l0 k (ints ws) at_ most (wrap64 ((i : Int) + 1)) h0 l0 nn) = if most < (m : Int) then flocculusref1_ShowColons.l0 k (ints ws) i (m : Int) ((i + 1 : Nat) : Int) h0 l0 nn else flocculusref1_ShowColons.l0 k (ints ws) at_ most ((i + 1 : Nat) : Int) h0 l0 nn := by
    intro m k
    rw [hwi]
  intro d
  induction d with
  | zero =>
    intro m k hd
    have hwm : wrap64 ((i : Int) + (m : Int)) = ((i + m : Nat) : Int) := by rw [wrap64_of (by omega) (by omega)]; omega
    rw [List.drop_eq_nil_of_le (by omega)]
    simp only [runZ, Nat.add_zero, flocculusref1_ShowColons.l1]
    rw [hwm, if_neg (by omega)]
    exact close m k
  | succ d ih =>
    intro m k hd
    have hwm : wrap64 ((i : Int) + (m : Int)) = ((i + m : Nat) : Int) := by rw [wrap64_of (by omega) (by omega)]; omega
    have hwm1 : wrap64 ((m : Int) + 1) = ((m + 1 : Nat) : Int) := by rw [wrap64_of (by omega) (by omega)]; omega
    have hjl : i + m < ws.length := by omega
    have IH := ih (m + 1) k (by omega)
    have hr := rd_ints ws (i + m) hjl
    have hd2 := List.drop_eq_getElem_cons hjl
    generalize hq : runZ (ws.drop (i + m)) = q
    rw [hd2] at hq
    simp only [runZ] at hq
    by_cases h0' : ws[i + m] = 0
    · rw [if_pos h0'] at hq
      subst hq
      simp only [flocculusref1_ShowColons.l1]
      rw [hwm, if_pos (by omega), if_pos (by omega), if_pos (by rw [ints_len]; omega), hr, if_pos (by omega), hwm1]
      have e1 : m + 1 + runZ (ws.drop (i + m + 1)) = m + (runZ (ws.drop (i + m + 1)) + 1) := by omega
      rw [show i + (m + 1) = i + m + 1 by omega] at IH
      simp only [e1] at IH
      exact IH
    · rw [if_neg h0'] at hq
      subst hq
      simp only [Nat.add_zero, flocculusref1_ShowColons.l1]
      rw [hwm, if_pos (by omega), if_pos (by omega), if_pos (by rw [ints_len]; omega), hr, if_neg (by omega)]
      exact close m k
theorem ref_l0 (ws : List Nat) (hw : ws.length = 8) (h0 l0 nn : Int) (R : Option ByteArray) : ∀ (d i k f t : Nat), i + d = 8 → 10 * d + 60 ≤ k → f ≤ t → t ≤ 8 →
    (∀ k, 50 ≤ k → flocculusref1_ShowColons.l2 k (ints ws) (encA (bestZ (ws.drop i) i f t).1 (bestZ (ws.drop i) i f t).2) (encM (bestZ (ws.drop i) i f t).1 (bestZ (ws.drop i) i f t).2) ⟨#[]⟩ 0 h0 l0 nn = R) →
    flocculusref1_ShowColons.l0 k (ints ws) (encA f t) (encM f t) i h0 l0 nn = R := by
  intro d
  induction d with
  | zero =>
    intro i k f t hi hk hft ht hR
    obtain ⟨k, rfl⟩ : ∃ j, k = j + 1 := ⟨k - 1, by omega⟩
    obtain rfl : i = 8 := by omega
    rw [List.drop_eq_nil_of_le (by omega)] at hR
    simp only [flocculusref1_ShowColons.l0]
    rw [if_neg (by omega)]
    exact hR k (by omega)
  | succ d ih =>
    intro i k f t hi hk hft ht hR
    have hil : i < ws.length := by omega
    have hr := runZ_le (ws.drop i)
    rw [List.length_drop] at hr
    obtain ⟨k, rfl⟩ : ∃ j, k = (j + runZ (ws.drop i) + 1) + 1 := ⟨k - runZ (ws.drop i) - 2, by omega⟩
    have hmm : 0 ≤ encM f t ∧ encM f t ≤ 8 := by unfold encM; split <;> omega
    have h1 := ref_l1 ws hw (encA f t) (encM f t) hmm i (by omega) h0 l0 nn (8 - i) 0 k (by omega)
    simp only [Nat.add_zero, Nat.zero_add] at h1
    rw [show ((0 : Nat) : Int) = 0 from rfl] at h1
    simp only [flocculusref1_ShowColons.l0]
    rw [if_pos (by omega), h1]
    have hb : bestZ (ws.drop i) i f t = if t - f < runZ (ws.drop i) then bestZ (ws.drop (i + 1)) (i + 1) i (i + runZ (ws.drop i)) else bestZ (ws.drop (i + 1)) (i + 1) f t := by
      rw [List.drop_eq_getElem_cons hil]
      rfl
    rw [hb] at hR
    generalize hrr : runZ (ws.drop i) = r at hr hR h1 ⊢
    by_cases hc : t - f < r
    · rw [if_pos hc] at hR
      have IH := ih (i + 1) k i (i + r) (by omega) (by omega) (by omega) (by omega) hR
      by_cases hr1 : 1 < r
      · have e1 : encA i (i + r) = (i : Int) := by unfold encA; rw [if_pos (by omega)]
        have e2 : encM i (i + r) = (r : Int) := by unfold encM; rw [if_pos (by omega)]; omega
        rw [e1, e2] at IH
        rw [if_pos (by unfold encM; split <;> omega)]
        exact IH
      · have e1 : encA i (i + r) = encA f t := by unfold encA; rw [if_neg (by omega), if_neg (by omega)]
        have e2 : encM i (i + r) = encM f t := by unfold encM; rw [if_neg (by omega), if_neg (by omega)]
        rw [e1, e2] at IH
        rw [if_neg (by unfold encM; split <;> omega)]
        exact IH
    · rw [if_neg hc] at hR
      have IH := ih (i + 1) k f t (by omega) (by omega) hft ht hR
      rw [if_neg (by unfold encM; split <;> omega)]
      exact IH
/-- The two showers are one. -/
theorem showC_same (k hi lo : Nat) (n : Int) (b : Bool) (hh : hi < 18446744073709551616) (hl : lo < 18446744073709551616) (hk : 300 ≤ k) (hb : addr_Right.f hi lo n = some b) :
    flocculusref1_ShowColons.f k hi lo n = some (if b = true then showCB hi lo n else ByteArray.empty) := by
  unfold flocculusref1_ShowColons.f
  rw [right_same k hi lo n hh hl (by omega), hb, Option.bind_some]
  cases b with
  | false => rfl
  | true =>
    rw [if_pos rfl, if_pos rfl, ref_words_is hi lo k hh hl (by omega), Option.bind_some]
    obtain ⟨n0, n1⟩ := right_bounds hb
    obtain ⟨m, rfl⟩ := Int.eq_ofNat_of_zero_le n0
    have hw : (wordsN hi lo).length = 8 := rfl
    have hlt := words_lt hi lo
    have hz := best_all (wordsN hi lo)
    unfold showCB
    have key := ref_l0 (wordsN hi lo) hw hi lo (m : Int) (some (showCT (wordsN hi lo) (bestZ (wordsN hi lo) 0 0 0).1 (bestZ (wordsN hi lo) 0 0 0).2 (m : Int))) 8 0 k 0 0 (by omega) (by omega) (by omega) (by omega)
    have eA : encA 0 0 = -1 := rfl
    have eM : encM 0 0 = 1 := rfl
    rw [eA, eM, show ((0 : Nat) : Int) = 0 from rfl] at key
    refine key ?_
    rw [List.drop_zero]
    generalize (bestZ (wordsN hi lo) 0 0 0).1 = f at hz ⊢
    generalize (bestZ (wordsN hi lo) 0 0 0).2 = t at hz ⊢
    generalize wordsN hi lo = ws at hw hlt hz ⊢
    obtain ⟨z1, z2, _⟩ := hz
    rw [hw] at z2
    clear key hb hh hl
    intro k hk
    have eE : (⟨#[]⟩ : ByteArray) = ba ([] ++ joinL ((ws.drop 0).take (0 - 0))) := rfl
    unfold showCT gapT encA encM
    by_cases hg : 1 < t - f
    · rw [if_pos hg, if_pos hg, if_pos hg]
      obtain ⟨k, rfl⟩ : ∃ j, k = (((j + 1) + (8 - t)) + 1) + f := ⟨k - 1 - (8 - t) - 1 - f, by omega⟩
      rw [eE, show (0 : Int) = ((0 : Nat) : Int) from rfl, run_l2 ws hw hlt (f : Int) ((t - f : Nat) : Int) hi lo m [] 0 f (by omega) (Or.inl rfl) (by simp) f 0 _ (by omega) (by omega) (fun j _ h2 => by omega) (by omega)]
      rw [List.nil_append, List.drop_zero, Nat.sub_zero]
      have hs1 : (ba (joinL (ws.take f))).size < 500 := by
        unfold ba; rw [ba_size]
        have h1 := joinL_len (ws.take f)
        have h2 : (ws.take f).length ≤ 8 := by rw [List.length_take]; omega
        omega
      rw [step_gap _ ws (t - f) hi lo m (ba (joinL (ws.take f))) f (by omega) (by omega) (by omega), show f + (t - f) = t by omega]
      have e1 : ba (joinL (ws.take f)) ++ (⟨#[58, 58]⟩ : ByteArray) = ba ((joinL (ws.take f) ++ [58, 58]) ++ joinL ((ws.drop t).take (t - t))) := ba_ext (by
        rw [cat_list, ba_data, ba_data, Nat.sub_self, List.take_zero]
        simp [joinL, Lib.join, List.intercalate])
      have hs2 : (joinL (ws.take f) ++ [58, 58]).length < 500 := by
        have h1 := joinL_len (ws.take f)
        have h2 : (ws.take f).length ≤ 8 := by rw [List.length_take]; omega
        simp only [List.length_append, List.length_cons, List.length_nil]
        omega
      rw [e1, run_l2 ws hw hlt (f : Int) ((t - f : Nat) : Int) hi lo m (joinL (ws.take f) ++ [58, 58]) t 8 (by omega) (Or.inr (by simp)) hs2 (8 - t) t (k + 1) (by omega) (by omega) (fun j h1 _ => by omega) (by omega)]
      rw [show (ws.drop t).take (8 - t) = ws.drop t from List.take_of_length_le (by rw [List.length_drop]; omega)]
      have hs3 : (ba (joinL (ws.take f) ++ [58, 58] ++ joinL (ws.drop t))).size < 1000 := by
        unfold ba; rw [ba_size, List.length_append]
        have h1 := joinL_len (ws.drop t)
        have h2 : (ws.drop t).length ≤ 8 := by rw [List.length_drop]; omega
        omega
      rw [step_fin k ws (f : Int) ((t - f : Nat) : Int) hi lo m _ hs3 (by omega) (by omega)]
      refine congrArg some (ba_ext ?_)
      simp only [cat_list, ba_data]
      simp [joinB]
    · rw [if_neg hg, if_neg hg, if_neg hg]
      obtain ⟨k, rfl⟩ : ∃ j, k = (j + 1) + 8 := ⟨k - 9, by omega⟩
      rw [eE, show (0 : Int) = ((0 : Nat) : Int) from rfl, run_l2 ws hw hlt (-1) 1 hi lo m [] 0 8 (by omega) (Or.inl rfl) (by simp) 8 0 (k + 1) (by omega) (by omega) (fun j _ _ => by omega) (by omega)]
      rw [List.nil_append, List.drop_zero, Nat.sub_zero, show ws.take 8 = ws from List.take_of_length_le (by omega)]
      have hs1 : (ba (joinL ws)).size < 1000 := by
        unfold ba; rw [ba_size]
        have h1 := joinL_len ws
        omega
      rw [step_fin k ws (-1) 1 hi lo m _ hs1 (by omega) (by omega)]
      rfl
end Go.Proofs.YtjhlgfafjjmooaaDoor.Dot
