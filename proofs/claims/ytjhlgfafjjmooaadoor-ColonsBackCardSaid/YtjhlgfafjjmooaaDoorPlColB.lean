/- Colons: a right prefix is read as it was written. Plain. -/
import Derived.Test.YtjhlgfafjjmooaaDoorCalive
import Derived.Test.YtjhlgfafjjmooaaDoorPlJoin
namespace Go.Proofs.YtjhlgfafjjmooaaDoor.Dot
open Go.RowKit Go.Proofs.YtjhlgfafjjmooaaDoor.PCidrTells Go.Proofs.YtjhlgfafjjmooaaDoorW.PrintWords Go.Proofs.YtjhlgfafjjmooaaDoorW.PrintLast Go.Proofs.YtjhlgfafjjmooaaDoorW.PrintMore

theorem hdig_key : (List.range 16).all (fun c => hdig (hd c) == some c) = true := by kernel_rfl
theorem hdig_hd (c : Nat) (h : c < 16) : hdig (hd c) = some c := by
  have := List.all_eq_true.mp hdig_key c (List.mem_range.mpr h)
  simpa using this
theorem accX_snoc (b : UInt8) : ∀ (l : List UInt8) (a : Nat), accX (l ++ [b]) a = match accX l a with | none => none | some u => match hdig b with | none => none | some d => some ((u * 16 + d) % 18446744073709551616)
  | [], a => rfl
  | x :: l, a => by
    simp only [List.cons_append, accX]
    cases hdig x with
    | none => rfl
    | some d => exact accX_snoc b l _
theorem acc_hex : ∀ (j v : Nat), v < 16 ^ (j + 1) → v < 65536 → accX (hexF j v) 0 = some v := by
  intro j
  induction j with
  | zero =>
    intro v h _
    have h16 : v < 16 := by simpa using h
    rw [hexF_small _ _ h16]
    simp only [accX, hdig_hd v h16]
    congr 1
    omega
  | succ j ih =>
    intro v h h6
    by_cases h16 : v < 16
    · rw [hexF_small _ _ h16]
      simp only [accX, hdig_hd v h16]
      congr 1
      omega
    · have hd16 : v / 16 < 16 ^ (j + 1) := Nat.div_lt_of_lt_mul (by rw [Nat.mul_comm]; rw [Nat.pow_succ] at h; exact h)
      rw [hexF_great _ _ h16, accX_snoc, ih (v / 16) hd16 (by omega), hdig_hd (v % 16) (by omega)]
      show some _ = _
      congr 1
      omega
theorem numX_hex (v : Nat) (h : v < 65536) : numX (hexL v) = some v := by
  unfold numX
  have h1 := hexL_len v
  have h2 : 0 < (hexL v).length := List.length_pos_iff.mpr (hexL_ne v)
  rw [if_pos ⟨by omega, h1⟩]
  exact acc_hex 3 v (by simpa using h) h
theorem hexF_bytes : ∀ (j v : Nat), ∀ b ∈ hexF j v, ∃ n, b = hd n
  | 0, v, b, h => ⟨v, by simpa [hexF] using h⟩
  | j + 1, v, b, h => by
    by_cases h16 : v < 16
    · rw [hexF_small _ _ h16] at h
      exact ⟨v, by simpa using h⟩
    · rw [hexF_great _ _ h16] at h
      rcases List.mem_append.mp h with h | h
      · exact hexF_bytes j _ b h
      · exact ⟨v % 16, by simpa using h⟩
theorem hd_ne47 (n : Nat) : hd n ≠ 47 := by
  by_cases h : n < 16
  · have : n = 0 ∨ n = 1 ∨ n = 2 ∨ n = 3 ∨ n = 4 ∨ n = 5 ∨ n = 6 ∨ n = 7 ∨ n = 8 ∨ n = 9 ∨ n = 10 ∨ n = 11 ∨ n = 12 ∨ n = 13 ∨ n = 14 ∨ n = 15 := by omega
    rcases this with rfl | rfl | rfl | rfl | rfl | rfl | rfl | rfl | rfl | rfl | rfl | rfl | rfl | rfl | rfl | rfl <;> decide
  · unfold hd
    have : (#[48, 49, 50, 51, 52, 53, 54, 55, 56, 57, 97, 98, 99, 100, 101, 102] : Array UInt8).getD n 0 = 0 := by
      rw [Array.getD_eq_getD_getElem?, Array.getElem?_eq_none (by simp; omega)]
      rfl
    rw [this]
    decide
theorem hexL_58 (v : Nat) : (58 : UInt8) ∉ hexL v := fun h => by
  obtain ⟨n, hn⟩ := hexF_bytes 3 v _ h
  exact hd_ne n hn.symm
theorem hexL_47 (v : Nat) : (47 : UInt8) ∉ hexL v := fun h => by
  obtain ⟨n, hn⟩ := hexF_bytes 3 v _ h
  exact hd_ne47 n hn.symm
theorem joinL_47 : ∀ ns : List Nat, (47 : UInt8) ∉ joinL ns
  | [] => by simp [joinL, Lib.join, List.intercalate]
  | [v] => by rw [joinL_one]; exact hexL_47 v
  | v :: u :: ns => by
    rw [joinL_cons v (u :: ns) (by simp)]
    intro h
    rcases List.mem_append.mp h with h | h
    · exact hexL_47 v h
    · rcases List.mem_cons.mp h with h | h
      · exact absurd h (by decide)
      · exact joinL_47 (u :: ns) h
theorem joinL_ne (ns : List Nat) (h : ns ≠ []) : joinL ns ≠ [] := fun e => by
  obtain ⟨c, hc, _⟩ := joinL_last ns h
  rw [e] at hc
  cases hc
theorem cut_join : ∀ ns : List Nat, ns ≠ [] → cutAt 58 (joinL ns) = ns.map hexL
  | [], h => absurd rfl h
  | [v], _ => by rw [joinL_one, cutAt_none 58 _ (hexL_58 v)]; rfl
  | v :: u :: ns, _ => by rw [joinL_cons v (u :: ns) (by simp), cutAt_at 58 _ _ (hexL_58 v), cut_join (u :: ns) (by simp)]; rfl
theorem map_hex : ∀ ns : List Nat, (∀ v ∈ ns, v < 65536) → mapX (ns.map hexL) = some ns
  | [], _ => rfl
  | v :: ns, h => by
    simp only [List.map_cons, mapX]
    rw [numX_hex v (h v (List.mem_cons_self ..)), map_hex ns (fun u hu => h u (List.mem_cons_of_mem _ hu))]
theorem list_join (ns : List Nat) (h : ∀ v ∈ ns, v < 65536) : listX (joinL ns) = some ns := by
  by_cases h0 : ns = []
  · subst h0; rfl
  · unfold listX
    rw [if_neg (joinL_ne ns h0), cut_join ns h0, map_hex ns h]

/-! ### Two colons -/
theorem idx_ne (b : UInt8) (hb : b ≠ 58) (m : List UInt8) : Lib.index (b :: m) [58, 58] = if Lib.index m [58, 58] = -1 then -1 else Lib.index m [58, 58] + 1 := by
  cases m with
  | nil => rw [index_last]; rfl
  | cons y m => rw [index_two, if_neg (fun e => hb e.1)]
theorem idx_app (l : List UInt8) : ∀ x : List UInt8, (58 : UInt8) ∉ x → Lib.index (x ++ l) [58, 58] = if Lib.index l [58, 58] = -1 then -1 else Lib.index l [58, 58] + x.length
  | [], _ => by
    rw [List.nil_append, List.length_nil]
    split
    · assumption
    · omega
  | b :: x, h => by
    have hb : b ≠ 58 := fun e => h (by rw [e]; exact List.mem_cons_self ..)
    have ih := idx_app l x (fun e => h (List.mem_cons_of_mem _ e))
    have hge := Lib.index_ge l [58, 58]
    rw [List.cons_append, idx_ne b hb, ih, List.length_cons]
    by_cases c : Lib.index l [58, 58] = -1
    · rw [if_pos c, if_pos rfl, if_pos c]
    · rw [if_neg c, if_neg (by omega), if_neg c]
      omega
theorem hex_head (v : Nat) : ∃ y l, hexL v = y :: l ∧ y ≠ 58 := by
  cases h : hexL v with
  | nil => exact absurd h (hexL_ne v)
  | cons y l => exact ⟨y, l, rfl, fun e => hexL_58 v (by rw [h, e]; exact List.mem_cons_self ..)⟩
theorem join_head (ns : List Nat) (h : ns ≠ []) : ∃ y l, joinL ns = y :: l ∧ y ≠ 58 := by
  match ns, h with
  | [v], _ => rw [joinL_one]; exact hex_head v
  | v :: u :: ns, _ =>
    obtain ⟨y, l, e, hy⟩ := hex_head v
    rw [joinL_cons v (u :: ns) (by simp), e]
    exact ⟨y, _, rfl, hy⟩
theorem idx_sep (y : UInt8) (l : List UInt8) (h : y ≠ 58) : Lib.index (58 :: y :: l) [58, 58] = if Lib.index (y :: l) [58, 58] = -1 then -1 else Lib.index (y :: l) [58, 58] + 1 := by
  rw [index_two, if_neg (fun e => h e.2)]
theorem idx_join : ∀ ns : List Nat, Lib.index (joinL ns) [58, 58] = -1
  | [] => rfl
  | [v] => by
    rw [joinL_one]
    have := idx_app [] (hexL v) (hexL_58 v)
    rw [List.append_nil] at this
    rw [this]
    rfl
  | v :: u :: ns => by
    have ih := idx_join (u :: ns)
    obtain ⟨y, l, e, hy⟩ := join_head (u :: ns) (by simp)
    rw [joinL_cons v (u :: ns) (by simp), idx_app _ _ (hexL_58 v), e, idx_sep y l hy, ← e, ih]
    rfl
theorem idx_gap (r : List UInt8) : ∀ ns : List Nat, Lib.index (joinL ns ++ 58 :: 58 :: r) [58, 58] = (joinL ns).length
  | [] => by
    show Lib.index (58 :: 58 :: r) [58, 58] = _
    rw [index_two, if_pos ⟨rfl, rfl⟩]
    rfl
  | [v] => by
    have e0 : Lib.index (58 :: 58 :: r) [58, 58] = 0 := by rw [index_two, if_pos ⟨rfl, rfl⟩]
    rw [joinL_one, idx_app _ _ (hexL_58 v), e0, if_neg (by decide)]
    omega
  | v :: u :: ns => by
    have ih := idx_gap r (u :: ns)
    obtain ⟨y, l, e, hy⟩ := join_head (u :: ns) (by simp)
    rw [joinL_cons v (u :: ns) (by simp), List.append_assoc, idx_app _ _ (hexL_58 v), List.cons_append]
    have e2 : joinL (u :: ns) ++ 58 :: 58 :: r = y :: (l ++ 58 :: 58 :: r) := by rw [e]; rfl
    rw [e2, idx_sep y _ hy, ← e2, ih]
    rw [if_neg (by omega), if_neg (by omega)]
    simp only [List.length_append, List.length_cons]
    omega
/-- The numbers are read as they were written. -/
theorem words_back (ws : List Nat) (hw : ws.length = 8) (hlt : ∀ v ∈ ws, v < 65536) (f t : Nat) (hz : ZeroIn ws f t) : wordsX (gapT ws f t) = some ws := by
  obtain ⟨z1, z2, z3⟩ := hz
  unfold wordsX gapL gapR gapB gapT
  by_cases hg : 1 < t - f
  · rw [if_pos hg]
    have el : (joinB (ws.take f) ++ (⟨#[58, 58]⟩ : ByteArray) ++ joinB (ws.drop t)).data.toList = joinL (ws.take f) ++ 58 :: 58 :: joinL (ws.drop t) := by
      simp only [cat_list]
      simp [joinB]
    have hc : Lib.cut (joinL (ws.take f) ++ 58 :: 58 :: joinL (ws.drop t)) [58, 58] = (joinL (ws.take f), joinL (ws.drop t), true) := by
      unfold Lib.cut
      rw [idx_gap, if_pos (by omega), Int.toNat_natCast, List.take_left]
      have : (joinL (ws.take f) ++ 58 :: 58 :: joinL (ws.drop t)).drop ((joinL (ws.take f)).length + ([58, 58] : List UInt8).length) = joinL (ws.drop t) := by
        rw [show joinL (ws.take f) ++ 58 :: 58 :: joinL (ws.drop t) = (joinL (ws.take f) ++ [58, 58]) ++ joinL (ws.drop t) by simp, show (joinL (ws.take f)).length + ([58, 58] : List UInt8).length = (joinL (ws.take f) ++ [58, 58]).length by simp, List.drop_left]
      rw [this]
    rw [el, hc]
    dsimp only
    rw [list_join _ (fun v hv => hlt v (List.mem_of_mem_take hv)), list_join _ (fun v hv => hlt v (List.mem_of_mem_drop hv))]
    dsimp only
    have h1 : (ws.take f).length = f := by rw [List.length_take]; omega
    have h2 : (ws.drop t).length = 8 - t := by rw [List.length_drop, hw]
    rw [h1, h2, if_pos rfl, if_pos (by rw [decide_eq_true_eq]; omega)]
    congr 1
    apply List.ext_getElem
    · simp only [List.length_append, List.length_replicate, h1, h2]; omega
    · intro j a1 a2
      by_cases c1 : j < f
      · rw [List.getElem_append_left (by rw [List.length_append, List.length_replicate, h1]; omega), List.getElem_append_left (by rw [h1]; exact c1), List.getElem_take]
      · by_cases c2 : j < t
        · rw [List.getElem_append_left (by rw [List.length_append, List.length_replicate, h1]; omega), List.getElem_append_right (by rw [h1]; omega), List.getElem_replicate]
          exact (z3 j a2 (by omega) c2).symm
        · rw [List.getElem_append_right (by rw [List.length_append, List.length_replicate, h1]; omega), List.getElem_drop]
          congr 1
          rw [List.length_append, List.length_replicate, h1]
          omega
  · rw [if_neg hg]
    have el : (joinB ws).data.toList = joinL ws := rfl
    have hc : Lib.cut (joinL ws) [58, 58] = (joinL ws, [], false) := by
      unfold Lib.cut
      rw [idx_join, if_neg (by decide)]
    rw [el, hc]
    dsimp only
    rw [list_join ws hlt, show listX [] = some [] from rfl]
    dsimp only
    rw [hw, if_neg Bool.false_ne_true, if_pos (by decide)]
    simp
theorem fold_four (x : Nat) (hx : x < 18446744073709551616) : foldW (four x) = x := by
  show (((0 * 65536 + wordN x 0) * 65536 + wordN x 1) * 65536 + wordN x 2) * 65536 + wordN x 3 = x
  have q0 : wordN x 0 = x / 281474976710656 % 65536 := rfl
  have q1 : wordN x 1 = x / 4294967296 % 65536 := rfl
  have q2 : wordN x 2 = x / 65536 % 65536 := rfl
  have q3 : wordN x 3 = x / 1 % 65536 := rfl
  rw [q0, q1, q2, q3]
  omega
theorem hi_words (hi lo : Nat) (h : hi < 18446744073709551616) : hiW (wordsN hi lo) = hi := fold_four hi h
theorem lo_words (hi lo : Nat) (h : lo < 18446744073709551616) : loW (wordsN hi lo) = lo := fold_four lo h
/-- A right prefix is read as it was written. -/
theorem readC_back (hi lo n : Nat) (hh : hi < 18446744073709551616) (hl : lo < 18446744073709551616) (hn : n ≤ 128) (hR : addr_Right.f hi lo n = some true) :
    readC (showCB hi lo n) = some ((hi : Int), (lo : Int), (n : Int), 0) := by
  have hz := best_all (wordsN hi lo)
  unfold showCB
  have hwb := words_back (wordsN hi lo) rfl (words_lt hi lo) _ _ hz
  generalize (bestZ (wordsN hi lo) 0 0 0).1 = f at hwb ⊢
  generalize (bestZ (wordsN hi lo) 0 0 0).2 = t at hwb ⊢
  have hl47 : (47 : UInt8) ∉ (gapT (wordsN hi lo) f t).data.toList := by
    unfold gapT
    split
    · simp only [cat_list, joinB, List.mem_append, not_or]
      exact ⟨⟨joinL_47 _, by decide⟩, joinL_47 _⟩
    · exact joinL_47 _
  have el : (showCT (wordsN hi lo) f t n).data.toList = (gapT (wordsN hi lo) f t).data.toList ++ 47 :: Lib.itoa (n : Int) := by
    unfold showCT
    simp only [cat_list]
    simp [txt]
  have hcut := cut_at 47 _ (Lib.itoa (n : Int)) hl47
  rw [← el] at hcut
  have e1 : leftB (showCT (wordsN hi lo) f t n) = gapT (wordsN hi lo) f t := by unfold leftB; rw [hcut]
  have e2 : rightB (showCT (wordsN hi lo) f t n) = ba (Lib.itoa (n : Int)) := by unfold rightB ba; rw [hcut]
  have e3 : okB (showCT (wordsN hi lo) f t n) = true := by unfold okB; rw [hcut]
  obtain ⟨n1, n2⟩ := numB_itoa n 128 (by omega) (by omega)
  unfold readC addrX
  rw [e1, e2, e3, hwb]
  dsimp only
  rw [ba_data, n1, n2, if_pos (by decide), hi_words hi lo hh, lo_words hi lo hl]
  unfold cidr_Length.f
  rw [hR]
  rfl
theorem topN_idem' (x m : Nat) : topN (topN x m) m = topN x m := by
  unfold topN
  rw [Nat.mul_div_cancel _ (Nat.two_pow_pos _)]
theorem topN_rightC (x y n : Nat) (hx : x < 18446744073709551616) (hy : y < 18446744073709551616) (hn : n ≤ 128) : addr_Right.f (topN x (min n 64)) (topN y (n - 64)) n = some true := by
  have hb : topN x (min n 64) < 18446744073709551616 := Nat.lt_of_le_of_lt (topN_le _ _) hx
  have hc : topN y (n - 64) < 18446744073709551616 := Nat.lt_of_le_of_lt (topN_le _ _) hy
  have := cut_code (topN x (min n 64)) (topN y (n - 64)) n hb hc hn
  unfold addr_Right.f
  rw [if_pos (by omega), if_pos (by omega), this, Option.bind_some, topN_idem', topN_idem']
  simp
end Go.Proofs.YtjhlgfafjjmooaaDoor.Dot
