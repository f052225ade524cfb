/- For every lengths, levels and low: the law HistoKeys answers true: levels cost as many keys as routes make, one by one. No condition. -/
import Derived.Test.YtlklehliapbgeaaPHistoKeysx7
import Derived.Test.YtlklehliapbgeaaHistoCnt
import Derived.Test.YtlklehliapbgeaaHCHistoKeys
import Derived.Test.YtlklehliapbgeaaRCHistoKeys
namespace Go.Proofs.Ytlklehliapbgeaa.Pure
open Go.RowKit Go.Proofs.Ytlklehliapbgeaa.PHistoKeys Go.Proofs.YtlklehliapbgeaaW.PrintWords Go.Proofs.YtlklehliapbgeaaW.PrintLast Go.Proofs.YtlklehliapbgeaaW.PrintMore Go.Proofs.Ytlklehliapbgeaa.Histo

theorem with_f (a b i : Int) : ∃ p, flocculusref1_With.f a b i = some p := by
  have h : ∀ n : Int, 0 ≤ IntKind.u64.wrap n := fun n => Int.emod_nonneg _ (by decide)
  unfold flocculusref1_With.f
  by_cases hi : i < 64
  · rw [if_pos hi, if_pos (h _)]; exact ⟨_, rfl⟩
  · rw [if_neg hi, if_pos (h _)]; exact ⟨_, rfl⟩

theorem bit_zero (i : Int) (h0 : 0 ≤ i) (h1 : i ≤ 127) : Ev (fun k => flocculusref1_Bit.f k 0 0 i) 0 := by
  have hw : ∀ n : Int, 0 ≤ IntKind.u64.wrap n := fun n => Int.emod_nonneg _ (by decide)
  have hz : ∀ y : Int, wrap64 (Go.bits .and .u64 (shr .u64 0 y) 1) = 0 := fun y => by
    unfold shr; rw [Int.zero_ediv]; decide +kernel
  refine Ev.congr (f := fun k => flocculusref1_Bit.j0 k i false 0 0) (fun k => ?_) (Ev.step (f := fun _ => some 0) (fun k => ?_) (Ev.now _))
  · unfold flocculusref1_Bit.f; rw [if_neg (by omega), decide_eq_false (by omega)]
  · simp only [flocculusref1_Bit.j0]; rw [if_neg (by decide)]
    by_cases hi : i < 64
    · rw [if_pos hi, if_pos (hw _), hz]
    · rw [if_neg hi, if_pos (hw _), hz]

theorem cut_zero (n : Int) (hn : n ≤ 128) : ∀ (d : Nat) (i : Int), n - i = d → 0 ≤ i → Ev (fun k => flocculusref1_Cut.l0 k n i 0 0 0 0) (0, 0)
  | 0, i, hd, h0 => by
    refine Ev.step (f := fun _ => some (0, 0)) (fun k => ?_) (Ev.now _)
    simp only [flocculusref1_Cut.l0]; rw [if_neg (by omega)]
  | d + 1, i, hd, h0 => by
    refine Ev.step (fun k => ?_) (Ev.bind (bit_zero i h0 (by omega)) (f := fun k (t : Int) => if t = 1 then ((flocculusref1_With.f 0 0 i).bind fun bt133 => (flocculusref1_Cut.l0 k n (wrap64 (i + 1)) 0 0 bt133.1 bt133.2)) else (flocculusref1_Cut.l0 k n (wrap64 (i + 1)) 0 0 0 0)) ?_)
    · simp only [flocculusref1_Cut.l0]; rw [if_pos (by omega)]
    · refine Ev.congr (fun k => ?_) (cut_zero n hn d (i + 1) (by omega) (by omega))
      rw [if_neg (by decide), wrap_of (by omega) (by omega)]

theorem right_zero (n : Int) (h0 : 0 ≤ n) (h1 : n ≤ 128) : Ev (fun k => flocculusref1_Right.f k 0 0 n) true := by
  refine Ev.congr (fun k => ?_) (Ev.bind (f := fun _ (bt : Int × Int) => some (bt.1 == 0 && (bt.2 == 0))) (cut_zero n h1 n.toNat 0 (by omega) (by omega)) (Ev.now true))
  unfold flocculusref1_Right.f flocculusref1_Cut.f
  rw [if_pos h0, if_pos h1, RCHistoKeys.cap_f n 0 128 (by decide), show mx 0 (mn n 128) = n by unfold mx mn; rw [if_neg (show ¬ (128 : Int) < n by omega)]; split <;> omega]
  rfl

theorem keys_l1 (L : Int) (hL : L ≤ 128) (x5 : List S29) (i : Int) (h0 : 0 ≤ i) (h1 : i < L) (hx : x5.length ≤ 1048576) (R : List S29 → Prop)
    (next : ∀ y : List S29, y.length = 2 * x5.length → ∃ r, R r ∧ Ev (fun k => flocculusref1_Keys.l0 k L y (i + 1)) r) :
    ∀ (rest : List S29) (j : Nat) (x7 : List S29), x5.drop j = rest → j ≤ x5.length → x7.length = 2 * j → ∃ r, R r ∧ Ev (fun k => flocculusref1_Keys.l1 k L x5 i x7 (j : Int)) r
  | [], j, x7, hd, hj, h7 => by
    have := drop_nilG hd
    obtain ⟨r, hr, he⟩ := next x7 (by omega)
    refine ⟨r, hr, Ev.step (fun k => ?_) he⟩
    simp only [flocculusref1_Keys.l1]; rw [if_neg (by omega), wrap_of (by omega) (by omega)]
  | x :: xs, j, x7, hd, hj, h7 => by
    obtain ⟨hl, _, hd'⟩ := drop_consG hd
    obtain ⟨p, hp⟩ := with_f (rd_T29 x5 (j : Int)).f0.f0 (rd_T29 x5 (j : Int)).f0.f1 i
    obtain ⟨r, hr, he⟩ := keys_l1 L hL x5 i h0 h1 hx R next xs (j + 1) (x7 ++ [(⟨(⟨(rd_T29 x5 (j : Int)).f0.f0, (rd_T29 x5 (j : Int)).f0.f1⟩ : S27), (rd_T29 x5 (j : Int)).f1⟩ : S29), (⟨(⟨p.1, p.2⟩ : S27), L⟩ : S29)]) hd' (by omega) (by simp; omega)
    refine ⟨r, hr, Ev.step (fun k => ?_) he⟩
    simp only [flocculusref1_Keys.l1]; rw [if_pos (by omega), if_pos (by omega), hp]; simp only [Option.bind_some]; rw [if_pos (by simp; omega), wrap_of (by omega) (by omega)]; rfl

theorem keys_l0 (L : Int) (hL : L ≤ 128) : ∀ (d : Nat) (i : Int) (x5 : List S29), L - i = d → 0 ≤ i → x5.length * 2 ^ d ≤ 1048576 →
    ∃ r, r.length = x5.length * 2 ^ d ∧ Ev (fun k => flocculusref1_Keys.l0 k L x5 i) r
  | 0, i, x5, hd, h0, hb => by
    refine ⟨x5, by omega, Ev.step (f := fun _ => some x5) (fun k => ?_) (Ev.now _)⟩
    simp only [flocculusref1_Keys.l0]; rw [if_neg (by omega)]
  | d + 1, i, x5, hd, h0, hb => by
    have hp : 0 < 2 ^ d := Nat.pow_pos (by omega)
    have e2 : ∀ m : Nat, m * 2 ^ (d + 1) = (2 * m) * 2 ^ d := fun m => by rw [Nat.pow_succ, Nat.mul_comm (2 ^ d) 2, ← Nat.mul_assoc, Nat.mul_comm m 2]
    have hx5 : x5.length ≤ 1048576 := by
      have : x5.length * 1 ≤ x5.length * 2 ^ (d + 1) := Nat.mul_le_mul_left _ (Nat.pow_pos (by omega))
      omega
    obtain ⟨r, hr, he⟩ := keys_l1 L hL x5 i h0 (by omega) hx5 (fun r => r.length = x5.length * 2 ^ (d + 1)) (fun y hy => by
      obtain ⟨r, hr, he⟩ := keys_l0 L hL d (i + 1) y (by omega) (by omega) (by rw [hy, ← e2]; exact hb)
      exact ⟨r, by rw [hr, hy, e2], he⟩) x5 0 [] rfl (by omega) rfl
    refine ⟨r, hr, Ev.step (fun k => ?_) he⟩
    simp only [flocculusref1_Keys.l0]; rw [if_pos (by omega)]; rfl

/-- How many keys a route makes. -/
theorem keys_f (n L : Int) (h0 : 0 ≤ n) (h1 : n ≤ 127) (hnL : n ≤ L) (h8 : L - n ≤ 8) : ∃ r, (r.length : Int) ≤ 256 ∧ (L ≤ 128 → (r.length : Int) = 2 ^ (L - n).toNat) ∧ Ev (fun k => flocculusref1_Keys.f k 0 0 n L) r := by
  have un : ∀ k, flocculusref1_Keys.f k 0 0 n L = (flocculusref1_Right.f k 0 0 n).bind fun t => (if t = true then (if L < n then (flocculusref1_Keys.j0 k L true 0 0 n) else (if L > 128 then (flocculusref1_Keys.j0 k L true 0 0 n) else (flocculusref1_Keys.j0 k L (decide ((wrap64 (L - n)) > 8)) 0 0 n))) else (flocculusref1_Keys.j0 k L true 0 0 n)) := fun _ => rfl
  by_cases hL : L > 128
  · refine ⟨[], by simp, fun h => by omega, Ev.congr un (Ev.bind (right_zero n h0 (by omega)) ?_)⟩
    simp only [if_true, if_neg (show ¬ L < n by omega), if_pos hL]
    refine Ev.step (f := fun _ => some []) (fun k => ?_) (Ev.now _)
    simp only [flocculusref1_Keys.j0]; rw [if_pos trivial]
  · have hp : 2 ^ (L - n).toNat ≤ 2 ^ 8 := Nat.pow_le_pow_right (by omega) (by omega)
    obtain ⟨r, hr, he⟩ := keys_l0 L (by omega) (L - n).toNat n [(⟨(⟨0, 0⟩ : S27), L⟩ : S29)] (by omega) h0 (by rw [List.length_singleton, Nat.one_mul]; omega)
    rw [List.length_singleton, Nat.one_mul] at hr
    refine ⟨r, by rw [hr]; omega, fun _ => by rw [hr]; exact Int.natCast_pow 2 _, Ev.congr un (Ev.bind (right_zero n h0 (by omega)) ?_)⟩
    simp only [if_true, if_neg (show ¬ L < n by omega), if_neg hL]
    refine Ev.step (fun k => ?_) he
    rw [wrap_of (by omega) (by omega), decide_eq_false (by omega)]
    simp only [flocculusref1_Keys.j0]; rw [if_neg (by decide)]

/-! counts -/
def lensOf (l : List S45) : List Int := l.map fun r => r.f0.f1

theorem count_l0 (l : List S45) (hlen : l.length ≤ 1000) (hm : ∀ m ∈ lensOf l, 0 ≤ m ∧ m < 129) : ∀ (rest : List S45) (i : Nat) (x : List Int), l.drop i = rest → i ≤ l.length → x.length = 129 →
    Ev (fun k => histo_Count.l0 k x l (l.length : Int) (i : Int)) ((lensOf rest).foldl bump x)
  | [], i, x, hd, hi, hx => by
    have := drop_nilG hd
    refine Ev.step (f := fun _ => some x) (fun k => ?_) (Ev.now _)
    simp only [histo_Count.l0]; rw [if_neg (by omega)]
  | r :: rs, i, x, hd, hi, hx => by
    obtain ⟨hl, hg, hd'⟩ := drop_consG hd
    have e : rd_T45 l (i : Int) = r := by unfold rd_T45; rw [Int.toNat_natCast]; exact hg _
    have hb := hm r.f0.f1 (List.mem_map.mpr ⟨r, by rw [← List.take_append_drop i l, hd]; simp, rfl⟩)
    refine Ev.step (f := fun k => histo_Count.l0 k (bump x r.f0.f1) l (l.length : Int) ((i + 1 : Nat) : Int)) (fun k => ?_) (count_l0 l hlen hm rs (i + 1) _ hd' (by omega) (by rw [bump_length]; exact hx))
    simp only [histo_Count.l0]; rw [if_pos (by omega), if_pos (by omega), if_pos (by omega), e, if_pos (by omega), if_pos (by omega), if_pos (by omega), if_pos (by omega), wrap_of (n := (i : Int) + 1) (by omega) (by omega)]; rfl
theorem refcount_l0 (l : List S45) (hlen : l.length ≤ 1000) (hm : ∀ m ∈ lensOf l, 0 ≤ m ∧ m < 129) : ∀ (rest : List S45) (i : Nat) (x : List Int), l.drop i = rest → i ≤ l.length → x.length = 129 →
    Ev (fun k => flocculusref11_Count.l0 k l x (i : Int)) ((lensOf rest).foldl bump x)
  | [], i, x, hd, hi, hx => by
    have := drop_nilG hd
    refine Ev.step (f := fun _ => some x) (fun k => ?_) (Ev.now _)
    simp only [flocculusref11_Count.l0]; rw [if_neg (by omega)]
  | r :: rs, i, x, hd, hi, hx => by
    obtain ⟨hl, hg, hd'⟩ := drop_consG hd
    have e : rd_T45 l (i : Int) = r := by unfold rd_T45; rw [Int.toNat_natCast]; exact hg _
    have hb := hm r.f0.f1 (List.mem_map.mpr ⟨r, by rw [← List.take_append_drop i l, hd]; simp, rfl⟩)
    refine Ev.step (f := fun k => flocculusref11_Count.l0 k l (bump x r.f0.f1) ((i + 1 : Nat) : Int)) (fun k => ?_) (refcount_l0 l hlen hm rs (i + 1) _ hd' (by omega) (by rw [bump_length]; exact hx))
    simp only [flocculusref11_Count.l0]; rw [if_pos (by omega), if_pos (by omega), e, if_pos (by omega), if_pos (by omega), if_pos (by omega), if_pos (by omega), wrap_of (n := (i : Int) + 1) (by omega) (by omega)]; rfl
theorem count_f (l : List S45) (hlen : l.length ≤ 1000) (hm : ∀ m ∈ lensOf l, 0 ≤ m ∧ m < 129) : Ev (fun k => histo_Count.f k l) (countL (lensOf l)) :=
  Ev.congr (fun k => if_pos (by decide)) (count_l0 l hlen hm l 0 (List.replicate 129 0) rfl (by omega) (by simp))
theorem refcount_f (l : List S45) (hlen : l.length ≤ 1000) (hm : ∀ m ∈ lensOf l, 0 ≤ m ∧ m < 129) : Ev (fun k => flocculusref11_Count.f k l) (countL (lensOf l)) :=
  Ev.congr (fun k => if_pos (by decide)) (refcount_l0 l hlen hm l 0 (List.replicate 129 0) rfl (by omega) (by simp))

theorem and127 (x : Int) : 0 ≤ Go.bits .and .i64 x 127 ∧ Go.bits .and .i64 x 127 ≤ 127 := by
  have h : (BitVec.ofInt 64 x &&& BitVec.ofInt 64 127).toNat ≤ 127 := by
    rw [BitVec.toNat_and, show (BitVec.ofInt 64 127).toNat = 127 by decide]
    exact Nat.and_le_right
  have e : Go.bits .and .i64 x 127 = (((BitVec.ofInt 64 x &&& BitVec.ofInt 64 127).toNat : Nat) : Int) := by
    show IntKind.i64.wrap (((BitVec.ofInt 64 x &&& BitVec.ofInt 64 127).toNat : Nat) : Int) = _
    exact i64_of (by omega) (by omega)
  rw [e]; omega

theorem alive_f : Ev (fun k => flocculuslaw16_alive.f k) true := Ev.of flocculuslaw16_alive.mono (k := 200) (by decide +kernel)

/-! the law's own loops -/
theorem last (ls : List Int) (low : Int) (l : List S45) (ks : Int) (fits : Bool) (hls : ls.length ≤ 20) (hlen : l.length ≤ 40) (hm : ∀ m ∈ lensOf l, 0 ≤ m ∧ m < 129) (hk : fits = true → Rising low ls → ks = keys ls low (lensOf l)) :
    Ev (fun k => (histo_Count.f k l).bind fun t181 => ((histo_Cost.f k t181 ls low).bind fun bt184 => (if fits = true then (flocculuslaw16_HistoKeys.j3 k ls low l ks bt184.1 bt184.2 (!bt184.2)) else (flocculuslaw16_HistoKeys.j3 k ls low l ks bt184.1 bt184.2 true)))) true := by
  refine Ev.bind (f := fun k t181 => ((histo_Cost.f k t181 ls low).bind fun bt184 => (if fits = true then (flocculuslaw16_HistoKeys.j3 k ls low l ks bt184.1 bt184.2 (!bt184.2)) else (flocculuslaw16_HistoKeys.j3 k ls low l ks bt184.1 bt184.2 true)))) (count_f l (by omega) hm) ?_
  have ll : (lensOf l).length ≤ 1000 := by unfold lensOf; rw [List.length_map]; omega
  by_cases hok : 0 ≤ low ∧ Rising low ls ∧ ∃ s, Cost (countL (lensOf l)) low ls s
  · obtain ⟨h0, hr, s, hs⟩ := hok
    refine Ev.bind (HCHistoKeys.cost_f_yes _ ls low s (by omega) h0 hr hs) ?_
    have j3 : Ev (fun k => flocculuslaw16_HistoKeys.j3 k ls low l ks s true true) true := by
      refine Ev.step (f := fun k => (flocculusref11_Count.f k l).bind fun t186 => ((flocculusref11_Cost.f k t186 ls low).bind fun bt189 => (some (true == bt189.2)))) (fun k => ?_) (Ev.bind (f := fun k t186 => ((flocculusref11_Cost.f k t186 ls low).bind fun bt189 => (some (true == bt189.2)))) (refcount_f l (by omega) hm) (Ev.bind (RCHistoKeys.cost_f_yes _ ls low s (by omega) h0 hr hs) (Ev.now true)))
      simp only [flocculuslaw16_HistoKeys.j3]; rw [if_pos trivial]
    cases fits with
    | false => exact j3
    | true =>
      refine Ev.step (f := fun _ => some true) (fun k => ?_) (Ev.now _)
      have e : s = ks := by rw [hk rfl hr]; exact hs.keys hr hm ll
      show flocculuslaw16_HistoKeys.j3 (k + 1) ls low l ks s true false = some true
      simp only [flocculuslaw16_HistoKeys.j3]; rw [if_neg (by decide), e, beq_self_eq_true]
  · refine Ev.bind (HCHistoKeys.cost_f_no _ ls low (by omega) hok) ?_
    have j3 : Ev (fun k => flocculuslaw16_HistoKeys.j3 k ls low l ks 0 false true) true := by
      refine Ev.step (f := fun k => (flocculusref11_Count.f k l).bind fun t186 => ((flocculusref11_Cost.f k t186 ls low).bind fun bt189 => (some (false == bt189.2)))) (fun k => ?_) (Ev.bind (f := fun k t186 => ((flocculusref11_Cost.f k t186 ls low).bind fun bt189 => (some (false == bt189.2)))) (refcount_f l (by omega) hm) (Ev.bind (RCHistoKeys.cost_f_no _ ls low (by omega) hok) (Ev.now true)))
      simp only [flocculuslaw16_HistoKeys.j3]; rw [if_pos trivial]
    cases fits with
    | false => exact j3
    | true => exact j3

theorem key_skip : ∀ (pre : List Int) (rest : List Int) (m : Int), (∀ x ∈ pre, x < m) → key (pre ++ rest) m = key rest m
  | [], _, _, _ => rfl
  | x :: xs, rest, m, h => by
    have := h x (by simp)
    simp only [List.cons_append, key]
    rw [if_neg (by omega), key_skip xs rest m (fun y hy => h y (by simp [hy]))]

/-- The look for a route's level, and what comes then. -/
theorem look (lens ls : List Int) (low : Int) (l : List S45) (ks : Int) (fits : Bool) (i : Nat) (n : Int) (hls : ls.length ≤ 20) (hi : i ≤ 40) (hn : 0 ≤ n ∧ n ≤ 127) (hks : 0 ≤ ks ∧ ks ≤ 1000000) (hw : ∀ x ∈ ls, x ≤ 9223372036854775807)
    (next : ∀ ks' fits', (0 ≤ ks' ∧ ks' ≤ ks + 256) → (fits' = true → fits = true ∧ ((∀ x ∈ ls, x ≤ 128) → ks' = ks + key ls n)) → Ev (fun k => flocculuslaw16_HistoKeys.l0 k lens ls low l ks' fits' ((i + 1 : Nat) : Int)) true) :
    ∀ (rest pre : List Int) (j : Nat), ls.drop j = rest → j ≤ ls.length → ls = pre ++ rest → (∀ x ∈ pre, x < n) → Ev (fun k => flocculuslaw16_HistoKeys.l1 k lens ls low l ks fits (i : Int) n (j : Int)) true
  | [], pre, j, hd, hj, hp, hlt => by
    have := drop_nil hd
    refine Ev.step (fun k => ?_) (next ks false ⟨by omega, by omega⟩ (fun h => by cases h))
    simp only [flocculuslaw16_HistoKeys.l1]; rw [if_neg (by omega), if_pos (by omega), wrap_of (by omega) (by omega)]; rfl
  | x :: xs, pre, j, hd, hj, hp, hlt => by
    obtain ⟨hl, hx, hd'⟩ := drop_cons hd
    by_cases hxn : x < n
    · refine Ev.step (f := fun k => flocculuslaw16_HistoKeys.l1 k lens ls low l ks fits (i : Int) n ((j + 1 : Nat) : Int)) (fun k => ?_) (look lens ls low l ks fits i n hls hi hn hks hw next xs (pre ++ [x]) (j + 1) hd' (by omega) (by rw [hp]; simp) (fun y hy => ?_))
      · simp only [flocculuslaw16_HistoKeys.l1]; rw [if_pos (by omega), if_pos (by omega), hx, if_pos hxn, wrap_of (by omega) (by omega)]; rfl
      · rcases List.mem_append.mp hy with h | h
        · exact hlt y h
        · rw [List.mem_singleton] at h; omega
    · have hxw := hw x (by rw [hp]; simp)
      have ed : wrap64 (x - n) = x - n := wrap_of (by omega) (by omega)
      by_cases h8 : x - n > 8
      · refine Ev.step (fun k => ?_) (next ks false ⟨by omega, by omega⟩ (fun h => by cases h))
        simp only [flocculuslaw16_HistoKeys.l1]; rw [if_pos (by omega), if_pos (by omega), hx, if_neg hxn, if_neg (by omega), ed, if_pos h8, wrap_of (by omega) (by omega)]; rfl
      · obtain ⟨r, hr256, hr, he⟩ := keys_f n x hn.1 hn.2 (by omega) (by omega)
        refine Ev.step (fun k => ?_) (Ev.bind (f := fun k (t178 : List S29) => flocculuslaw16_HistoKeys.l0 k lens ls low l (wrap64 (ks + (t178.length : Int))) fits (wrap64 ((i : Int) + 1))) he ?_)
        · simp only [flocculuslaw16_HistoKeys.l1]; rw [if_pos (by omega), if_pos (by omega), hx, if_neg hxn, if_neg (by omega), ed, if_neg h8]
        · rw [wrap_of (n := ks + (r.length : Int)) (by omega) (by omega), wrap_of (n := (i : Int) + 1) (by omega) (by omega)]
          refine next (ks + r.length) fits ⟨by omega, by omega⟩ (fun h => ⟨h, fun h128 => ?_⟩)
          rw [hr (h128 x (by rw [hp]; simp)), hp, key_skip pre (x :: xs) n hlt]
          simp only [key]; rw [if_pos (by omega)]

theorem mem_rising : ∀ {ls : List Int} {low : Int}, Rising low ls → ∀ x ∈ ls, x ≤ 128
  | [], _, _, _, h => by cases h
  | y :: ys, _, hr, x, h => by
    obtain ⟨_, h2, h3⟩ := hr
    rcases List.mem_cons.mp h with rfl | h
    · exact h2
    · exact mem_rising h3 x h

theorem loop (lens ls : List Int) (low : Int) (hls : ls.length ≤ 20) (hlen : lens.length ≤ 40) (hw : ∀ x ∈ ls, x ≤ 9223372036854775807) : ∀ (rest : List Int) (i : Nat) (l : List S45) (ks : Int) (fits : Bool), lens.drop i = rest → i ≤ lens.length → l.length = i →
    (∀ m ∈ lensOf l, 0 ≤ m ∧ m < 129) → (0 ≤ ks ∧ ks ≤ 256 * i) → (fits = true → Rising low ls → ks = keys ls low (lensOf l)) →
    Ev (fun k => flocculuslaw16_HistoKeys.l0 k lens ls low l ks fits (i : Int)) true
  | [], i, l, ks, fits, hd, hi, hll, hm, hks, hk => by
    have := drop_nil hd
    refine Ev.step (fun k => ?_) (last ls low l ks fits hls (by omega) hm hk)
    simp only [flocculuslaw16_HistoKeys.l0]; rw [if_neg (by omega)]
  | x :: xs, i, l, ks, fits, hd, hi, hll, hm, hks, hk => by
    obtain ⟨hl, hx, hd'⟩ := drop_cons hd
    have hn := and127 x
    generalize hne : Go.bits .and .i64 x 127 = n at hn
    have hm' : ∀ m ∈ lensOf (l ++ [(⟨(⟨(⟨0, 0⟩ : S27), n⟩ : S29), 0⟩ : S45)]), 0 ≤ m ∧ m < 129 := fun m hmm => by
      unfold lensOf at hmm
      rw [List.map_append] at hmm
      rcases List.mem_append.mp hmm with h | h
      · exact hm m h
      · rw [List.map_singleton, List.mem_singleton] at h; simp only at h; omega
    have hkeys : keys ls low (lensOf (l ++ [(⟨(⟨(⟨0, 0⟩ : S27), n⟩ : S29), 0⟩ : S45)])) = keys ls low (lensOf l) + if n ≤ low then 0 else key ls n := by
      unfold lensOf
      rw [List.map_append, List.map_singleton]
      exact keys_snoc ls low n _
    have unf : ∀ k, flocculuslaw16_HistoKeys.l0 (k + 1) lens ls low l ks fits (i : Int) = (if n ≤ low then (flocculuslaw16_HistoKeys.l0 k lens ls low (l ++ [(⟨(⟨(⟨0, 0⟩ : S27), n⟩ : S29), 0⟩ : S45)]) ks fits ((i + 1 : Nat) : Int)) else (flocculuslaw16_HistoKeys.l1 k lens ls low (l ++ [(⟨(⟨(⟨0, 0⟩ : S27), n⟩ : S29), 0⟩ : S45)]) ks fits (i : Int) n ((0 : Nat) : Int))) := fun k => by
      simp only [flocculuslaw16_HistoKeys.l0]; rw [if_pos (by omega), if_pos (by omega), if_pos (by omega), hx, hne]; simp only [Option.bind_some]; rw [wrap_of (n := (i : Int) + 1) (by omega) (by omega)]; rfl
    by_cases hlow : n ≤ low
    · refine Ev.step (fun k => (unf k).trans (if_pos hlow)) (loop lens ls low hls hlen hw xs (i + 1) _ ks fits hd' (by omega) (by simp; omega) hm' (by omega) (fun hf hr => ?_))
      rw [hkeys, if_pos hlow, Int.add_zero]; exact hk hf hr
    · refine Ev.step (fun k => (unf k).trans (if_neg hlow)) (look lens ls low _ ks fits i n hls (by omega) hn (by omega) hw (fun ks' fits' hb hf => ?_) ls [] 0 rfl (by omega) rfl (by simp))
      refine loop lens ls low hls hlen hw xs (i + 1) _ ks' fits' hd' (by omega) (by simp; omega) hm' (by omega) (fun hf' hr => ?_)
      obtain ⟨h1, h2⟩ := hf hf'
      rw [hkeys, if_neg hlow, ← hk h1 hr]
      exact h2 (mem_rising hr)

theorem HistoKeys : flocculuslaw16_HistoKeys.Pure := by
  intro lens ls low _ _ _ _ _ hw _
  refine Ev.rounds ?_
  have un : ∀ k, flocculuslaw16_HistoKeys.f k lens ls low = (flocculuslaw16_alive.f k).bind fun t170 => (if t170 = true then (if (lens.length : Int) > 40 then (flocculuslaw16_HistoKeys.j0 k lens ls low t170 true) else (if (ls.length : Int) > 20 then (flocculuslaw16_HistoKeys.j0 k lens ls low t170 true) else (if low < 0 then (flocculuslaw16_HistoKeys.j0 k lens ls low t170 true) else (flocculuslaw16_HistoKeys.j0 k lens ls low t170 (decide (low > 128)))))) else (flocculuslaw16_HistoKeys.j0 k lens ls low t170 true)) := fun k => rfl
  have j0 : Ev (fun k => flocculuslaw16_HistoKeys.j0 k lens ls low true true) true := by
    refine Ev.step (f := fun _ => some true) (fun k => ?_) (Ev.now _)
    simp only [flocculuslaw16_HistoKeys.j0]; rw [if_pos trivial]
  refine Ev.congr un (Ev.bind alive_f ?_)
  simp only [if_true]
  by_cases h1 : (lens.length : Int) > 40
  · simp only [if_pos h1]; exact j0
  simp only [if_neg h1]
  by_cases h2 : (ls.length : Int) > 20
  · simp only [if_pos h2]; exact j0
  simp only [if_neg h2]
  by_cases h3 : low < 0
  · simp only [if_pos h3]; exact j0
  simp only [if_neg h3]
  by_cases h4 : low > 128
  · simp only [decide_eq_true h4]; exact j0
  simp only [decide_eq_false h4]
  have hw' : ∀ x ∈ ls, x ≤ 9223372036854775807 := fun x hx => by
    have h := hw x hx
    simp only [Lit.wf, Bool.and_eq_true, decide_eq_true_eq] at h
    have e : IntKind.i64.max = 9223372036854775807 := rfl
    omega
  refine Ev.step (f := fun k => flocculuslaw16_HistoKeys.l0 k lens ls low [] 0 true ((0 : Nat) : Int)) (fun k => ?_) (loop lens ls low (by omega) (by omega) hw' lens 0 [] 0 true rfl (by omega) rfl (by simp [lensOf]) (by omega) (fun _ _ => rfl))
  simp only [flocculuslaw16_HistoKeys.j0]; rw [if_neg (by decide)]; rfl

end Go.Proofs.Ytlklehliapbgeaa.Pure
