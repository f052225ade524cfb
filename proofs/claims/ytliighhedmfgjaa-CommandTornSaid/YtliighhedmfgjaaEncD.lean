/- The reference's bytes of a reply, for its functions as they are printed: the same bytes. -/
import Derived.Test.YtliighhedmfgjaaPt
import Derived.Test.YtliighhedmfgjaaPRefDx3
namespace Go.Proofs.Ytliighhedmfgjaa.Cmd
open Go.RowKit Go.Proofs.YtliighhedmfgjaaW.PrintWords Go.Proofs.YtliighhedmfgjaaW.PrintLast Go.Proofs.YtliighhedmfgjaaW.PrintMore

theorem and255d (x : Int) (h0 : 0 ≤ x) (h1 : x < 18446744073709551616) : bits .and .u64 x 255 = x % 256 := bits_mask .u64 64 (by decide) wraps64 8 (by decide) x h0 h1
theorem numD_ev (n : Int) (hn : u64 n) : ∀ (j : Nat) (acc : List Int), j ≤ 8 → acc.length + j ≤ 1000000000 → Ev (fun k => PRefD.flocculusref21_num.l0 k acc n ((j : Int) - 1)) (acc ++ be j n)
  | 0, acc, _, _ => by
    refine ⟨1, fun k hk => ?_⟩
    obtain ⟨k, rfl⟩ : ∃ k', k = k' + 1 := ⟨k - 1, by omega⟩
    show PRefD.flocculusref21_num.l0 (k + 1) acc n _ = some (acc ++ be 0 n)
    simp only [PRefD.flocculusref21_num.l0]
    rw [if_neg (by omega)]
    simp [be]
  | j + 1, acc, hj, hl => by
    have ih := numD_ev n hn j (acc ++ [n / 2 ^ (8 * j) % 256]) (by omega) (by rw [List.length_append]; simp only [List.length_cons, List.length_nil]; omega)
    have ex : (((j + 1 : Nat) : Int) - 1) = (j : Int) := by omega
    have ew : wrap64 (8 * (j : Int)) = 8 * (j : Int) := wrap_of (by omega) (by omega)
    have e64 : (2 : Int) ^ 64 = 18446744073709551616 := by decide
    have eu : IntKind.u64.wrap (8 * (j : Int)) = 8 * (j : Int) := wraps64 _ (by omega) (by rw [e64]; omega)
    have es : shr .u64 n (8 * (j : Int)) = n / 2 ^ (8 * j) := by
      unfold shr
      rw [Nat.min_eq_left (by show (8 * (j : Int)).toNat ≤ 64; omega), show (8 * (j : Int)).toNat = 8 * j by omega]
    have hp : (0 : Int) < 2 ^ (8 * j) := Int.pow_pos (by decide)
    have h0 : 0 ≤ n / 2 ^ (8 * j) := Int.ediv_nonneg hn.1 (by omega)
    have h1 : n / 2 ^ (8 * j) < 18446744073709551616 := by
      have h2 : n / 2 ^ (8 * j) ≤ n := Int.ediv_le_self _ hn.1
      have := hn.2
      omega
    have ed : wrap64 ((j : Int) - 1) = (j : Int) - 1 := wrap_of (by omega) (by omega)
    refine Ev.step (f := fun k => PRefD.flocculusref21_num.l0 k (acc ++ [n / 2 ^ (8 * j) % 256]) n ((j : Int) - 1)) (fun k => ?_) (by
      have e : acc ++ be (j + 1) n = acc ++ [n / 2 ^ (8 * j) % 256] ++ be j n := by simp [be]
      rw [e]
      exact ih)
    simp only [PRefD.flocculusref21_num.l0]
    rw [ex, if_pos (by omega), ew, eu, if_pos (by omega), if_pos (by omega), es, and255d _ h0 h1, Int.emod_emod_of_dvd _ (by decide), ed]
theorem fnumD_ev (n : Int) (hn : u64 n) (j : Nat) (acc : List Int) (hj : j ≤ 8) (hl : acc.length + j ≤ 1000000000) : Ev (fun k => PRefD.flocculusref21_num.f k acc n j) (acc ++ be j n) := by
  obtain ⟨K, hK⟩ := numD_ev n hn j acc hj hl
  refine ⟨K, fun k hk => ?_⟩
  have h : PRefD.flocculusref21_num.l0 k acc n ((j : Int) - 1) = some (acc ++ be j n) := hK k hk
  show PRefD.flocculusref21_num.f k acc n j = some (acc ++ be j n)
  unfold PRefD.flocculusref21_num.f
  rw [wrap_of (by omega) (by omega)]
  exact h
theorem fpreD_ev (hi lo len : Int) (h1 : u64 hi) (h2 : u64 lo) (acc : List Int) (hl : acc.length ≤ 100000000) : Ev (fun k => PRefD.flocculusref21_prefix.f k acc hi lo len) (acc ++ prefB hi lo len) := by
  obtain ⟨K1, e1⟩ := fnumD_ev hi h1 8 acc (by omega) (by omega)
  obtain ⟨K2, e2⟩ := fnumD_ev lo h2 8 (acc ++ be 8 hi) (by omega) (by rw [List.length_append, be_length]; omega)
  obtain ⟨K3, e3⟩ := fnumD_ev (w64 len) (w64_range len) 1 (acc ++ be 8 hi ++ be 8 lo) (by omega) (by simp only [List.length_append, be_length]; omega)
  refine ⟨K1 + K2 + K3, fun k hk => ?_⟩
  have f1 : PRefD.flocculusref21_num.f k acc hi 8 = some (acc ++ be 8 hi) := e1 k (by omega)
  have f2 : PRefD.flocculusref21_num.f k (acc ++ be 8 hi) lo 8 = some (acc ++ be 8 hi ++ be 8 lo) := e2 k (by omega)
  have f3 : PRefD.flocculusref21_num.f k (acc ++ be 8 hi ++ be 8 lo) (IntKind.u64.wrap len) 1 = some (acc ++ be 8 hi ++ be 8 lo ++ be 1 (w64 len)) := e3 k (by omega)
  show PRefD.flocculusref21_prefix.f k acc hi lo len = some (acc ++ prefB hi lo len)
  unfold PRefD.flocculusref21_prefix.f
  rw [f1, Option.bind_some, f2, Option.bind_some, f3, Option.bind_some]
  unfold prefB
  simp only [List.append_assoc]
theorem fitsD_f (n : Int) : PRefD.flocculusref21_fits.f n = some (!fitX n) := by
  unfold PRefD.flocculusref21_fits.f fitX
  by_cases h : n ≥ 0
  · rw [if_pos h, decide_eq_false (show ¬ n < 0 by omega)]
    by_cases h2 : n < 2147483648
    · rw [decide_eq_true h2, decide_eq_false (show ¬ 2147483647 < n by omega)]; rfl
    · rw [decide_eq_false h2, decide_eq_true (show 2147483647 < n by omega)]; rfl
  · rw [if_neg h, decide_eq_true (show n < 0 by omega)]; rfl

def rpF (k : Nat) (x : Rp) : Option (List Int) := PRefD.flocculusref21_ReplyBytes.f k x.e x.hop x.n x.at_ x.P x.R
def r0F (k : Nat) (b : Bool) (x : Rp) : Option (List Int) := PRefD.flocculusref21_ReplyBytes.j0 k b x.e x.hop x.n x.at_ x.P x.R
def rlF (k : Nat) (acc : List Int) (i : Int) (x : Rp) : Option (List Int) := PRefD.flocculusref21_ReplyBytes.l0 k acc i x.e x.hop x.n x.at_ x.P x.R
def rmF (k : Nat) (acc : List Int) (i : Int) (x : Rp) : Option (List Int) := PRefD.flocculusref21_ReplyBytes.l1 k acc i x.e x.hop x.n x.at_ x.P x.R
def rjF (k : Nat) (acc : List Int) (i : Int) (b : Bool) (x : Rp) (y : PRefD.S70) : Option (List Int) := PRefD.flocculusref21_ReplyBytes.j3 k acc i b x.e x.hop x.n x.at_ x.P x.R y.f0.f0.f0 y.f0.f0.f1 y.f0.f1 y.f1
theorem rd70_at (l : List PRefD.S70) (i : Nat) (hi : i < l.length) : PRefD.rd_T70 l (i : Int) = l[i] := by
  unfold PRefD.rd_T70
  rw [List.getD_eq_getElem?_getD, Int.toNat_natCast, List.getElem?_eq_getElem hi]; rfl
theorem rdI_at (l : List Int) (i : Nat) (hi : i < l.length) : rd l (i : Int) = l[i] := by
  unfold rd
  rw [List.getD_eq_getElem?_getD, Int.toNat_natCast, List.getElem?_eq_getElem hi]; rfl
theorem rmF_end (k : Nat) (acc : List Int) (i : Nat) (x : Rp) (h : i = x.R.length) : rmF (k + 1) acc i x = some acc := by
  unfold rmF
  simp only [PRefD.flocculusref21_ReplyBytes.l1]
  rw [if_neg (by omega)]
theorem rmF_step (k : Nat) (acc : List Int) (i : Nat) (x : Rp) (y : PRefD.S70) (h : i < x.R.length) (hy : y = PRefD.rd_T70 x.R (i : Int)) : rmF (k + 1) acc i x = rjF k acc i (rtX y) x y := by
  unfold rmF rjF
  simp only [PRefD.flocculusref21_ReplyBytes.l1]
  rw [if_pos (by omega), if_pos (by omega), ← hy]
  unfold rtX prefX
  by_cases c1 : y.f0.f1 < 0
  · rw [if_pos c1, decide_eq_true c1]; rfl
  · by_cases c2 : y.f0.f1 > 255
    · rw [if_neg c1, if_pos c2, decide_eq_false c1, decide_eq_true (show 255 < y.f0.f1 from c2)]; rfl
    · rw [if_neg c1, if_neg c2, fitsD_f, Option.bind_some, decide_eq_false c1, decide_eq_false (show ¬ 255 < y.f0.f1 from c2), Bool.not_not]; rfl
theorem rjF_bad (k : Nat) (acc : List Int) (i : Int) (x : Rp) (y : PRefD.S70) : rjF (k + 1) acc i true x y = some [] := by
  unfold rjF
  simp only [PRefD.flocculusref21_ReplyBytes.j3]
  rw [if_pos trivial]
theorem rjF_good (k : Nat) (acc : List Int) (i : Int) (x : Rp) (y : PRefD.S70) : rjF (k + 1) acc i false x y = (PRefD.flocculusref21_prefix.f k acc y.f0.f0.f0 y.f0.f0.f1 y.f0.f1).bind fun t => (PRefD.flocculusref21_num.f k t (IntKind.u64.wrap y.f1) 4).bind fun t2 => rmF k t2 (wrap64 (i + 1)) x := by
  unfold rjF rmF
  simp only [PRefD.flocculusref21_ReplyBytes.j3]
  rw [if_neg Bool.false_ne_true]
theorem rtB_length (y : PRefD.S70) : (rtB y).length = 21 := by unfold rtB; rw [List.length_append, prefB_length, be_length]
/-- The routes from i on. -/
theorem rm_ev (x : Rp) (hl : x.R.length ≤ 65535) (ho : ∀ y ∈ x.R, okRt y) : ∀ (d i : Nat) (acc : List Int), i + d = x.R.length → acc.length ≤ 1000 + 21 * i →
    Ev (fun k => rmF k acc (i : Int) x) (if (x.R.drop i).any rtX = true then [] else acc ++ (x.R.drop i).flatMap rtB)
  | 0, i, acc, hi, _ => by
    refine ⟨1, fun k hk => ?_⟩
    obtain ⟨k, rfl⟩ : ∃ k', k = k' + 1 := ⟨k - 1, by omega⟩
    show rmF (k + 1) acc (i : Int) x = _
    rw [rmF_end _ _ _ _ (by omega), List.drop_eq_nil_of_le (by omega)]
    simp
  | d + 1, i, acc, hi, ha => by
    have hil : i < x.R.length := by omega
    obtain ⟨y, hye⟩ : ∃ y, y = PRefD.rd_T70 x.R (i : Int) := ⟨_, rfl⟩
    have hy : okRt y := by rw [hye, rd70_at _ _ hil]; exact ho _ (List.getElem_mem hil)
    have hd : x.R.drop i = y :: x.R.drop (i + 1) := by rw [hye, rd70_at _ _ hil]; exact List.drop_eq_getElem_cons hil
    rw [hd, List.any_cons, List.flatMap_cons]
    by_cases hX : rtX y = true
    · refine ⟨2, fun k hk3 => ?_⟩
      obtain ⟨k, rfl⟩ : ∃ k', k = k' + 2 := ⟨k - 2, by omega⟩
      show rmF (k + 2) acc (i : Int) x = _
      rw [rmF_step _ _ _ _ y hil hye, hX, rjF_bad, Bool.true_or, if_pos rfl]
    · have hXf : rtX y = false := by cases h : rtX y with | true => exact absurd h hX | false => rfl
      obtain ⟨K1, e1⟩ := fpreD_ev y.f0.f0.f0 y.f0.f0.f1 y.f0.f1 hy.1 hy.2 acc (by omega)
      obtain ⟨K2, e2⟩ := fnumD_ev (w64 y.f1) (w64_range y.f1) 4 (acc ++ prefB y.f0.f0.f0 y.f0.f0.f1 y.f0.f1) (by omega) (by rw [List.length_append, prefB_length]; omega)
      obtain ⟨K3, e3⟩ := rm_ev x hl ho d (i + 1) (acc ++ rtB y) (by omega) (by rw [List.length_append, rtB_length]; omega)
      refine ⟨K1 + K2 + K3 + 2, fun k hk3 => ?_⟩
      obtain ⟨k, rfl⟩ : ∃ k', k = k' + 2 := ⟨k - 2, by omega⟩
      have g1 : PRefD.flocculusref21_prefix.f k acc y.f0.f0.f0 y.f0.f0.f1 y.f0.f1 = some _ := e1 k (by omega)
      have g2 : PRefD.flocculusref21_num.f k (acc ++ prefB y.f0.f0.f0 y.f0.f0.f1 y.f0.f1) (IntKind.u64.wrap y.f1) 4 = some _ := e2 k (by omega)
      have g3 : rmF k (acc ++ rtB y) ((i + 1 : Nat) : Int) x = _ := e3 k (by omega)
      have eB : acc ++ prefB y.f0.f0.f0 y.f0.f0.f1 y.f0.f1 ++ be 4 (w64 y.f1) = acc ++ rtB y := by unfold rtB; rw [List.append_assoc]
      show rmF (k + 2) acc (i : Int) x = _
      rw [rmF_step _ _ _ _ y hil hye, hXf, rjF_good, g1, Option.bind_some, g2, Option.bind_some, eB, wrap_of (by omega) (by omega), show (i : Int) + 1 = ((i + 1 : Nat) : Int) by omega, g3, Bool.false_or, List.append_assoc]
theorem rlF_end (k : Nat) (acc : List Int) (i : Nat) (x : Rp) (h : i = x.P.length) : rlF (k + 1) acc i x = (PRefD.flocculusref21_num.f k acc (IntKind.u64.wrap (x.R.length : Int)) 2).bind fun t => rmF k t 0 x := by
  unfold rlF rmF
  simp only [PRefD.flocculusref21_ReplyBytes.l0]
  rw [if_neg (by omega)]
theorem rlF_step (k : Nat) (acc : List Int) (i : Nat) (x : Rp) (p : Int) (h : i < x.P.length) (hp : p = rd x.P (i : Int)) (ha : acc.length < 140737488355328) : rlF (k + 1) acc i x = if pX p = true then some [] else rlF k (acc ++ [p % 256]) (wrap64 ((i : Int) + 1)) x := by
  unfold rlF
  simp only [PRefD.flocculusref21_ReplyBytes.l0]
  rw [if_pos (by omega), if_pos (by omega), ← hp, if_pos ha]
  unfold pX
  by_cases c1 : p < 0
  · rw [if_pos c1, decide_eq_true c1]; rfl
  · by_cases c2 : p > 255
    · rw [if_neg c1, if_pos c2, decide_eq_false c1, decide_eq_true (show 255 < p from c2)]; rfl
    · rw [if_neg c1, if_neg c2, decide_eq_false c1, decide_eq_false (show ¬ 255 < p from c2)]; rfl
/-- The probes from i on, and the routes behind them. -/
theorem rl_ev (x : Rp) (hP : x.P.length ≤ 255) (hl : x.R.length ≤ 65535) (ho : ∀ y ∈ x.R, okRt y) : ∀ (d i : Nat) (acc : List Int), i + d = x.P.length → acc.length ≤ 100 + i →
    Ev (fun k => rlF k acc (i : Int) x) (if ((x.P.drop i).any pX || x.R.any rtX) = true then [] else acc ++ ((x.P.drop i).map (· % 256) ++ (be 2 (w64 x.R.length) ++ x.R.flatMap rtB)))
  | 0, i, acc, hi, ha => by
    obtain ⟨K1, e1⟩ := fnumD_ev (w64 x.R.length) (w64_range _) 2 acc (by omega) (by omega)
    obtain ⟨K2, e2⟩ := rm_ev x hl ho x.R.length 0 (acc ++ be 2 (w64 x.R.length)) (by omega) (by rw [List.length_append, be_length]; omega)
    refine ⟨K1 + K2 + 1, fun k hk => ?_⟩
    obtain ⟨k, rfl⟩ : ∃ k', k = k' + 1 := ⟨k - 1, by omega⟩
    have g1 : PRefD.flocculusref21_num.f k acc (IntKind.u64.wrap (x.R.length : Int)) 2 = some (acc ++ be 2 (w64 x.R.length)) := e1 k (by omega)
    have g2 : rmF k (acc ++ be 2 (w64 x.R.length)) ((0 : Nat) : Int) x = _ := e2 k (by omega)
    show rlF (k + 1) acc (i : Int) x = _
    rw [rlF_end _ _ _ _ (by omega), g1, Option.bind_some, List.drop_eq_nil_of_le (show x.P.length ≤ i by omega)]
    refine g2.trans ?_
    rw [List.drop_zero]
    simp [List.append_assoc]
  | d + 1, i, acc, hi, ha => by
    have hil : i < x.P.length := by omega
    obtain ⟨p, hpe⟩ : ∃ p, p = rd x.P (i : Int) := ⟨_, rfl⟩
    have hd : x.P.drop i = p :: x.P.drop (i + 1) := by rw [hpe, rdI_at _ _ hil]; exact List.drop_eq_getElem_cons hil
    rw [hd, List.any_cons, List.map_cons]
    by_cases hX : pX p = true
    · refine ⟨1, fun k hk3 => ?_⟩
      obtain ⟨k, rfl⟩ : ∃ k', k = k' + 1 := ⟨k - 1, by omega⟩
      show rlF (k + 1) acc (i : Int) x = _
      rw [rlF_step _ _ _ _ p hil hpe (by omega), if_pos hX, hX]
      rfl
    · have hXf : pX p = false := by cases h : pX p with | true => exact absurd h hX | false => rfl
      obtain ⟨K3, e3⟩ := rl_ev x hP hl ho d (i + 1) (acc ++ [p % 256]) (by omega) (by rw [List.length_append]; simp only [List.length_cons, List.length_nil]; omega)
      refine ⟨K3 + 1, fun k hk3 => ?_⟩
      obtain ⟨k, rfl⟩ : ∃ k', k = k' + 1 := ⟨k - 1, by omega⟩
      have g3 : rlF k (acc ++ [p % 256]) ((i + 1 : Nat) : Int) x = _ := e3 k (by omega)
      show rlF (k + 1) acc (i : Int) x = _
      rw [rlF_step _ _ _ _ p hil hpe (by omega), if_neg hX, wrap_of (by omega) (by omega), show (i : Int) + 1 = ((i + 1 : Nat) : Int) by omega, g3, hXf, Bool.false_or]
      simp [List.append_assoc]
theorem r0F_bad (k : Nat) (x : Rp) : r0F (k + 1) true x = some [] := by
  unfold r0F
  simp only [PRefD.flocculusref21_ReplyBytes.j0]
  rw [if_pos trivial]
theorem r0F_good (k : Nat) (x : Rp) : r0F (k + 1) false x = (PRefD.flocculusref21_num.f k [x.e % 256] (IntKind.u64.wrap (wrap64 (x.hop + 1))) 4).bind fun t1 => (PRefD.flocculusref21_num.f k t1 (IntKind.u64.wrap x.n) 4).bind fun t2 => (PRefD.flocculusref21_num.f k t2 (IntKind.u64.wrap x.at_) 4).bind fun t3 => if t3.length < 140737488355328 then rlF k (t3 ++ [(x.P.length : Int) % 256]) 0 x else none := by
  unfold r0F rlF
  simp only [PRefD.flocculusref21_ReplyBytes.j0]
  rw [if_neg Bool.false_ne_true]
def hdX (x : Rp) : Bool := (decide (x.e < 0) || decide (8 < x.e)) || ((decide (x.hop < -1) || decide (2147483647 < x.hop)) || (fitX x.n || (fitX x.at_ || (decide (255 < x.P.length) || decide (65535 < x.R.length)))))
theorem rpX_hd (x : Rp) : rpX x = (hdX x || (x.P.any pX || x.R.any rtX)) := by unfold rpX hdX; simp only [Bool.or_assoc]
theorem rpF_eq (k : Nat) (x : Rp) : rpF k x = r0F k (hdX x) x := by
  unfold rpF r0F hdX PRefD.flocculusref21_ReplyBytes.f
  by_cases c1 : x.e < 0
  · rw [if_pos c1, decide_eq_true c1]; simp
  rw [if_neg c1, decide_eq_false c1]
  by_cases c2 : x.e > 8
  · rw [if_pos c2, decide_eq_true (show 8 < x.e from c2)]; simp
  rw [if_neg c2, decide_eq_false (show ¬ 8 < x.e from c2)]
  by_cases c3 : x.hop < -1
  · rw [if_pos c3, decide_eq_true c3]; simp
  rw [if_neg c3, decide_eq_false c3]
  by_cases c4 : x.hop > 2147483647
  · rw [if_pos c4, decide_eq_true (show 2147483647 < x.hop from c4)]; simp
  rw [if_neg c4, decide_eq_false (show ¬ 2147483647 < x.hop from c4), fitsD_f, Option.bind_some]
  cases h5 : fitX x.n with
  | true => simp
  | false =>
    rw [Bool.not_false, if_pos rfl, fitsD_f, Option.bind_some]
    cases h6 : fitX x.at_ with
    | true => simp
    | false =>
      rw [Bool.not_false, if_pos rfl]
      by_cases c7 : (x.P.length : Int) > 255
      · rw [if_pos c7, decide_eq_true (show 255 < x.P.length by omega)]; simp
      rw [if_neg c7, decide_eq_false (show ¬ 255 < x.P.length by omega)]
      have : decide ((x.R.length : Int) > 65535) = decide (65535 < x.R.length) := by
        by_cases c8 : 65535 < x.R.length
        · rw [decide_eq_true c8, decide_eq_true (show (x.R.length : Int) > 65535 by omega)]
        · rw [decide_eq_false c8, decide_eq_false (show ¬ (x.R.length : Int) > 65535 by omega)]
      rw [this]; simp
/-- The reference's bytes of any reply. -/
theorem rp_any (x : Rp) (ho : ∀ y ∈ x.R, okRt y) : Ev (fun k => rpF k x) (encR x) := by
  unfold encR
  rw [rpX_hd]
  cases hX : hdX x with
  | true =>
    refine ⟨1, fun k hk => ?_⟩
    obtain ⟨k, rfl⟩ : ∃ k', k = k' + 1 := ⟨k - 1, by omega⟩
    show rpF (k + 1) x = _
    rw [rpF_eq, hX, r0F_bad]; rfl
  | false =>
    have h := hX
    unfold hdX at h
    obtain ⟨_, h⟩ := orf h
    obtain ⟨_, h⟩ := orf h
    obtain ⟨_, h⟩ := orf h
    obtain ⟨_, h⟩ := orf h
    obtain ⟨a5, a6⟩ := orf h
    have a5 := of_decide_eq_false a5
    have a6 := of_decide_eq_false a6
    have eb : be 1 x.e = [x.e % 256] := by show [x.e / 2 ^ (8 * 0) % 256] = _; simp
    have eP : be 1 (w64 (x.P.length : Int)) = [(x.P.length : Int) % 256] := by
      rw [w64_small (by omega) (by omega)]
      show [(x.P.length : Int) / 2 ^ (8 * 0) % 256] = _
      simp
    obtain ⟨K1, e1⟩ := fnumD_ev (w64 (wrap64 (x.hop + 1))) (w64_range _) 4 [x.e % 256] (by omega) (by simp only [List.length_cons, List.length_nil]; omega)
    obtain ⟨K2, e2⟩ := fnumD_ev (w64 x.n) (w64_range _) 4 ([x.e % 256] ++ be 4 (w64 (wrap64 (x.hop + 1)))) (by omega) (by simp only [List.length_append, be_length, List.length_cons, List.length_nil]; omega)
    obtain ⟨K3, e3⟩ := fnumD_ev (w64 x.at_) (w64_range _) 4 ([x.e % 256] ++ be 4 (w64 (wrap64 (x.hop + 1))) ++ be 4 (w64 x.n)) (by omega) (by simp only [List.length_append, be_length, List.length_cons, List.length_nil]; omega)
    have hlen : ([x.e % 256] ++ be 4 (w64 (wrap64 (x.hop + 1))) ++ be 4 (w64 x.n) ++ be 4 (w64 x.at_)).length = 13 := by simp only [List.length_append, be_length]; rfl
    obtain ⟨K4, e4⟩ := rl_ev x (by omega) (by omega) ho x.P.length 0 ([x.e % 256] ++ be 4 (w64 (wrap64 (x.hop + 1))) ++ be 4 (w64 x.n) ++ be 4 (w64 x.at_) ++ [(x.P.length : Int) % 256]) (by omega) (by rw [List.length_append, hlen]; simp only [List.length_cons, List.length_nil]; omega)
    refine ⟨K1 + K2 + K3 + K4 + 1, fun k hk => ?_⟩
    obtain ⟨k, rfl⟩ : ∃ k', k = k' + 1 := ⟨k - 1, by omega⟩
    have g1 : PRefD.flocculusref21_num.f k [x.e % 256] (IntKind.u64.wrap (wrap64 (x.hop + 1))) 4 = some _ := e1 k (by omega)
    have g2 : PRefD.flocculusref21_num.f k ([x.e % 256] ++ be 4 (w64 (wrap64 (x.hop + 1)))) (IntKind.u64.wrap x.n) 4 = some _ := e2 k (by omega)
    have g3 : PRefD.flocculusref21_num.f k ([x.e % 256] ++ be 4 (w64 (wrap64 (x.hop + 1))) ++ be 4 (w64 x.n)) (IntKind.u64.wrap x.at_) 4 = some _ := e3 k (by omega)
    have g4 : rlF k ([x.e % 256] ++ be 4 (w64 (wrap64 (x.hop + 1))) ++ be 4 (w64 x.n) ++ be 4 (w64 x.at_) ++ [(x.P.length : Int) % 256]) ((0 : Nat) : Int) x = _ := e4 k (by omega)
    show rpF (k + 1) x = _
    rw [rpF_eq, hX, r0F_good, g1, Option.bind_some, g2, Option.bind_some, g3, Option.bind_some, if_pos (by rw [hlen]; decide)]
    refine g4.trans ?_
    unfold rpB
    rw [List.drop_zero, eb, eP, Bool.false_or]
    simp [List.append_assoc]
end Go.Proofs.Ytliighhedmfgjaa.Cmd
