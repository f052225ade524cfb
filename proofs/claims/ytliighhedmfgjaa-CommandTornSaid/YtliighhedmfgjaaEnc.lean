/- The reference's bytes of a command, for its functions as they are printed: the same bytes. -/
import Derived.Test.YtliighhedmfgjaaPl
import Derived.Test.YtliighhedmfgjaaPRefCx3
namespace Go.Proofs.Ytliighhedmfgjaa.Cmd
open Go.RowKit Go.Proofs.Ytliighhedmfgjaa.PRefC Go.Proofs.YtliighhedmfgjaaW.PrintWords Go.Proofs.YtliighhedmfgjaaW.PrintLast Go.Proofs.YtliighhedmfgjaaW.PrintMore

theorem and255 (x : Int) (h0 : 0 ≤ x) (h1 : x < 18446744073709551616) : bits .and .u64 x 255 = x % 256 := bits_mask .u64 64 (by decide) wraps64 8 (by decide) x h0 h1
theorem num_ev (n : Int) (hn : u64 n) : ∀ (j : Nat) (acc : List Int), j ≤ 8 → acc.length + j ≤ 1000000 → Ev (fun k => flocculusref21_num.l0 k acc n ((j : Int) - 1)) (acc ++ be j n)
  | 0, acc, _, _ => by
    refine ⟨1, fun k hk => ?_⟩
    obtain ⟨k, rfl⟩ : ∃ k', k = k' + 1 := ⟨k - 1, by omega⟩
    show flocculusref21_num.l0 (k + 1) acc n _ = some (acc ++ be 0 n)
    simp only [flocculusref21_num.l0]
    rw [if_neg (by omega)]
    simp [be]
  | j + 1, acc, hj, hl => by
    have ih := num_ev n hn j (acc ++ [n / 2 ^ (8 * j) % 256]) (by omega) (by rw [List.length_append]; simp only [List.length_cons, List.length_nil]; omega)
    have ex : (((j + 1 : Nat) : Int) - 1) = (j : Int) := by omega
    have ew : wrap64 (8 * (j : Int)) = 8 * (j : Int) := wrap_of (by omega) (by omega)
    have e64 : (2 : Int) ^ 64 = 18446744073709551616 := by decide
    have eu : IntKind.u64.wrap (8 * (j : Int)) = 8 * (j : Int) := wraps64 _ (by omega) (by rw [e64]; omega)
    have es : shr .u64 n (8 * (j : Int)) = n / 2 ^ (8 * j) := by
      unfold shr
      rw [Nat.min_eq_left (by show (8 * (j : Int)).toNat ≤ 64; omega), show (8 * (j : Int)).toNat = 8 * j by omega]
    have hp : (0 : Int) < 2 ^ (8 * j) := Int.pow_pos (by decide)
    have h0 : 0 ≤ n / 2 ^ (8 * j) := Int.ediv_nonneg hn.1 (by omega)
    have h1 : n / 2 ^ (8 * j) < 18446744073709551616 := by
      have h2 : n / 2 ^ (8 * j) ≤ n := Int.ediv_le_self _ hn.1
      have := hn.2
      omega
    have ed : wrap64 ((j : Int) - 1) = (j : Int) - 1 := wrap_of (by omega) (by omega)
    refine Ev.step (f := fun k => flocculusref21_num.l0 k (acc ++ [n / 2 ^ (8 * j) % 256]) n ((j : Int) - 1)) (fun k => ?_) (by
      have e : acc ++ be (j + 1) n = acc ++ [n / 2 ^ (8 * j) % 256] ++ be j n := by simp [be]
      rw [e]
      exact ih)
    simp only [flocculusref21_num.l0]
    rw [ex, if_pos (by omega), ew, eu, if_pos (by omega), if_pos (by omega), es, and255 _ h0 h1, Int.emod_emod_of_dvd _ (by decide), ed]
theorem fnum_ev (n : Int) (hn : u64 n) (j : Nat) (acc : List Int) (hj : j ≤ 8) (hl : acc.length + j ≤ 1000000) : Ev (fun k => flocculusref21_num.f k acc n j) (acc ++ be j n) := by
  obtain ⟨K, hK⟩ := num_ev n hn j acc hj hl
  refine ⟨K, fun k hk => ?_⟩
  have h : flocculusref21_num.l0 k acc n ((j : Int) - 1) = some (acc ++ be j n) := hK k hk
  show flocculusref21_num.f k acc n j = some (acc ++ be j n)
  unfold flocculusref21_num.f
  rw [wrap_of (by omega) (by omega)]
  exact h
theorem fpre_ev (hi lo len : Int) (h1 : u64 hi) (h2 : u64 lo) (acc : List Int) (hl : acc.length ≤ 100000) : Ev (fun k => flocculusref21_prefix.f k acc hi lo len) (acc ++ prefB hi lo len) := by
  obtain ⟨K1, e1⟩ := fnum_ev hi h1 8 acc (by omega) (by omega)
  obtain ⟨K2, e2⟩ := fnum_ev lo h2 8 (acc ++ be 8 hi) (by omega) (by rw [List.length_append, be_length]; omega)
  obtain ⟨K3, e3⟩ := fnum_ev (w64 len) (w64_range len) 1 (acc ++ be 8 hi ++ be 8 lo) (by omega) (by simp only [List.length_append, be_length]; omega)
  refine ⟨K1 + K2 + K3, fun k hk => ?_⟩
  have f1 : flocculusref21_num.f k acc hi 8 = some (acc ++ be 8 hi) := e1 k (by omega)
  have f2 : flocculusref21_num.f k (acc ++ be 8 hi) lo 8 = some (acc ++ be 8 hi ++ be 8 lo) := e2 k (by omega)
  have f3 : flocculusref21_num.f k (acc ++ be 8 hi ++ be 8 lo) (IntKind.u64.wrap len) 1 = some (acc ++ be 8 hi ++ be 8 lo ++ be 1 (w64 len)) := e3 k (by omega)
  show flocculusref21_prefix.f k acc hi lo len = some (acc ++ prefB hi lo len)
  unfold flocculusref21_prefix.f
  rw [f1, Option.bind_some, f2, Option.bind_some, f3, Option.bind_some]
  unfold prefB
  simp only [List.append_assoc]
theorem fits_f (n : Int) : flocculusref21_fits.f n = some (!fitX n) := by
  unfold flocculusref21_fits.f fitX
  by_cases h : n ≥ 0
  · rw [if_pos h, decide_eq_false (show ¬ n < 0 by omega)]
    by_cases h2 : n < 2147483648
    · rw [decide_eq_true h2, decide_eq_false (show ¬ 2147483647 < n by omega)]; rfl
    · rw [decide_eq_false h2, decide_eq_true (show 2147483647 < n by omega)]; rfl
  · rw [if_neg h, decide_eq_true (show n < 0 by omega)]; rfl
end Go.Proofs.Ytliighhedmfgjaa.Cmd
