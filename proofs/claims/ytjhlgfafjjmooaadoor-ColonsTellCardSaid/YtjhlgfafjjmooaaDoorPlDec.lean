/- How the document writes a number in decimal. Plain. -/
import Derived.Test.YtjhlgfafjjmooaaDoorPlSplit
import Derived.Test.YtjhlgfafjjmooaaDoorRefDec
import Derived.Test.YtjhlgfafjjmooaaDoorShow
namespace Go.Proofs.YtjhlgfafjjmooaaDoor.Dot
open Go.RowKit Go.Proofs.YtjhlgfafjjmooaaDoor.PCidrTells Go.Proofs.YtjhlgfafjjmooaaDoorW.PrintWords Go.Proofs.YtjhlgfafjjmooaaDoorW.PrintLast Go.Proofs.YtjhlgfafjjmooaaDoorW.PrintMore

theorem dec_key : (List.range 256).all (fun n => match flocculusref1_Dec.f 4 (n : Int) with | some x => x.data.toList == Lib.itoa (n : Int) | none => false) = true := by kernel_rfl
theorem dec_up (n : Int) (r : ByteArray) : ∀ d, flocculusref1_Dec.f 4 n = some r → flocculusref1_Dec.f (4 + d) n = some r
  | 0, h => h
  | d + 1, h => flocculusref1_Dec.mono n (4 + d) r (dec_up n r d h)
theorem dec_is (k n : Nat) (hn : n < 256) (hk : 4 ≤ k) : flocculusref1_Dec.f k (n : Int) = some (txt (n : Int)) := by
  have h := List.all_eq_true.mp dec_key n (List.mem_range.mpr hn)
  cases hd : flocculusref1_Dec.f 4 (n : Int) with
  | none => rw [hd] at h; cases h
  | some x =>
    rw [hd] at h
    have hx : x = txt (n : Int) := by
      have h2 : x.data.toList = Lib.itoa (n : Int) := by simpa using h
      rw [← ba_of x, h2]; rfl
    have := dec_up _ _ (k - 4) hd
    rw [show 4 + (k - 4) = k by omega, hx] at this
    exact this
theorem txt_size (n : Nat) (h : n < 256) : (txt (n : Int)).size ≤ 3 := by
  unfold txt
  rw [ba_size]
  exact itoa_byte (by omega) (by omega)
end Go.Proofs.YtjhlgfafjjmooaaDoor.Dot
