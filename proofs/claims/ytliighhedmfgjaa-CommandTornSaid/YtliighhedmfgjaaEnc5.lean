/- The reference's bytes of a batch, and of any command. -/
import Derived.Test.YtliighhedmfgjaaEnc4
namespace Go.Proofs.Ytliighhedmfgjaa.Cmd
open Go.RowKit Go.Proofs.Ytliighhedmfgjaa.PRefC Go.Proofs.YtliighhedmfgjaaW.PrintWords Go.Proofs.YtliighhedmfgjaaW.PrintLast Go.Proofs.YtliighhedmfgjaaW.PrintMore

theorem encP_edit (x : S29) (hk : x.f0 = 1 ∨ x.f0 = 2) : encP x = if edX x = true then [] else edB x := by
  obtain ⟨f0, f1, f2, ⟨⟨hi, lo⟩, len⟩, ⟨ahi, alo⟩, seed, l⟩ := x
  dsimp only at hk
  rcases hk with rfl | rfl <;> rfl
theorem edB_pos (x : S29) : 1 ≤ (edB x).length := by rw [edB_eq, List.length_append, be_length]; omega
def lF (k : Nat) (acc : List Int) (i : Int) (c : S29) : Option (List Int) := flocculusref21_CommandBytes.l0 k acc i c.f0 c.f1 c.f2 c.f3.f0.f0 c.f3.f0.f1 c.f3.f1 c.f4.f0 c.f4.f1 c.f5 c.f6
def jF (k : Nat) (acc : List Int) (i : Int) (b : Bool) (c : S29) : Option (List Int) := flocculusref21_CommandBytes.j4 k acc i b c.f0 c.f1 c.f2 c.f3.f0.f0 c.f3.f0.f1 c.f3.f1 c.f4.f0 c.f4.f1 c.f5 c.f6
theorem lF_end (k : Nat) (acc : List Int) (i : Nat) (c : S29) (h : i = c.f6.length) : lF (k + 1) acc i c = some acc := by
  unfold lF
  simp only [flocculusref21_CommandBytes.l0]
  rw [if_neg (by omega)]
theorem lF_edit (k : Nat) (acc : List Int) (i : Nat) (c x : S29) (h : i < c.f6.length) (hx : x = rd_T29 c.f6 (i : Int)) (hk : x.f0 = 1 ∨ x.f0 = 2) : lF (k + 1) acc i c = jF k acc i false c := by
  unfold lF jF
  simp only [flocculusref21_CommandBytes.l0]
  rw [if_pos (by omega), if_pos (by omega), ← hx]
  rcases hk with h | h
  · rw [if_pos h]
  · rw [if_neg (by omega), h]; rfl
theorem lF_else (k : Nat) (acc : List Int) (i : Nat) (c x : S29) (h : i < c.f6.length) (hx : x = rd_T29 c.f6 (i : Int)) (hk : ¬ (x.f0 = 1 ∨ x.f0 = 2)) : lF (k + 2) acc i c = some [] := by
  unfold lF
  simp only [flocculusref21_CommandBytes.l0]
  rw [if_pos (by omega), if_pos (by omega), ← hx, if_neg (by omega)]
  have : (x.f0 != 2) = true := by simp only [bne_iff_ne, ne_eq]; omega
  rw [this]
  simp only [flocculusref21_CommandBytes.j4]
  rw [if_pos trivial]
theorem jF_step (k : Nat) (acc : List Int) (i : Nat) (c x : S29) (h : i < c.f6.length) (hx : x = rd_T29 c.f6 (i : Int)) : jF (k + 1) acc i false c = (cbF k x).bind fun t => if (t.length : Int) = 0 then some [] else if acc.length + t.length < 140737488355328 then lF k (acc ++ t) (wrap64 ((i : Int) + 1)) c else none := by
  unfold jF lF cbF
  simp only [flocculusref21_CommandBytes.j4]
  rw [if_neg Bool.false_ne_true, if_pos (by omega), if_pos (by omega), ← hx]
/-- The items from i on. -/
theorem cb_l (c : S29) (hl : c.f6.length ≤ 20) (hb : ∀ x ∈ c.f6, okA x) : ∀ (d i : Nat) (acc : List Int), i + d = c.f6.length → acc.length ≤ 2 + 22 * i →
    Ev (fun k => lF k acc (i : Int) c) (if (c.f6.drop i).any edX = true then [] else acc ++ (c.f6.drop i).flatMap edB)
  | 0, i, acc, hi, _ => by
    refine ⟨1, fun k hk => ?_⟩
    obtain ⟨k, rfl⟩ : ∃ k', k = k' + 1 := ⟨k - 1, by omega⟩
    show lF (k + 1) acc (i : Int) c = _
    rw [lF_end _ _ _ _ (by omega), List.drop_eq_nil_of_le (by omega)]
    simp
  | d + 1, i, acc, hi, ha => by
    have hil : i < c.f6.length := by omega
    obtain ⟨x, hxe⟩ : ∃ x, x = rd_T29 c.f6 (i : Int) := ⟨_, rfl⟩
    have hx : okA x := by rw [hxe, rd_at _ _ hil]; exact hb _ (List.getElem_mem hil)
    have hd : c.f6.drop i = x :: c.f6.drop (i + 1) := by rw [hxe, rd_at _ _ hil]; exact List.drop_eq_getElem_cons hil
    rw [hd, List.any_cons, List.flatMap_cons]
    by_cases hk : x.f0 = 1 ∨ x.f0 = 2
    · obtain ⟨K1, e1⟩ := cb_edit x hx hk
      by_cases hX : edX x = true
      · refine ⟨K1 + 3, fun k hk3 => ?_⟩
        obtain ⟨k, rfl⟩ : ∃ k', k = k' + 2 := ⟨k - 2, by omega⟩
        have g1 : cbF k x = some (encP x) := e1 k (by omega)
        rw [encP_edit x hk, if_pos hX] at g1
        show lF (k + 2) acc (i : Int) c = _
        rw [lF_edit _ _ _ _ x hil hxe hk, jF_step _ _ _ _ x hil hxe, g1, hX, Bool.true_or, if_pos rfl]
        rfl
      · have hXf : edX x = false := by cases h : edX x with | true => exact absurd h hX | false => rfl
        have hp := edB_pos x
        have hle := edB_length x
        obtain ⟨K2, e2⟩ := cb_l c hl hb d (i + 1) (acc ++ edB x) (by omega) (by rw [List.length_append]; omega)
        refine ⟨K1 + K2 + 3, fun k hk3 => ?_⟩
        obtain ⟨k, rfl⟩ : ∃ k', k = k' + 2 := ⟨k - 2, by omega⟩
        have g1 : cbF k x = some (encP x) := e1 k (by omega)
        rw [encP_edit x hk, if_neg hX] at g1
        have g2 : lF k (acc ++ edB x) ((i + 1 : Nat) : Int) c = _ := e2 k (by omega)
        show lF (k + 2) acc (i : Int) c = _
        rw [lF_edit _ _ _ _ x hil hxe hk, jF_step _ _ _ _ x hil hxe, g1, hXf, Bool.false_or, Option.bind_some, if_neg (by omega), if_pos (by omega), wrap_of (by omega) (by omega)]
        rw [show (i : Int) + 1 = ((i + 1 : Nat) : Int) by omega, g2, List.append_assoc]
    · refine ⟨2, fun k hk3 => ?_⟩
      obtain ⟨k, rfl⟩ : ∃ k', k = k' + 2 := ⟨k - 2, by omega⟩
      have hX : edX x = true := by
        unfold edX editX
        rw [if_neg (by omega), if_neg (by omega)]
      show lF (k + 2) acc (i : Int) c = _
      rw [lF_else _ _ _ _ x hil hxe hk, hX, Bool.true_or, if_pos rfl]
theorem cb_batch (c : S29) (hb : ∀ x ∈ c.f6, okA x) (hk : c.f0 = 7) : Ev (fun k => cbF k c) (encP c) := by
  have hX : cmdX c = batchX c.f6 := by
    unfold cmdX
    rw [hk, if_neg (by omega), if_neg (by omega), if_neg (by omega), if_neg (by omega), if_neg (by omega), if_pos rfl]
  have hB : cmdB c = be 1 (w64 7) ++ batchB c.f6 := by
    unfold cmdB
    rw [hk, if_neg (by omega), if_neg (by omega), if_neg (by omega), if_neg (by omega), if_neg (by omega), if_pos rfl]
  have hj : ∀ k, cbF (k + 3) c = if (c.f6.length : Int) > 20 then some [] else lF k ([7] ++ [(c.f6.length : Int) % 256]) 0 c := by
    intro k
    unfold cbF lF
    simp only [flocculusref21_CommandBytes.f, flocculusref21_CommandBytes.j0, flocculusref21_CommandBytes.j2]
    rw [hk]
    rw [if_neg (by omega), if_neg (by simp), Option.bind_some, if_neg (by omega), if_neg (by omega), if_neg (by omega), if_neg (by omega), if_neg (by simp), if_pos rfl]
    by_cases h : (c.f6.length : Int) > 20
    · rw [if_pos h, if_pos h]
    · rw [if_neg h, if_neg h]; simp
  by_cases h : (c.f6.length : Int) > 20
  · refine ⟨3, fun k hk3 => ?_⟩
    obtain ⟨k, rfl⟩ : ∃ k', k = k' + 3 := ⟨k - 3, by omega⟩
    show cbF (k + 3) c = _
    rw [hj, if_pos h]
    unfold encP
    rw [hX]
    unfold batchX
    rw [decide_eq_true (show 20 < c.f6.length by omega), Bool.true_or, if_pos rfl]
  · obtain ⟨K, e⟩ := cb_l c (by omega) hb c.f6.length 0 ([7] ++ [(c.f6.length : Int) % 256]) (by omega) (by simp)
    refine ⟨K + 3, fun k hk3 => ?_⟩
    obtain ⟨k, rfl⟩ : ∃ k', k = k' + 3 := ⟨k - 3, by omega⟩
    have g : lF k ([7] ++ [(c.f6.length : Int) % 256]) ((0 : Nat) : Int) c = _ := e k (by omega)
    show cbF (k + 3) c = _
    rw [hj, if_neg h]
    refine g.trans ?_
    unfold encP
    rw [hX, hB, List.drop_zero]
    unfold batchX batchB
    rw [decide_eq_false (show ¬ 20 < c.f6.length by omega), Bool.false_or, if_neg (show ¬ 20 < c.f6.length by omega)]
    have hb1 : be 1 (w64 7) = [7] := by rw [be1 7 (by omega)]; rfl
    have hb2 : be 1 (w64 (c.f6.length : Int)) = [(c.f6.length : Int) % 256] := by
      rw [w64_small (by omega) (by omega)]
      show [(c.f6.length : Int) / 2 ^ (8 * 0) % 256] = _
      simp
    rw [hb1, hb2]; simp
/-- The reference's bytes of any command are what command.Bytes answers. -/
theorem cb_any (c : S29) (ho : okC c) (hb : ∀ x ∈ c.f6, okA x) : Ev (fun k => cbF k c) (encP c) := by
  by_cases h : c.f0 < 1 ∨ 8 < c.f0
  · exact cb_out c h
  · by_cases h1 : c.f0 = 1 ∨ c.f0 = 2
    · exact cb_edit c ho.1 h1
    · by_cases h3 : c.f0 = 3
      · exact cb_look c ho h3
      · by_cases h4 : c.f0 = 4
        · exact cb_start c h4
        · by_cases h5 : c.f0 = 5 ∨ c.f0 = 8
          · exact cb_plain c h5
          · by_cases h6 : c.f0 = 6
            · exact cb_seed c ho h6
            · exact cb_batch c hb (by omega)
end Go.Proofs.Ytliighhedmfgjaa.Cmd
