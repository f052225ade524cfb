/- Commands as bytes, over lists alone: what is read was written so, and what was written is read. -/
import Derived.Test.YtliighhedmfgjaaRe5
namespace Go.Proofs.Ytliighhedmfgjaa.Cmd
open Go.RowKit Go.Proofs.Ytliighhedmfgjaa.PRefC Go.Proofs.YtliighhedmfgjaaW.PrintWords Go.Proofs.YtliighhedmfgjaaW.PrintLast Go.Proofs.YtliighhedmfgjaaW.PrintMore

abbrev Byte (l : List Int) : Prop := ∀ x ∈ l, 0 ≤ x ∧ x < 256
theorem be_snoc : ∀ (k : Nat) (n : Int), be (k + 1) n = be k (n / 256) ++ [n % 256]
  | 0, n => by
    show [n / 2 ^ (8 * 0) % 256] = [] ++ [n % 256]
    simp
  | k + 1, n => by
    have ih := be_snoc k n
    show (n / 2 ^ (8 * (k + 1)) % 256) :: be (k + 1) n = be (k + 1) (n / 256) ++ [n % 256]
    rw [ih]
    show _ = ((n / 256) / 2 ^ (8 * k) % 256) :: be k (n / 256) ++ [n % 256]
    have e : n / 2 ^ (8 * (k + 1)) = (n / 256) / 2 ^ (8 * k) := by
      rw [Int.ediv_ediv_of_nonneg (by decide), show (256 : Int) = 2 ^ 8 by decide, ← Int.pow_add, show 8 + 8 * k = 8 * (k + 1) by omega]
    rw [e]
    rfl
theorem be_val : ∀ (k : Nat) (l : List Int), l.length = k → Byte l → be k (valB l) = l
  | 0, l, h, _ => by obtain rfl := List.eq_nil_of_length_eq_zero h; rfl
  | k + 1, l, h, hb => by
    obtain ⟨l', c, rfl⟩ : ∃ l' c, l = l' ++ [c] := by
      obtain ⟨l', c, e⟩ := (List.eq_nil_or_concat l).resolve_left (by intro e; rw [e] at h; cases h)
      exact ⟨l', c, by rw [e, List.concat_eq_append]⟩
    have hc := hb c (by simp)
    have ih := be_val k l' (by simpa using h) (fun x hx => hb x (List.mem_append_left _ hx))
    rw [be_snoc, valB_snoc, show (valB l' * 256 + c) / 256 = valB l' by omega, show (valB l' * 256 + c) % 256 = c by omega, ih]
theorem val_be : ∀ (k : Nat) (n : Int), valB (be k n) = n % 256 ^ k
  | 0, n => by show (0 : Int) = n % 256 ^ 0; simp
  | k + 1, n => by
    rw [be_snoc, valB_snoc, val_be k]
    have hp := pow256 k
    have e : (256 : Int) ^ (k + 1) = 256 ^ k * 256 := Int.pow_succ _ _
    have h1 := Int.emod_add_mul_ediv (n / 256) (256 ^ k)
    have h2 := Int.emod_add_mul_ediv n 256
    have h3 := Int.emod_nonneg (n / 256) (show (256 : Int) ^ k ≠ 0 by omega)
    have h4 := Int.emod_lt_of_pos (n / 256) hp
    have h5 : n = (n / 256 % 256 ^ k * 256 + n % 256) + (256 ^ k * 256) * (n / 256 / 256 ^ k) := by
      have : 256 ^ k * 256 * (n / 256 / 256 ^ k) = 256 * (256 ^ k * (n / 256 / 256 ^ k)) := by rw [Int.mul_comm (256 ^ k) 256, Int.mul_assoc]
      rw [this]
      omega
    have key : ∀ r b q P : Int, 0 ≤ r → r < P → 0 ≤ b → b < 256 → (r * 256 + b + (P * 256) * q) % (P * 256) = r * 256 + b := by
      intro r b q P g1 g2 g3 g4
      rw [Int.add_mul_emod_self_left]
      exact Int.emod_eq_of_lt (by omega) (by omega)
    have := key (n / 256 % 256 ^ k) (n % 256) (n / 256 / 256 ^ k) (256 ^ k) h3 h4 (by omega) (by omega)
    rw [← h5] at this
    rw [e]
    exact this.symm
theorem be_byte : ∀ (k : Nat) (n : Int), Byte (be k n)
  | 0, _ => fun x hx => by cases hx
  | k + 1, n => fun x hx => by
    rcases List.mem_cons.mp hx with e | hx
    · subst e; omega
    · exact be_byte k n x hx

/-- What get does. -/
theorem get_eat {k : Nat} {s : St} (hb : Byte s.1) (h : (gs k s).2 = false) : s.2 = false ∧ s.1 = be k (gv k s) ++ (gs k s).1 := by
  have hx : getX k s.1 s.2 = false := h
  have hn : ¬ getX k s.1 s.2 = true := by rw [hx]; decide
  unfold getX at hx
  rw [Bool.or_eq_false_iff, decide_eq_false_iff_not] at hx
  refine ⟨hx.1, ?_⟩
  have e1 : gv k s = valB (s.1.take k) := by unfold gv getV; rw [if_neg hn]
  have e2 : (gs k s).1 = s.1.drop k := by show getR k s.1 s.2 = _; unfold getR; rw [if_neg hn]
  rw [e1, e2, be_val k _ (by rw [List.length_take]; omega) (fun x hx => hb x (List.mem_of_mem_take hx)), List.take_append_drop]
theorem num_eat {k : Nat} {m : Int} {s : St} (hb : Byte s.1) (h : (ns k m s).2 = false) : s.2 = false ∧ s.1 = be k (gv k s) ++ (ns k m s).1 ∧ gv k s ≤ m := by
  have hx : (getX k s.1 s.2 || decide (m < gv k s)) = false := h
  rw [Bool.or_eq_false_iff, decide_eq_false_iff_not] at hx
  have := get_eat hb (show (gs k s).2 = false from hx.1)
  exact ⟨this.1, this.2, by omega⟩
theorem gs_byte {k : Nat} {s : St} (h : Byte s.1) : Byte (gs k s).1 := ns_byte (m := 0) h
/-- A number that stands in front is read. -/
theorem get_be (k : Nat) (n : Int) (rest : List Int) (h0 : 0 ≤ n) (h1 : n < 256 ^ k) : gv k (be k n ++ rest, false) = n ∧ gs k (be k n ++ rest, false) = (rest, false) := by
  have hl : (be k n).length = k := be_length k n
  have hx : getX k (be k n ++ rest) false = false := by unfold getX; rw [decide_eq_false (by rw [List.length_append, hl]; omega)]; rfl
  have hn : ¬ getX k (be k n ++ rest) false = true := by rw [hx]; decide
  refine ⟨?_, ?_⟩
  · show getV k (be k n ++ rest) false = n
    unfold getV
    rw [if_neg hn, List.take_append_of_le_length (by omega), List.take_of_length_le (by omega), val_be, Int.emod_eq_of_lt h0 h1]
  · show (getR k (be k n ++ rest) false, getX k (be k n ++ rest) false) = _
    unfold getR
    rw [if_neg hn, hx, List.drop_append_of_le_length (by omega), List.drop_of_length_le (by omega)]
    rfl
theorem num_be (k : Nat) (n m : Int) (rest : List Int) (h0 : 0 ≤ n) (h1 : n < 256 ^ k) (hm : n ≤ m) : gv k (be k n ++ rest, false) = n ∧ ns k m (be k n ++ rest, false) = (rest, false) := by
  obtain ⟨e1, e2⟩ := get_be k n rest h0 h1
  refine ⟨e1, ?_⟩
  have e3 : getR k (be k n ++ rest) false = rest := congrArg Prod.fst e2
  have e4 : getX k (be k n ++ rest) false = false := congrArg Prod.snd e2
  show (getR k (be k n ++ rest) false, getX k (be k n ++ rest) false || decide (m < gv k (be k n ++ rest, false))) = _
  rw [e1, e3, e4, decide_eq_false (by omega)]
  rfl
theorem w64_small {n : Int} (h0 : 0 ≤ n) (h1 : n < 18446744073709551616) : w64 n = n := Int.emod_eq_of_lt h0 h1

/-- A prefix is read as it was written. -/
theorem pfx_eat {s : St} (hb : Byte s.1) (h : (ps s).2 = false) : s.2 = false ∧ s.1 = prefB (pfx s).f0.f0 (pfx s).f0.f1 (pfx s).f1 ++ (ps s).1 ∧ prefX (pfx s).f1 = false := by
  have hb2 : Byte (gs 8 s).1 := gs_byte hb
  have hb3 : Byte (ads s).1 := gs_byte hb2
  obtain ⟨a1, a2, a3⟩ := num_eat hb3 h
  obtain ⟨b1, b2⟩ := get_eat hb2 a1
  obtain ⟨c1, c2⟩ := get_eat hb b1
  have hr := gv_range 1 (ads s) hb3
  refine ⟨c1, ?_, ?_⟩
  · show s.1 = prefB (gv 8 s) (gv 8 (gs 8 s)) (gv 1 (ads s)) ++ (ps s).1
    unfold prefB
    rw [w64_small hr.1 (by omega), List.append_assoc, List.append_assoc]
    calc s.1 = be 8 (gv 8 s) ++ (gs 8 s).1 := c2
      _ = be 8 (gv 8 s) ++ (be 8 (gv 8 (gs 8 s)) ++ (ads s).1) := by rw [b2]; rfl
      _ = be 8 (gv 8 s) ++ (be 8 (gv 8 (gs 8 s)) ++ (be 1 (gv 1 (ads s)) ++ (ps s).1)) := by rw [a2]; rfl
  · show prefX (gv 1 (ads s)) = false
    unfold prefX
    rw [decide_eq_false (by omega), decide_eq_false (by omega)]
    rfl
theorem ps_byte {s : St} (h : Byte s.1) : Byte (ps s).1 := ns_byte (gs_byte (gs_byte h))
theorem edS_byte {k : Int} {s : St} (h : Byte s.1) : Byte (edS k s).1 := by
  unfold edS
  split
  · exact ns_byte (ps_byte h)
  · split
    · exact ps_byte h
    · exact h
/-- An edit is read as it was written. -/
theorem ed_eat {k : Int} {s : St} (hb : Byte s.1) (h : (edS k s).2 = false) : s.2 = false ∧ edB (edV k s) ++ (edS k s).1 = be 1 (w64 k) ++ s.1 ∧ edX (edV k s) = false ∧ (k = 1 ∨ k = 2) := by
  by_cases e1 : k = 1
  · subst e1
    have r1 : edS 1 s = ns 4 2147483647 (ps s) := rfl
    rw [r1] at h ⊢
    obtain ⟨a1, a2, a3⟩ := num_eat (ps_byte hb) h
    obtain ⟨b1, b2, b3⟩ := pfx_eat hb a1
    have hr := gv_range 4 (ps s) (ps_byte hb)
    have e4 : (256 : Int) ^ 4 = 4294967296 := by decide
    have r2 : edB (edV 1 s) = be 1 (w64 1) ++ (prefB (pfx s).f0.f0 (pfx s).f0.f1 (pfx s).f1 ++ be 4 (w64 (gv 4 (ps s)))) := rfl
    have r3 : edX (edV 1 s) = (prefX (pfx s).f1 || (decide (gv 4 (ps s) < 0) || decide (2147483647 < gv 4 (ps s)))) := rfl
    refine ⟨b1, ?_, ?_, .inl rfl⟩
    · rw [r2, w64_small hr.1 (by omega), b2]
      conv => rhs; rw [a2]
      simp only [List.append_assoc]
    · rw [r3, b3, decide_eq_false (by omega), decide_eq_false (by omega)]; rfl
  · by_cases e2 : k = 2
    · subst e2
      have r1 : edS 2 s = ps s := rfl
      rw [r1] at h ⊢
      obtain ⟨b1, b2, b3⟩ := pfx_eat hb h
      have r2 : edB (edV 2 s) = be 1 (w64 2) ++ prefB (pfx s).f0.f0 (pfx s).f0.f1 (pfx s).f1 := rfl
      have r3 : edX (edV 2 s) = prefX (pfx s).f1 := rfl
      refine ⟨b1, ?_, by rw [r3, b3], .inr rfl⟩
      rw [r2]
      conv => rhs; rw [b2]
      simp only [List.append_assoc]
    · have : edS k s = (s.1, true) := by unfold edS; rw [if_neg e1, if_neg e2]
      rw [this] at h
      cases h
theorem bt_eat : ∀ (n : Nat) (s : St), Byte s.1 → (btL n s).2.2 = false → s.2 = false ∧ (btL n s).1.length = n ∧ s.1 = (btL n s).1.flatMap edB ++ (btL n s).2.1 ∧ (btL n s).1.any edX = false
  | 0, s, _, h => ⟨h, rfl, rfl, rfl⟩
  | n + 1, s, hb, h => by
    by_cases hs : s.2 = true
    · have : btL (n + 1) s = ([], s) := by simp only [btL]; rw [if_pos hs]
      rw [this] at h
      rw [hs] at h
      cases h
    · have e : btL (n + 1) s = (edV (gv 1 s) (ns 1 255 s) :: (btL n (edS (gv 1 s) (ns 1 255 s))).1, (btL n (edS (gv 1 s) (ns 1 255 s))).2) := by simp only [btL]; rw [if_neg hs]
      rw [e] at h ⊢
      have hb1 : Byte (ns 1 255 s).1 := ns_byte hb
      obtain ⟨i1, i2, i3, i4⟩ := bt_eat n _ (edS_byte hb1) h
      obtain ⟨d1, d2, d3, _⟩ := ed_eat hb1 i1
      obtain ⟨c1, c2, c3⟩ := num_eat hb d1
      have hr := gv_range 1 s hb
      refine ⟨c1, by simp only [List.length_cons, i2], ?_, by simp only [List.any_cons, d3, i4]; rfl⟩
      rw [List.flatMap_cons, List.append_assoc, ← i3, d2, w64_small hr.1 (by omega)]
      exact c2
/-- A command is read as it was written, of a kind. -/
theorem ck_eat {k : Int} {s : St} (hb : Byte s.1) (h : (cmSk k s).2 = false) : s.2 = false ∧ be 1 (w64 k) ++ s.1 = cmdB (cmVk k s) ++ (cmSk k s).1 ∧ cmdX (cmVk k s) = false := by
  by_cases e3 : k = 3
  · subst e3
    have r1 : cmSk 3 s = ads s := rfl
    rw [r1] at h ⊢
    obtain ⟨a1, a2⟩ := get_eat (gs_byte hb) h
    obtain ⟨b1, b2⟩ := get_eat hb a1
    have r2 : cmdB (cmVk 3 s) = be 1 (w64 3) ++ (be 8 (gv 8 s) ++ be 8 (gv 8 (gs 8 s))) := rfl
    refine ⟨b1, ?_, rfl⟩
    have a2' : (gs 8 s).1 = be 8 (gv 8 (gs 8 s)) ++ (ads s).1 := a2
    rw [r2, List.append_assoc, List.append_assoc, ← a2', ← b2]
  by_cases e4 : k = 4
  · subst e4
    have r1 : cmSk 4 s = ns 4 2147483647 s := rfl
    rw [r1] at h ⊢
    obtain ⟨a1, a2, a3⟩ := num_eat hb h
    have hr := gv_range 4 s hb
    have e256 : (256 : Int) ^ 4 = 4294967296 := by decide
    have r2 : cmdB (cmVk 4 s) = be 1 (w64 4) ++ be 4 (w64 (gv 4 s)) := rfl
    have r3 : cmdX (cmVk 4 s) = fitX (gv 4 s) := rfl
    refine ⟨a1, ?_, ?_⟩
    · rw [r2, w64_small hr.1 (by omega), List.append_assoc, ← a2]
    · rw [r3]; unfold fitX; rw [decide_eq_false (by omega), decide_eq_false (by omega)]; rfl
  by_cases e6 : k = 6
  · subst e6
    have r1 : cmSk 6 s = ns 4 2147483647 (gs 8 s) := rfl
    rw [r1] at h ⊢
    obtain ⟨a1, a2, a3⟩ := num_eat (gs_byte hb) h
    obtain ⟨b1, b2⟩ := get_eat hb a1
    have hr := gv_range 4 (gs 8 s) (gs_byte hb)
    have e256 : (256 : Int) ^ 4 = 4294967296 := by decide
    have r2 : cmdB (cmVk 6 s) = be 1 (w64 6) ++ (be 8 (gv 8 s) ++ be 4 (w64 (gv 4 (gs 8 s)))) := rfl
    have r3 : cmdX (cmVk 6 s) = fitX (gv 4 (gs 8 s)) := rfl
    refine ⟨b1, ?_, ?_⟩
    · rw [r2, w64_small hr.1 (by omega), List.append_assoc, List.append_assoc, ← a2, ← b2]
    · rw [r3]; unfold fitX; rw [decide_eq_false (by omega), decide_eq_false (by omega)]; rfl
  by_cases e7 : k = 7
  · subst e7
    have r1 : cmSk 7 s = (btL (gv 1 s).toNat (ns 1 20 s)).2 := rfl
    rw [r1] at h ⊢
    have hb1 : Byte (ns 1 20 s).1 := ns_byte hb
    obtain ⟨i1, i2, i3, i4⟩ := bt_eat _ _ hb1 h
    obtain ⟨a1, a2, a3⟩ := num_eat hb i1
    have hr := gv_range 1 s hb
    have r2 : cmdB (cmVk 7 s) = be 1 (w64 7) ++ batchB (btL (gv 1 s).toNat (ns 1 20 s)).1 := rfl
    have r3 : cmdX (cmVk 7 s) = batchX (btL (gv 1 s).toNat (ns 1 20 s)).1 := rfl
    have hl : ((btL (gv 1 s).toNat (ns 1 20 s)).1.length : Int) = gv 1 s := by rw [i2]; omega
    refine ⟨a1, ?_, ?_⟩
    · rw [r2]
      unfold batchB
      rw [if_neg (by omega), hl, w64_small hr.1 (by omega)]
      simp only [List.append_assoc]
      rw [← i3, ← a2]
    · rw [r3]
      unfold batchX
      rw [decide_eq_false (by omega), i4]; rfl
  by_cases e5 : k = 5
  · subst e5
    exact ⟨h, rfl, rfl⟩
  by_cases e8 : k = 8
  · subst e8
    exact ⟨h, rfl, rfl⟩
  have r1 : cmVk k s = edV k s := by unfold cmVk; simp only [if_neg e3, if_neg e4, if_neg e5, if_neg e6, if_neg e7, if_neg e8]
  have r2 : cmSk k s = edS k s := by unfold cmSk; simp only [if_neg e3, if_neg e4, if_neg e5, if_neg e6, if_neg e7, if_neg e8]
  rw [r2] at h ⊢
  rw [r1]
  obtain ⟨d1, d2, d3, d4⟩ := ed_eat hb h
  rcases d4 with rfl | rfl
  · exact ⟨d1, d2.symm, d3⟩
  · exact ⟨d1, d2.symm, d3⟩
/-- What is read was written so. -/
theorem rd_eat {l : List Int} (hb : Byte l) (h : rdOk l = true) : encP (rdV l) = l := by
  have hs : (cmS (l, false)).2 = false ∧ (cmS (l, false)).1 = [] := by
    unfold rdOk at h
    rw [Bool.and_eq_true] at h
    refine ⟨by simpa using h.1, ?_⟩
    cases hc : (cmS (l, false)).1 with
    | nil => rfl
    | cons x xs => rw [hc] at h; simp at h
  have hb1 : Byte (ns 1 255 (l, false)).1 := ns_byte hb
  obtain ⟨a1, a2, a3⟩ := ck_eat (k := gv 1 (l, false)) hb1 hs.1
  obtain ⟨b1, b2, b3⟩ := num_eat hb a1
  have hr := gv_range 1 (l, false) hb
  have e : rdV l = cmVk (gv 1 (l, false)) (ns 1 255 (l, false)) := by unfold rdV; rw [if_pos h]; rfl
  have e2 : (cmSk (gv 1 (l, false)) (ns 1 255 (l, false))).1 = [] := hs.2
  unfold encP
  rw [e, a3, if_neg Bool.false_ne_true]
  rw [e2, List.append_nil, w64_small hr.1 (by omega)] at a2
  rw [← a2]
  exact b2.symm

/-! What was written is read. -/
theorem p8 : (256 : Int) ^ 8 = 18446744073709551616 := by decide
theorem p4 : (256 : Int) ^ 4 = 4294967296 := by decide
theorem p1 : (256 : Int) ^ 1 = 256 := by decide
theorem of_prefX {len : Int} (h : prefX len = false) : 0 ≤ len ∧ len ≤ 255 := by
  unfold prefX at h
  rw [Bool.or_eq_false_iff, decide_eq_false_iff_not, decide_eq_false_iff_not] at h
  omega
theorem of_fitX {n : Int} (h : fitX n = false) : 0 ≤ n ∧ n ≤ 2147483647 := by
  unfold fitX at h
  rw [Bool.or_eq_false_iff, decide_eq_false_iff_not, decide_eq_false_iff_not] at h
  omega
theorem ps_be (hi lo len : Int) (rest : List Int) (h1 : u64 hi) (h2 : u64 lo) (h3 : prefX len = false) : ps (prefB hi lo len ++ rest, false) = (rest, false) := by
  obtain ⟨l0, l1⟩ := of_prefX h3
  unfold prefB ps ads
  rw [w64_small l0 (by omega), List.append_assoc, List.append_assoc, (get_be 8 hi _ h1.1 (by rw [p8]; exact h1.2)).2, (get_be 8 lo _ h2.1 (by rw [p8]; exact h2.2)).2, (num_be 1 len 255 rest l0 (by rw [p1]; omega) l1).2]
def edT (x : S29) : List Int := if x.f0 = 1 then prefB x.f3.f0.f0 x.f3.f0.f1 x.f3.f1 ++ be 4 (w64 x.f1) else if x.f0 = 2 then prefB x.f3.f0.f0 x.f3.f0.f1 x.f3.f1 else []
theorem edB_eq (x : S29) : edB x = be 1 (w64 x.f0) ++ edT x := rfl
theorem ed_be (x : S29) (rest : List Int) (hx : edX x = false) (ho : okA x) : edS x.f0 (edT x ++ rest, false) = (rest, false) ∧ (x.f0 = 1 ∨ x.f0 = 2) := by
  unfold edX editX at hx
  unfold edS edT
  by_cases e1 : x.f0 = 1
  · rw [if_pos e1] at hx
    rw [Bool.or_eq_false_iff] at hx
    obtain ⟨f0, f1⟩ := of_fitX (n := x.f1) hx.2
    rw [if_pos e1, if_pos e1, List.append_assoc, ps_be _ _ _ _ ho.1 ho.2 hx.1, w64_small f0 (by omega), (num_be 4 x.f1 2147483647 rest f0 (by rw [p4]; omega) f1).2]
    exact ⟨rfl, .inl e1⟩
  · rw [if_neg e1] at hx
    by_cases e2 : x.f0 = 2
    · rw [if_pos e2] at hx
      rw [if_neg e1, if_neg e1, if_pos e2, if_pos e2, ps_be _ _ _ _ ho.1 ho.2 hx]
      exact ⟨rfl, .inr e2⟩
    · rw [if_neg e2] at hx
      cases hx
theorem bt_be : ∀ (l : List S29) (rest : List Int), l.any edX = false → (∀ x ∈ l, okA x) → (btL l.length (l.flatMap edB ++ rest, false)).2 = (rest, false)
  | [], rest, _, _ => rfl
  | x :: xs, rest, h, ho => by
    rw [List.any_cons, Bool.or_eq_false_iff] at h
    obtain ⟨d1, d2⟩ := ed_be x (xs.flatMap edB ++ rest) h.1 (ho x (by simp))
    have ih := bt_be xs rest h.2 (fun y hy => ho y (by simp [hy]))
    have hk : 0 ≤ x.f0 ∧ x.f0 ≤ 255 := by omega
    obtain ⟨n1, n2⟩ := num_be 1 x.f0 255 (edT x ++ (xs.flatMap edB ++ rest)) hk.1 (by rw [p1]; omega) hk.2
    have e : (x :: xs).flatMap edB ++ rest = be 1 x.f0 ++ (edT x ++ (xs.flatMap edB ++ rest)) := by
      rw [List.flatMap_cons, edB_eq, w64_small hk.1 (by omega)]
      simp only [List.append_assoc]
    rw [e]
    show (btL (xs.length + 1) _).2 = _
    simp only [btL]
    rw [if_neg Bool.false_ne_true, n1, n2, d1]
    exact ih
theorem cm_be (c : S29) (hc : cmdX c = false) (ho : okC c) (hb : ∀ x ∈ c.f6, okA x) : cmS (cmdB c, false) = ([], false) := by
  obtain ⟨⟨o1, o2⟩, o3, o4, o5⟩ := ho
  have fin : ∀ T : List Int, 0 ≤ c.f0 ∧ c.f0 ≤ 255 → cmdB c = be 1 (w64 c.f0) ++ T → cmSk c.f0 (T, false) = ([], false) → cmS (cmdB c, false) = ([], false) := fun T hk he hs => by
    obtain ⟨n1, n2⟩ := num_be 1 c.f0 255 T hk.1 (by rw [p1]; omega) hk.2
    rw [he, w64_small hk.1 (by omega)]
    unfold cmS
    rw [n1, n2]
    exact hs
  unfold cmdX at hc
  by_cases e1 : c.f0 = 1
  · rw [if_pos e1, Bool.or_eq_false_iff] at hc
    obtain ⟨f0, f1⟩ := of_fitX hc.2
    refine fin (prefB c.f3.f0.f0 c.f3.f0.f1 c.f3.f1 ++ be 4 (w64 c.f1)) (by omega) (by unfold cmdB; rw [if_pos e1]) ?_
    rw [e1]
    show edS 1 _ = _
    unfold edS
    rw [if_pos rfl, ps_be _ _ _ _ o1 o2 hc.1, w64_small f0 (by omega)]
    have := (num_be 4 c.f1 2147483647 [] f0 (by rw [p4]; omega) f1).2
    rwa [List.append_nil] at this
  rw [if_neg e1] at hc
  by_cases e2 : c.f0 = 2
  · rw [if_pos e2] at hc
    refine fin (prefB c.f3.f0.f0 c.f3.f0.f1 c.f3.f1) (by omega) (by unfold cmdB; rw [if_neg e1, if_pos e2]) ?_
    rw [e2]
    show edS 2 _ = _
    have := ps_be _ _ _ [] o1 o2 hc
    rw [List.append_nil] at this
    exact this
  rw [if_neg e2] at hc
  by_cases e3 : c.f0 = 3
  · refine fin (be 8 c.f4.f0 ++ be 8 c.f4.f1) (by omega) (by unfold cmdB; rw [if_neg e1, if_neg e2, if_pos e3]) ?_
    rw [e3]
    show gs 8 (gs 8 _) = _
    have h2 := (get_be 8 c.f4.f1 [] o4.1 (by rw [p8]; exact o4.2)).2
    rw [List.append_nil] at h2
    rw [(get_be 8 c.f4.f0 _ o3.1 (by rw [p8]; exact o3.2)).2, h2]
  rw [if_neg e3] at hc
  by_cases e4 : c.f0 = 4
  · rw [if_pos e4] at hc
    obtain ⟨f0, f1⟩ := of_fitX hc
    refine fin (be 4 (w64 c.f2)) (by omega) (by unfold cmdB; rw [if_neg e1, if_neg e2, if_neg e3, if_pos e4]) ?_
    rw [e4, w64_small f0 (by omega)]
    show ns 4 2147483647 _ = _
    have := (num_be 4 c.f2 2147483647 [] f0 (by rw [p4]; omega) f1).2
    rwa [List.append_nil] at this
  rw [if_neg e4] at hc
  by_cases e6 : c.f0 = 6
  · rw [if_pos e6] at hc
    obtain ⟨f0, f1⟩ := of_fitX hc
    refine fin (be 8 c.f5 ++ be 4 (w64 c.f2)) (by omega) (by unfold cmdB; rw [if_neg e1, if_neg e2, if_neg e3, if_neg e4, if_pos e6]) ?_
    rw [e6, w64_small f0 (by omega)]
    show ns 4 2147483647 (gs 8 _) = _
    have := (num_be 4 c.f2 2147483647 [] f0 (by rw [p4]; omega) f1).2
    rw [List.append_nil] at this
    rw [(get_be 8 c.f5 _ o5.1 (by rw [p8]; exact o5.2)).2, this]
  rw [if_neg e6] at hc
  by_cases e7 : c.f0 = 7
  · rw [if_pos e7] at hc
    unfold batchX at hc
    rw [Bool.or_eq_false_iff, decide_eq_false_iff_not] at hc
    have hl : (c.f6.length : Int) ≤ 20 := by omega
    refine fin (batchB c.f6) (by omega) (by unfold cmdB; rw [if_neg e1, if_neg e2, if_neg e3, if_neg e4, if_neg e6, if_pos e7]) ?_
    rw [e7]
    show (btL (gv 1 (batchB c.f6, false)).toNat (ns 1 20 (batchB c.f6, false))).2 = _
    unfold batchB
    rw [if_neg hc.1, w64_small (by omega) (by omega)]
    obtain ⟨n1, n2⟩ := num_be 1 (c.f6.length : Int) 20 (c.f6.flatMap edB) (by omega) (by rw [p1]; omega) hl
    rw [n1, n2, Int.toNat_natCast]
    have := bt_be c.f6 [] hc.2 hb
    rwa [List.append_nil] at this
  rw [if_neg e7] at hc
  by_cases e5 : c.f0 = 5
  · refine fin [] (by omega) (by unfold cmdB; rw [if_neg e1, if_neg e2, if_neg e3, if_neg e4, if_neg e6, if_neg e7]) ?_
    rw [e5]
    rfl
  rw [if_neg e5] at hc
  by_cases e8 : c.f0 = 8
  · refine fin [] (by omega) (by unfold cmdB; rw [if_neg e1, if_neg e2, if_neg e3, if_neg e4, if_neg e6, if_neg e7]) ?_
    rw [e8]
    rfl
  rw [if_neg e8] at hc
  cases hc
end Go.Proofs.Ytliighhedmfgjaa.Cmd
