/- The reference's reader and the program's: the same answer for whatever bytes. -/
import Derived.Test.YtliighhedmfgjaaRf6
import Derived.Test.YtliighhedmfgjaaEnc5
namespace Go.Proofs.Ytliighhedmfgjaa.Cmd
open Go.RowKit Go.Proofs.Ytliighhedmfgjaa.PRefC Go.Proofs.YtliighhedmfgjaaW.PrintWords Go.Proofs.YtliighhedmfgjaaW.PrintLast Go.Proofs.YtliighhedmfgjaaW.PrintMore

theorem or_false_l {a b : Bool} (h : (a || b) = false) : a = false := by cases a with | true => simp at h | false => rfl
theorem gs_x {k : Nat} {s : St} (h : (gs k s).2 = false) : s.2 = false ∧ getX k s.1 s.2 = false := ⟨or_false_l (show (s.2 || decide (s.1.length < k)) = false from h), h⟩
theorem gs_fs {k : Nat} {s : St} (h : (gs k s).2 = false) : fs k s = gs k s := by
  have hx := (gs_x h).2
  unfold fs gs getR
  rw [hx, if_neg Bool.false_ne_true, if_neg Bool.false_ne_true]
theorem ns_gs {k : Nat} {m : Int} {s : St} (h : (ns k m s).2 = false) : (gs k s).2 = false ∧ ns k m s = gs k s := by
  have hx : getX k s.1 s.2 = false := or_false_l (show (getX k s.1 s.2 || decide (m < gv k s)) = false from h)
  refine ⟨hx, ?_⟩
  have h' : (getX k s.1 s.2 || decide (m < gv k s)) = false := h
  show ((getR k s.1 s.2, getX k s.1 s.2 || decide (m < gv k s)) : St) = (getR k s.1 s.2, getX k s.1 s.2)
  rw [h', hx]
theorem ns_fs {k : Nat} {m : Int} {s : St} (h : (ns k m s).2 = false) : fs k s = ns k m s ∧ s.2 = false := by
  have := ns_gs h
  exact ⟨(gs_fs this.1).trans this.2.symm, (gs_x this.1).1⟩
theorem ads_fads {s : St} (h : (ads s).2 = false) : fads s = ads s ∧ fs 8 s = gs 8 s := by
  have h1 : (gs 8 (gs 8 s)).2 = false := h
  have e1 := gs_fs h1
  have e2 := gs_fs (gs_x h1).1
  exact ⟨by unfold fads ads; rw [e2, e1], e2⟩
theorem ps_fps {s : St} (h : (ps s).2 = false) : fps s = ps s ∧ fpfx s = pfx s := by
  have h1 : (ns 1 255 (ads s)).2 = false := h
  have e1 := ns_fs h1
  have e2 := ads_fads e1.2
  exact ⟨by unfold fps ps; rw [e2.1, e1.1], by unfold fpfx pfx; rw [e2.1, e2.2]⟩
/-- An edit. -/
theorem ed_fc {k : Int} {s : St} (hb : Byte s.1) (h : (edS k s).2 = false) : fcV k s = edV k s ∧ fcS k s = edS k s ∧ (k = 1 ∨ k = 2) := by
  have hk := (ed_eat hb h).2.2.2
  rcases hk with rfl | rfl
  · have h1 : (ns 4 2147483647 (ps s)).2 = false := h
    have e1 := ns_fs h1
    have e2 := ps_fps e1.2
    refine ⟨?_, ?_, .inl rfl⟩
    · show (⟨1, gv 4 (fps s), 0, fpfx s, z24, 0, []⟩ : S29) = ⟨1, gv 4 (ps s), 0, pfx s, z24, 0, []⟩
      rw [e2.1, e2.2]
    · show fs 4 (fps s) = ns 4 2147483647 (ps s)
      rw [e2.1, e1.1]
  · have e2 := ps_fps (show (ps s).2 = false from h)
    refine ⟨?_, e2.1, .inr rfl⟩
    show (⟨2, 0, 0, fpfx s, z24, 0, []⟩ : S29) = ⟨2, 0, 0, pfx s, z24, 0, []⟩
    rw [e2.2]
theorem item_fi {s : St} (hb : Byte s.1) (h : (edS (gv 1 s) (ns 1 255 s)).2 = false) : fiV s = edV (gv 1 s) (ns 1 255 s) ∧ fiS s = edS (gv 1 s) (ns 1 255 s) := by
  have hn : Byte (ns 1 255 s).1 := ns_byte hb
  have e0 := (ed_eat hn h).1
  have e1 := ns_fs e0
  obtain ⟨e2, e3, e4⟩ := ed_fc hn h
  unfold fiV fiS
  rw [if_neg (by omega), if_neg (by omega), e1.1]
  exact ⟨e2, e3⟩
theorem bt_fb : ∀ (n : Nat) (s : St), Byte s.1 → (btL n s).2.2 = false → fbL n s = btL n s
  | 0, s, _, _ => rfl
  | n + 1, s, hb, h => by
    by_cases hs : s.2 = true
    · simp only [btL, fbL]; rw [if_pos hs, if_pos hs]
    · have h' : (btL n (edS (gv 1 s) (ns 1 255 s))).2.2 = false := by
        simp only [btL] at h
        rw [if_neg hs] at h
        exact h
      have hn : Byte (ns 1 255 s).1 := ns_byte hb
      have he : Byte (edS (gv 1 s) (ns 1 255 s)).1 := edS_byte hn
      have e0 := (bt_eat n _ he h').1
      have e1 := item_fi hb e0
      have ih := bt_fb n _ he h'
      simp only [btL, fbL]
      rw [if_neg hs, if_neg hs, e1.1, e1.2, ih]
theorem cm_ft {s : St} (hb : Byte s.1) (h : (cmS s).2 = false) : ftV s = cmV s ∧ ftS s = cmS s := by
  have hn : Byte (ns 1 255 s).1 := ns_byte hb
  have h0 : (cmSk (gv 1 s) (ns 1 255 s)).2 = false := h
  have e0 := (ck_eat hn h0).1
  have e1 := ns_fs e0
  unfold ftV ftS cmV cmS
  rw [e1.1]
  obtain ⟨t, ht⟩ : ∃ t, t = ns 1 255 s := ⟨_, rfl⟩
  obtain ⟨k, hk⟩ : ∃ k, k = gv 1 s := ⟨_, rfl⟩
  rw [← ht] at hn h0 ⊢
  rw [← hk] at h0 ⊢
  clear ht hk e0 e1 h
  by_cases k7 : k = 7
  · subst k7
    rw [if_pos rfl, if_pos rfl]
    have h1 : (btL (gv 1 t).toNat (ns 1 20 t)).2.2 = false := h0
    have hn1 : Byte (ns 1 20 t).1 := ns_byte hn
    have e2 := (bt_eat _ _ hn1 h1).1
    have e3 := ns_fs e2
    rw [e3.1, bt_fb _ _ hn1 h1]
    exact ⟨rfl, rfl⟩
  rw [if_neg k7, if_neg k7]
  by_cases k3 : k = 3
  · subst k3
    have h1 : (ads t).2 = false := h0
    have e2 := ads_fads h1
    refine ⟨?_, e2.1⟩
    show (⟨3, 0, 0, z26, ⟨gv 8 t, gv 8 (fs 8 t)⟩, 0, []⟩ : S29) = ⟨3, 0, 0, z26, ⟨gv 8 t, gv 8 (gs 8 t)⟩, 0, []⟩
    rw [e2.2]
  by_cases k4 : k = 4
  · subst k4
    exact ⟨rfl, (ns_fs (show (ns 4 2147483647 t).2 = false from h0)).1⟩
  by_cases k6 : k = 6
  · subst k6
    have h1 : (ns 4 2147483647 (gs 8 t)).2 = false := h0
    have e2 := ns_fs h1
    have e3 := gs_fs e2.2
    refine ⟨?_, ?_⟩
    · show (⟨6, 0, gv 4 (fs 8 t), z26, z24, gv 8 t, []⟩ : S29) = ⟨6, 0, gv 4 (gs 8 t), z26, z24, gv 8 t, []⟩
      rw [e3]
    · show fs 4 (fs 8 t) = ns 4 2147483647 (gs 8 t)
      rw [e3, e2.1]
  by_cases k5 : k = 5
  · subst k5; exact ⟨rfl, rfl⟩
  by_cases k8 : k = 8
  · subst k8; exact ⟨rfl, rfl⟩
  have e1 : cmSk k t = edS k t := by unfold cmSk; rw [if_neg k3, if_neg k4, if_neg k6, if_neg k7, if_neg k5, if_neg k8]
  have e2 : cmVk k t = edV k t := by unfold cmVk; rw [if_neg k3, if_neg k4, if_neg k6, if_neg k7, if_neg k5, if_neg k8]
  rw [e1] at h0 ⊢
  rw [e2]
  have := ed_fc hn h0
  exact ⟨this.1, this.2.1⟩

/-! ### What is read has right numbers -/
theorem u64_zero : u64 0 := ⟨by decide, by decide⟩
theorem gv8_u64 {s : St} (h : Byte s.1) : u64 (gv 8 s) := by have := gv_range 8 s h; rw [p8] at this; exact this
theorem fcV_ok {k : Int} {s : St} (h : Byte s.1) : okC (fcV k s) := by
  have h0 := u64_zero
  have h1 := gv8_u64 h
  have h2 := gv8_u64 (fs_byte (k := 8) h)
  unfold fcV
  repeat' split
  · exact ⟨⟨h1, h2⟩, h0, h0, h0⟩
  · exact ⟨⟨h1, h2⟩, h0, h0, h0⟩
  · exact ⟨⟨h0, h0⟩, h1, h2, h0⟩
  · exact ⟨⟨h0, h0⟩, h0, h0, h1⟩
  · exact ⟨⟨h0, h0⟩, h0, h0, h0⟩
  · exact ⟨⟨h0, h0⟩, h0, h0, h0⟩
theorem fcS_byte {k : Int} {s : St} (h : Byte s.1) : Byte (fcS k s).1 := by
  unfold fcS
  repeat' split
  · exact fs_byte (fps_byte h)
  · exact fps_byte h
  · exact fs_byte (fs_byte h)
  · exact fs_byte (fs_byte h)
  · exact fs_byte h
  · exact h
theorem fiV_ok {s : St} (h : Byte s.1) : okA (fiV s) := by
  unfold fiV
  split
  · exact ⟨u64_zero, u64_zero⟩
  · exact (fcV_ok (fs_byte h)).1
theorem fiS_byte {s : St} (h : Byte s.1) : Byte (fiS s).1 := by
  unfold fiS
  split
  · exact fs_byte (fs_byte h)
  · exact fcS_byte (fs_byte h)
theorem fbL_ok : ∀ (n : Nat) (s : St), Byte s.1 → ∀ x ∈ (fbL n s).1, okA x
  | 0, s, _ => by intro x hx; simp [fbL] at hx
  | n + 1, s, hb => by
    intro x hx
    by_cases hs : s.2 = true
    · simp only [fbL] at hx; rw [if_pos hs] at hx; simp at hx
    · simp only [fbL] at hx
      rw [if_neg hs] at hx
      rcases List.mem_cons.mp hx with rfl | hx
      · exact fiV_ok hb
      · exact fbL_ok n _ (fiS_byte hb) x hx
theorem ftV_ok {s : St} (h : Byte s.1) : okC (ftV s) ∧ ∀ x ∈ (ftV s).f6, okA x := by
  unfold ftV
  split
  · exact ⟨⟨⟨u64_zero, u64_zero⟩, u64_zero, u64_zero, u64_zero⟩, fbL_ok _ _ (fs_byte (fs_byte h))⟩
  · exact ⟨fcV_ok (fs_byte h), by rw [fcV_f6]; intro x hx; simp at hx⟩
theorem fbL_len : ∀ (n : Nat) (s : St), (fbL n s).1.length ≤ n
  | 0, s => by simp [fbL]
  | n + 1, s => by
    by_cases hs : s.2 = true
    · simp only [fbL]; rw [if_pos hs]; simp
    · simp only [fbL]
      rw [if_neg hs]
      have := fbL_len n (fiS s)
      simp only [List.length_cons]
      omega
theorem fbL_f6 : ∀ (n : Nat) (s : St), ∀ x ∈ (fbL n s).1, x.f6 = []
  | 0, s => by intro x hx; simp [fbL] at hx
  | n + 1, s => by
    intro x hx
    by_cases hs : s.2 = true
    · simp only [fbL] at hx; rw [if_pos hs] at hx; simp at hx
    · simp only [fbL] at hx
      rw [if_neg hs] at hx
      rcases List.mem_cons.mp hx with rfl | hx
      · exact fiV_f6 s
      · exact fbL_f6 n _ x hx
theorem ftV_items {s : St} (h : Byte s.1) : (ftV s).f6.length ≤ 255 ∧ ∀ x ∈ (ftV s).f6, x.f6 = [] := by
  unfold ftV
  split
  · have hr := gv_range 1 (fs 1 s) (fs_byte h)
    have := fbL_len (gv 1 (fs 1 s)).toNat (fs 1 (fs 1 s))
    rw [p1] at hr
    exact ⟨by show (fbL _ _).1.length ≤ 255; omega, fbL_f6 _ _⟩
  · rw [fcV_f6]; exact ⟨by simp, by intro x hx; simp at hx⟩

/-! ### The two readers -/
def rfOk (l : List Int) : Bool := !(ftS (l, false)).2 && (!(encP (ftV (l, false))).isEmpty && decide (encP (ftV (l, false)) = l))
def rfV (l : List Int) : S29 := if rfOk l = true then ftV (l, false) else z29
def rfE (l : List Int) : Int := if rfOk l = true then 0 else 2
theorem cmdB_ne (c : S29) : cmdB c ≠ [] := by
  intro h
  have := congrArg List.length h
  unfold cmdB at this
  rw [List.length_append, be_length] at this
  simp at this
theorem rd_of_rf {l : List Int} (hb : Byte l) (h : rfOk l = true) : rdOk l = true := by
  unfold rfOk at h
  simp only [Bool.and_eq_true, Bool.not_eq_true', decide_eq_true_eq] at h
  obtain ⟨h1, h2, h3⟩ := h
  obtain ⟨ho, hi⟩ := ftV_ok (s := (l, false)) hb
  have hX : cmdX (ftV (l, false)) = false := by
    cases hc : cmdX (ftV (l, false)) with
    | false => rfl
    | true => exfalso; unfold encP at h2; rw [if_pos hc] at h2; simp at h2
  have he : cmdB (ftV (l, false)) = l := by
    unfold encP at h3
    rw [if_neg (by rw [hX]; decide)] at h3
    exact h3
  have := cm_be _ hX ho hi
  rw [he] at this
  unfold rdOk
  rw [this]
  rfl
theorem enc_rd_ne {l : List Int} (hb : Byte l) (h : rdOk l = true) : l ≠ [] := by
  rintro rfl
  have : rdOk [] = false := by kernel_rfl
  rw [this] at h
  exact Bool.false_ne_true h
theorem rf_of_rd {l : List Int} (hb : Byte l) (h : rdOk l = true) : rfOk l = true ∧ ftV (l, false) = cmV (l, false) := by
  have he := rd_eat hb h
  have hne := enc_rd_ne hb h
  have h' := h
  unfold rdOk at h'
  simp only [Bool.and_eq_true, Bool.not_eq_true'] at h'
  obtain ⟨e1, e2⟩ := cm_ft (s := (l, false)) hb h'.1
  have hV : rdV l = cmV (l, false) := by unfold rdV; rw [if_pos h]
  refine ⟨?_, e1⟩
  unfold rfOk
  rw [e2, h'.1, e1, ← hV, he]
  cases l with
  | nil => exact absurd rfl hne
  | cons a l => simp
theorem rf_rd {l : List Int} (hb : Byte l) : rfOk l = rdOk l := by
  cases h : rdOk l with
  | true => exact (rf_of_rd hb h).1
  | false =>
    cases h2 : rfOk l with
    | false => rfl
    | true => rw [rd_of_rf hb h2] at h; cases h
theorem rfV_eq {l : List Int} (hb : Byte l) : rfV l = rdV l := by
  unfold rfV rdV
  rw [rf_rd hb]
  by_cases h : rdOk l = true
  · rw [if_pos h, if_pos h]; exact (rf_of_rd hb h).2
  · rw [if_neg h, if_neg h]
theorem rfE_eq {l : List Int} (hb : Byte l) : rfE l = rdE l := by unfold rfE rdE; rw [rf_rd hb]
theorem rdV_ok {l : List Int} (hb : Byte l) : (okC (rdV l) ∧ ∀ x ∈ (rdV l).f6, okA x) ∧ (rdV l).f6.length ≤ 255 ∧ ∀ x ∈ (rdV l).f6, x.f6 = [] := by
  rw [← rfV_eq hb]
  unfold rfV
  split
  · exact ⟨ftV_ok (s := (l, false)) hb, ftV_items (s := (l, false)) hb⟩
  · exact ⟨⟨⟨⟨u64_zero, u64_zero⟩, u64_zero, u64_zero, u64_zero⟩, by intro x hx; simp [z29] at hx⟩, by simp [z29], by intro x hx; simp [z29] at hx⟩

/-! ### What is written is read -/
theorem byte_append {a b : List Int} (h1 : Byte a) (h2 : Byte b) : Byte (a ++ b) := fun x hx => (List.mem_append.mp hx).elim (h1 x) (h2 x)
theorem byte_nil : Byte [] := fun x hx => by simp at hx
theorem prefB_byte (hi lo len : Int) : Byte (prefB hi lo len) := byte_append (byte_append (be_byte _ _) (be_byte _ _)) (be_byte _ _)
theorem edB_byte (x : S29) : Byte (edB x) := by
  unfold edB editB
  refine byte_append (be_byte _ _) ?_
  repeat' split
  · exact byte_append (prefB_byte _ _ _) (be_byte _ _)
  · exact prefB_byte _ _ _
  · exact byte_nil
theorem flat_byte (l : List S29) : Byte (l.flatMap edB) := by
  intro x hx
  obtain ⟨y, _, hy⟩ := List.mem_flatMap.mp hx
  exact edB_byte y x hy
theorem encP_byte (c : S29) : Byte (encP c) := by
  unfold encP
  split
  · exact byte_nil
  · unfold cmdB
    refine byte_append (be_byte _ _) ?_
    repeat' split
    · exact byte_append (prefB_byte _ _ _) (be_byte _ _)
    · exact prefB_byte _ _ _
    · exact byte_append (be_byte _ _) (be_byte _ _)
    · exact be_byte _ _
    · exact byte_append (be_byte _ _) (be_byte _ _)
    · unfold batchB
      refine byte_append (be_byte _ _) ?_
      split
      · exact byte_nil
      · exact flat_byte _
    · exact byte_nil
theorem encP_len (c : S29) : (encP c).length ≤ 500 := by
  unfold encP
  split
  · simp
  · unfold cmdB
    rw [List.length_append, be_length]
    repeat' split
    · simp only [List.length_append, prefB_length, be_length]; omega
    · rw [prefB_length]; omega
    · simp only [List.length_append, be_length]; omega
    · rw [be_length]; omega
    · simp only [List.length_append, be_length]; omega
    · unfold batchB
      rw [List.length_append, be_length]
      split
      · simp
      · have := flat_length c.f6; omega
    · simp
theorem enc_back {c : S29} (ho : okC c) (hi : ∀ x ∈ c.f6, okA x) (hne : encP c ≠ []) : rdOk (encP c) = true ∧ encP (rdV (encP c)) = encP c := by
  have hX : cmdX c = false := by
    cases hc : cmdX c with
    | false => rfl
    | true => exfalso; apply hne; unfold encP; rw [if_pos hc]
  have he : encP c = cmdB c := by unfold encP; rw [if_neg (by rw [hX]; decide)]
  have h1 := cm_be _ hX ho hi
  have h2 : rdOk (encP c) = true := by unfold rdOk; rw [he, h1]; rfl
  exact ⟨h2, rd_eat (encP_byte c) h2⟩
end Go.Proofs.Ytliighhedmfgjaa.Cmd
