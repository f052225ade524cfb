/- What a reader reads of a frame it reads of it with more behind it: no beginning of a frame is one. -/
import Derived.Test.YtliighhedmfgjaaRr
namespace Go.Proofs.Ytliighhedmfgjaa.Cmd
open Go.RowKit Go.Proofs.Ytliighhedmfgjaa.PRefC Go.Proofs.YtliighhedmfgjaaW.PrintWords Go.Proofs.YtliighhedmfgjaaW.PrintLast Go.Proofs.YtliighhedmfgjaaW.PrintMore

/-- With more behind it. -/
def app (s : St) (t : List Int) : St := (s.1 ++ t, s.2)
theorem orf {a b : Bool} (h : (a || b) = false) : a = false ∧ b = false := Bool.or_eq_false_iff.1 h
theorem gs_app {k : Nat} {s : St} (t : List Int) (h : (gs k s).2 = false) : gs k (app s t) = app (gs k s) t ∧ gv k (app s t) = gv k s ∧ s.2 = false := by
  have hx : getX k s.1 s.2 = false := h
  obtain ⟨h1, h2⟩ := orf (show (s.2 || decide (s.1.length < k)) = false from h)
  have h3 := of_decide_eq_false h2
  have hy : getX k (s.1 ++ t) s.2 = false := by
    show (s.2 || decide ((s.1 ++ t).length < k)) = false
    rw [h1, decide_eq_false (by rw [List.length_append]; omega)]; rfl
  refine ⟨?_, ?_, h1⟩
  · show ((getR k (s.1 ++ t) s.2, getX k (s.1 ++ t) s.2) : St) = (getR k s.1 s.2 ++ t, getX k s.1 s.2)
    unfold getR
    rw [hx, hy, if_neg Bool.false_ne_true, if_neg Bool.false_ne_true, List.drop_append_of_le_length (by omega)]
  · show getV k (s.1 ++ t) s.2 = getV k s.1 s.2
    unfold getV
    rw [hx, hy, if_neg Bool.false_ne_true, if_neg Bool.false_ne_true, List.take_append_of_le_length (by omega)]
theorem ns_app {k : Nat} {m : Int} {s : St} (t : List Int) (h : (ns k m s).2 = false) : ns k m (app s t) = app (ns k m s) t ∧ gv k (app s t) = gv k s ∧ s.2 = false := by
  obtain ⟨h1, h2⟩ := orf (show (getX k s.1 s.2 || decide (m < gv k s)) = false from h)
  obtain ⟨e1, e2, e3⟩ := gs_app (k := k) (s := s) t h1
  refine ⟨?_, e2, e3⟩
  have e4 : getR k (s.1 ++ t) s.2 = getR k s.1 s.2 ++ t := congrArg Prod.fst e1
  have e5 : getX k (s.1 ++ t) s.2 = getX k s.1 s.2 := congrArg Prod.snd e1
  show ((getR k (s.1 ++ t) s.2, getX k (s.1 ++ t) s.2 || decide (m < gv k (app s t))) : St) = (getR k s.1 s.2 ++ t, getX k s.1 s.2 || decide (m < gv k s))
  rw [e4, e5, e2]
theorem ads_app {s : St} (t : List Int) (h : (ads s).2 = false) : ads (app s t) = app (ads s) t ∧ s.2 = false := by
  obtain ⟨e1, _, e3⟩ := gs_app (s := gs 8 s) t (show (gs 8 (gs 8 s)).2 = false from h)
  obtain ⟨f1, _, f3⟩ := gs_app (s := s) t e3
  exact ⟨by unfold ads; rw [f1, e1], f3⟩
theorem ps_app {s : St} (t : List Int) (h : (ps s).2 = false) : ps (app s t) = app (ps s) t ∧ s.2 = false := by
  obtain ⟨e1, _, e3⟩ := ns_app (s := ads s) t (show (ns 1 255 (ads s)).2 = false from h)
  obtain ⟨f1, f3⟩ := ads_app t e3
  exact ⟨by unfold ps; rw [f1, e1], f3⟩
theorem edS_app {k : Int} {s : St} (t : List Int) (h : (edS k s).2 = false) : edS k (app s t) = app (edS k s) t ∧ s.2 = false := by
  by_cases k1 : k = 1
  · subst k1
    obtain ⟨e1, _, e3⟩ := ns_app (s := ps s) t (show (ns 4 2147483647 (ps s)).2 = false from h)
    obtain ⟨f1, f3⟩ := ps_app t e3
    exact ⟨by show ns 4 2147483647 (ps (app s t)) = _; rw [f1, e1]; rfl, f3⟩
  · by_cases k2 : k = 2
    · subst k2
      exact ps_app t (show (ps s).2 = false from h)
    · exfalso
      unfold edS at h
      rw [if_neg k1, if_neg k2] at h
      exact Bool.noConfusion h
theorem btL_app : ∀ (n : Nat) (s : St) (t : List Int), (btL n s).2.2 = false → (btL n (app s t)).2 = app (btL n s).2 t ∧ s.2 = false
  | 0, s, t, h => ⟨rfl, h⟩
  | n + 1, s, t, h => by
    by_cases hs : s.2 = true
    · exfalso
      simp only [btL] at h
      rw [if_pos hs] at h
      rw [hs] at h
      exact Bool.noConfusion h
    · have hs' : s.2 = false := by cases h2 : s.2 with | true => exact absurd h2 hs | false => rfl
      simp only [btL] at h ⊢
      rw [if_neg hs] at h ⊢
      rw [if_neg (show ¬ (app s t).2 = true from hs)]
      obtain ⟨e1, e2⟩ := btL_app n (edS (gv 1 s) (ns 1 255 s)) t h
      obtain ⟨f1, f2⟩ := edS_app t e2
      obtain ⟨g1, g2, _⟩ := ns_app t f2
      refine ⟨?_, hs'⟩
      show (btL n (edS (gv 1 (app s t)) (ns 1 255 (app s t)))).2 = app (btL n (edS (gv 1 s) (ns 1 255 s))).2 t
      rw [g1, g2, f1, e1]
theorem cmSk_app {k : Int} {s : St} (t : List Int) (h : (cmSk k s).2 = false) : cmSk k (app s t) = app (cmSk k s) t ∧ s.2 = false := by
  by_cases k3 : k = 3
  · subst k3; exact ads_app t (show (ads s).2 = false from h)
  by_cases k4 : k = 4
  · subst k4
    obtain ⟨e1, _, e3⟩ := ns_app (s := s) t (show (ns 4 2147483647 s).2 = false from h)
    exact ⟨e1, e3⟩
  by_cases k6 : k = 6
  · subst k6
    obtain ⟨e1, _, e3⟩ := ns_app (s := gs 8 s) t (show (ns 4 2147483647 (gs 8 s)).2 = false from h)
    obtain ⟨f1, _, f3⟩ := gs_app t e3
    exact ⟨by show ns 4 2147483647 (gs 8 (app s t)) = _; rw [f1, e1]; rfl, f3⟩
  by_cases k7 : k = 7
  · subst k7
    obtain ⟨e1, e2⟩ := btL_app (gv 1 s).toNat (ns 1 20 s) t (show (btL (gv 1 s).toNat (ns 1 20 s)).2.2 = false from h)
    obtain ⟨f1, f2, f3⟩ := ns_app t e2
    exact ⟨by show (btL (gv 1 (app s t)).toNat (ns 1 20 (app s t))).2 = _; rw [f1, f2, e1]; rfl, f3⟩
  by_cases k5 : k = 5
  · subst k5; exact ⟨rfl, h⟩
  by_cases k8 : k = 8
  · subst k8; exact ⟨rfl, h⟩
  have e1 : ∀ u, cmSk k u = edS k u := fun u => by unfold cmSk; rw [if_neg k3, if_neg k4, if_neg k6, if_neg k7, if_neg k5, if_neg k8]
  rw [e1] at h
  rw [e1, e1]
  exact edS_app t h
theorem cmS_app {s : St} (t : List Int) (h : (cmS s).2 = false) : cmS (app s t) = app (cmS s) t := by
  obtain ⟨e1, e2⟩ := cmSk_app (k := gv 1 s) (s := ns 1 255 s) t h
  obtain ⟨f1, f2, _⟩ := ns_app t e2
  show cmSk (gv 1 (app s t)) (ns 1 255 (app s t)) = _
  rw [f1, f2, e1]; rfl
theorem prS_app : ∀ (n : Nat) (s : St) (t : List Int), (prS n s).2 = false → prS n (app s t) = app (prS n s) t ∧ s.2 = false
  | 0, s, t, h => ⟨rfl, h⟩
  | n + 1, s, t, h => by
    obtain ⟨e1, e2⟩ := prS_app n (ns 1 255 s) t h
    obtain ⟨f1, _, f3⟩ := ns_app t e2
    exact ⟨by show prS n (ns 1 255 (app s t)) = _; rw [f1, e1]; rfl, f3⟩
theorem rtS_app : ∀ (n : Nat) (s : St) (t : List Int), (rtS n s).2 = false → rtS n (app s t) = app (rtS n s) t ∧ s.2 = false
  | 0, s, t, h => ⟨rfl, h⟩
  | n + 1, s, t, h => by
    by_cases hs : s.2 = true
    · exfalso
      simp only [rtS] at h
      rw [if_pos hs] at h
      rw [hs] at h
      exact Bool.noConfusion h
    · have hs' : s.2 = false := by cases h2 : s.2 with | true => exact absurd h2 hs | false => rfl
      simp only [rtS] at h ⊢
      rw [if_neg hs] at h ⊢
      rw [if_neg (show ¬ (app s t).2 = true from hs)]
      obtain ⟨e1, e2⟩ := rtS_app n (ns 4 2147483647 (ps s)) t h
      obtain ⟨f1, _, f3⟩ := ns_app t e2
      obtain ⟨g1, _⟩ := ps_app t f3
      exact ⟨by rw [g1, f1, e1], hs'⟩
theorem hdS_app {s : St} (t : List Int) (h : (hdS s).2 = false) : hdS (app s t) = app (hdS s) t := by
  obtain ⟨a1, _, a3⟩ := ns_app (k := 4) (m := 2147483647) t h
  obtain ⟨b1, _, b3⟩ := ns_app (k := 4) (m := 2147483647) t a3
  obtain ⟨c1, _, c3⟩ := ns_app (k := 4) (m := 2147483648) t b3
  obtain ⟨d1, _, _⟩ := ns_app (k := 1) (m := 8) t c3
  unfold hdS
  rw [d1, c1, b1, a1]
theorem pbS_app {s : St} (t : List Int) (h : (pbS s).2 = false) : pbS (app s t) = app (pbS s) t := by
  obtain ⟨a1, a2⟩ := prS_app (gv 1 (hdS s)).toNat (ns 1 255 (hdS s)) t h
  obtain ⟨b1, b2, b3⟩ := ns_app t a2
  have c1 := hdS_app t b3
  unfold pbS
  rw [c1, b1, b2, a1]
theorem rrS_app {s : St} (t : List Int) (h : (rrS s).2 = false) : rrS (app s t) = app (rrS s) t := by
  obtain ⟨a1, a2⟩ := rtS_app (gv 2 (pbS s)).toNat (ns 2 65535 (pbS s)) t h
  obtain ⟨b1, b2, b3⟩ := ns_app t a2
  have c1 := pbS_app t b3
  unfold rrS
  rw [c1, b1, b2, a1]

/-- A reader that takes all of l takes no beginning of it, and not l with more behind. -/
theorem torn {F : St → St} (hF : ∀ (s : St) (t : List Int), (F s).2 = false → F (app s t) = app (F s) t) {l : List Int} (hl : F (l, false) = ([], false)) :
    (∀ m, m < l.length → (!(F (l.take m, false)).2 && (F (l.take m, false)).1.isEmpty) = false) ∧ (!(F (l ++ [0], false)).2 && (F (l ++ [0], false)).1.isEmpty) = false := by
  refine ⟨fun m hm => ?_, ?_⟩
  · cases h : (!(F (l.take m, false)).2 && (F (l.take m, false)).1.isEmpty) with
    | false => rfl
    | true =>
      exfalso
      simp only [Bool.and_eq_true, Bool.not_eq_true'] at h
      have h1 := hF (l.take m, false) (l.drop m) h.1
      have e : app (l.take m, false) (l.drop m) = (l, false) := by unfold app; rw [List.take_append_drop]
      rw [e, hl] at h1
      have h2 : ([] : List Int) = (F (l.take m, false)).1 ++ l.drop m := congrArg Prod.fst h1
      have h3 := congrArg List.length h2
      rw [List.length_append, List.length_drop, List.length_nil] at h3
      omega
  · have h1 := hF (l, false) [0] (by rw [hl])
    have e : app (l, false) [0] = (l ++ [0], false) := rfl
    rw [e, hl] at h1
    rw [h1]
    rfl
theorem rd_torn {c : S29} (hX : cmdX c = false) (ho : okC c) (hi : ∀ x ∈ c.f6, okA x) : (∀ m, m < (cmdB c).length → rdE ((cmdB c).take m) = 2) ∧ rdE (cmdB c ++ [0]) = 2 := by
  have h := torn (F := cmS) (fun s t => cmS_app t) (cm_be c hX ho hi)
  refine ⟨fun m hm => ?_, ?_⟩
  · unfold rdE rdOk; rw [h.1 m hm, if_neg Bool.false_ne_true]
  · unfold rdE rdOk; rw [h.2, if_neg Bool.false_ne_true]
theorem rr_torn {l : List Int} (hl : rrS (l, false) = ([], false)) : (∀ m, m < l.length → rrE (l.take m) = 2) ∧ rrE (l ++ [0]) = 2 := by
  have h := torn (F := rrS) (fun s t => rrS_app t) hl
  refine ⟨fun m hm => ?_, ?_⟩
  · unfold rrE rrOk; rw [h.1 m hm, if_neg Bool.false_ne_true]
  · unfold rrE rrOk; rw [h.2, if_neg Bool.false_ne_true]

/-! ### A reply's bytes -/
def pX (p : Int) : Bool := decide (p < 0) || decide (255 < p)
def rtX (x : PRefD.S70) : Bool := prefX x.f0.f1 || fitX x.f1
def rtB (x : PRefD.S70) : List Int := prefB x.f0.f0.f0 x.f0.f0.f1 x.f0.f1 ++ be 4 (w64 x.f1)
def okRt (x : PRefD.S70) : Prop := u64 x.f0.f0.f0 ∧ u64 x.f0.f0.f1
/-- A reply. -/
structure Rp where
  e : Int
  hop : Int
  n : Int
  at_ : Int
  P : List Int
  R : List PRefD.S70
def rpX (x : Rp) : Bool := (decide (x.e < 0) || decide (8 < x.e)) || ((decide (x.hop < -1) || decide (2147483647 < x.hop)) || (fitX x.n || (fitX x.at_ || (decide (255 < x.P.length) || (decide (65535 < x.R.length) || (x.P.any pX || x.R.any rtX))))))
def rpB (x : Rp) : List Int := be 1 x.e ++ (be 4 (w64 (wrap64 (x.hop + 1))) ++ (be 4 (w64 x.n) ++ (be 4 (w64 x.at_) ++ (be 1 (w64 x.P.length) ++ (x.P.map (· % 256) ++ (be 2 (w64 x.R.length) ++ x.R.flatMap rtB))))))
def encR (x : Rp) : List Int := if rpX x = true then [] else rpB x
theorem pr_be : ∀ (P : List Int) (rest : List Int), P.any pX = false → prS P.length (P.map (· % 256) ++ rest, false) = (rest, false)
  | [], rest, _ => rfl
  | p :: P, rest, h => by
    rw [List.any_cons] at h
    obtain ⟨h1, h2⟩ := orf h
    obtain ⟨h3, h4⟩ := orf (show (decide (p < 0) || decide (255 < p)) = false from h1)
    have h5 := of_decide_eq_false h3
    have h6 := of_decide_eq_false h4
    have e : (p :: P).map (· % 256) ++ rest = be 1 p ++ (P.map (· % 256) ++ rest) := by
      have : be 1 p = [p % 256] := by show [p / 2 ^ (8 * 0) % 256] = _; simp
      rw [this]; rfl
    rw [e]
    show prS P.length (ns 1 255 _) = _
    rw [(num_be 1 p 255 _ (by omega) (by rw [p1]; omega) (by omega)).2]
    exact pr_be P rest h2
theorem rt_be : ∀ (R : List PRefD.S70) (rest : List Int), R.any rtX = false → (∀ x ∈ R, okRt x) → rtS R.length (R.flatMap rtB ++ rest, false) = (rest, false)
  | [], rest, _, _ => rfl
  | x :: R, rest, h, ho => by
    rw [List.any_cons] at h
    obtain ⟨h1, h2⟩ := orf h
    obtain ⟨h3, h4⟩ := orf (show (prefX x.f0.f1 || fitX x.f1) = false from h1)
    obtain ⟨f0, f1⟩ := of_fitX h4
    have hx := ho x (by simp)
    have e : (x :: R).flatMap rtB ++ rest = prefB x.f0.f0.f0 x.f0.f0.f1 x.f0.f1 ++ (be 4 x.f1 ++ (R.flatMap rtB ++ rest)) := by
      rw [List.flatMap_cons]
      unfold rtB
      rw [w64_small f0 (by omega)]
      simp only [List.append_assoc]
    rw [e]
    simp only [List.length_cons, rtS]
    rw [if_neg Bool.false_ne_true, ps_be _ _ _ _ hx.1 hx.2 h3, (num_be 4 x.f1 2147483647 _ f0 (by rw [p4]; omega) f1).2]
    exact rt_be R rest h2 (fun y hy => ho y (by simp [hy]))
theorem rr_be (x : Rp) (h : rpX x = false) (ho : ∀ y ∈ x.R, okRt y) : rrS (rpB x, false) = ([], false) := by
  obtain ⟨a1, h⟩ := orf h
  obtain ⟨a2, h⟩ := orf h
  obtain ⟨a3, h⟩ := orf h
  obtain ⟨a4, h⟩ := orf h
  obtain ⟨a5, h⟩ := orf h
  obtain ⟨a6, h⟩ := orf h
  obtain ⟨a7, a8⟩ := orf h
  obtain ⟨b1, b2⟩ := orf a1
  obtain ⟨c1, c2⟩ := orf a2
  have b1 := of_decide_eq_false b1
  have b2 := of_decide_eq_false b2
  have c1 := of_decide_eq_false c1
  have c2 := of_decide_eq_false c2
  have a5 := of_decide_eq_false a5
  have a6 := of_decide_eq_false a6
  obtain ⟨d1, d2⟩ := of_fitX a3
  obtain ⟨e1, e2⟩ := of_fitX a4
  have p2 : (256 : Int) ^ 2 = 65536 := by decide
  have hh : hdS (rpB x, false) = (be 1 (x.P.length : Int) ++ (x.P.map (· % 256) ++ (be 2 (x.R.length : Int) ++ x.R.flatMap rtB)), false) := by
    unfold hdS rpB
    rw [wrap_of (by omega) (by omega), w64_small (n := x.hop + 1) (by omega) (by omega), w64_small d1 (by omega), w64_small e1 (by omega), w64_small (n := (x.P.length : Int)) (by omega) (by omega), w64_small (n := (x.R.length : Int)) (by omega) (by omega)]
    rw [(num_be 1 x.e 8 _ (by omega) (by rw [p1]; omega) (by omega)).2, (num_be 4 (x.hop + 1) 2147483648 _ (by omega) (by rw [p4]; omega) (by omega)).2, (num_be 4 x.n 2147483647 _ d1 (by rw [p4]; omega) d2).2, (num_be 4 x.at_ 2147483647 _ e1 (by rw [p4]; omega) e2).2]
  have hp : pbS (rpB x, false) = (be 2 (x.R.length : Int) ++ x.R.flatMap rtB, false) := by
    unfold pbS
    rw [hh]
    obtain ⟨n1, n2⟩ := num_be 1 (x.P.length : Int) 255 (x.P.map (· % 256) ++ (be 2 (x.R.length : Int) ++ x.R.flatMap rtB)) (by omega) (by rw [p1]; omega) (by omega)
    rw [n1, n2, Int.toNat_natCast]
    exact pr_be _ _ a7
  unfold rrS
  rw [hp]
  obtain ⟨n1, n2⟩ := num_be 2 (x.R.length : Int) 65535 (x.R.flatMap rtB) (by omega) (by rw [p2]; omega) (by omega)
  rw [n1, n2, Int.toNat_natCast]
  have := rt_be x.R [] a8 ho
  rwa [List.append_nil] at this
end Go.Proofs.Ytliighhedmfgjaa.Cmd
