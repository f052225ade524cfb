/- The reference's choice of levels, over lists alone: row by row; it is the same choice. -/
import Derived.Test.YtlklehliapbgeaaLevRefP
namespace Go.Proofs.Ytlklehliapbgeaa.Lev
open Go.RowKit Go.Proofs.Ytlklehliapbgeaa.PLev Go.Proofs.Ytlklehliapbgeaa.PWay Go.Proofs.YtlklehliapbgeaaW.PrintWords Go.Proofs.YtlklehliapbgeaaW.PrintLast Go.Proofs.YtlklehliapbgeaaW.PrintMore Go.Proofs.Ytlklehliapbgeaa.Histo

def candR (c : List Int) (x : S88) (a t : Nat) : S88 := ⟨true, x.f1 + S c t (t - a), (t : Int) :: x.f2⟩
def stepR (c : List Int) (x : S88) (a t : Nat) (cur : S88) : S88 := if x.f0 = true then (if betterB (candR c x a t) cur = true then candR c x a t else cur) else cur
def scanR (c : List Int) (bl : Nat → S88) (a : Nat) : Nat → Nat → S88 → S88
  | 0, _, cur => cur
  | d + 1, t, cur => scanR c bl a d (t + 1) (stepR c (bl t) a t cur)
def bestF (c : List Int) (width stride low : Nat) : Nat → Nat → S88
  | 0, a => if a = width then ⟨true, 0, []⟩ else z88
  | n + 1, a => if low ≤ a ∧ a < width then scanR c (bestF c width stride low n) a (hiB width stride a - a) (a + 1) (bestF c width stride low n a) else bestF c width stride low n a

/-- Of the levels for which P holds x is the best. -/
def OptR (c : List Int) (a : Int) (P : List Int → Prop) (x : S88) : Prop :=
  (x.f0 = false → ∀ l, ¬ P l) ∧ (x.f0 = true → P x.f2 ∧ x.f1 = costG c a x.f2 ∧ ∀ l, P l → ¬ ltW c a l x.f2)
theorem OptR.imp {c : List Int} {a : Int} {P P' : List Int → Prop} {x : S88} (h : OptR c a P x) (hp : ∀ l, P l ↔ P' l) : OptR c a P' x :=
  ⟨fun h0 l hl => h.1 h0 l ((hp l).2 hl), fun h1 => ⟨(hp _).1 (h.2 h1).1, (h.2 h1).2.1, fun l hl => (h.2 h1).2.2 l ((hp l).2 hl)⟩⟩
def PN (width stride a : Int) (n : Nat) (l : List Int) : Prop := Goes width stride a l ∧ l.length ≤ n
def PT (width stride a : Int) (n : Nat) (t : Int) (l : List Int) : Prop := Goes width stride a l ∧ (l.length ≤ n ∨ (l.length ≤ n + 1 ∧ ∃ y ys, l = y :: ys ∧ y < t))
theorem better_iff {c : List Int} {a : Int} {x y : S88} (hx : x.f0 = true) (hy : y.f0 = true) (h1 : x.f1 = costG c a x.f2) (h2 : y.f1 = costG c a y.f2) : betterB x y = true ↔ ltW c a x.f2 y.f2 := by
  unfold betterB ltW
  rw [if_pos ⟨hx, hy⟩, h1, h2]
  by_cases e1 : costG c a x.f2 = costG c a y.f2
  · rw [if_pos e1]
    by_cases e2 : x.f2.length = y.f2.length
    · rw [if_pos e2]
      constructor
      · exact fun h => .inr ⟨e1, .inr ⟨e2, h⟩⟩
      · rintro (h | ⟨_, h | ⟨_, h⟩⟩)
        · omega
        · omega
        · exact h
    · rw [if_neg e2, decide_eq_true_eq]
      constructor
      · exact fun h => .inr ⟨e1, .inl h⟩
      · rintro (h | ⟨_, h | ⟨h, _⟩⟩)
        · omega
        · exact h
        · omega
  · rw [if_neg e1, decide_eq_true_eq]
    constructor
    · exact fun h => .inl h
    · rintro (h | ⟨h, _⟩)
      · exact h
      · omega
theorem step_opt {c : List Int} {width stride : Int} {n a t : Nat} {x cur : S88} (h : OptR c a (PT width stride a n t) cur) (hx : OptR c t (PN width stride t n) x) (h1 : a + 1 ≤ t) (h2 : (t : Int) ≤ a + stride) : OptR c a (PT width stride a n ((t + 1 : Nat) : Int)) (stepR c x a t cur) := by
  have split : ∀ l, PT width stride a n ((t + 1 : Nat) : Int) l → PT width stride a n t l ∨ ∃ ys, l = (t : Int) :: ys ∧ PN width stride t n ys := by
    rintro l ⟨hg, hl | ⟨hl, y, ys, rfl, hy⟩⟩
    · exact .inl ⟨hg, .inl hl⟩
    · by_cases e : y = t
      · subst e
        exact .inr ⟨ys, rfl, hg.2.2, by simp only [List.length_cons] at hl; omega⟩
      · exact .inl ⟨hg, .inr ⟨hl, y, ys, rfl, by omega⟩⟩
  have more : ∀ l, PT width stride a n t l → PT width stride a n ((t + 1 : Nat) : Int) l := by
    rintro l ⟨hg, hl | ⟨hl, y, ys, rfl, hy⟩⟩
    · exact ⟨hg, .inl hl⟩
    · exact ⟨hg, .inr ⟨hl, y, ys, rfl, by omega⟩⟩
  unfold stepR
  cases hf : x.f0 with
  | false =>
    rw [if_neg (by decide)]
    refine ⟨fun h0 l hl => ?_, fun h0 => ⟨more _ (h.2 h0).1, (h.2 h0).2.1, fun l hl => ?_⟩⟩
    · rcases split l hl with hl | ⟨ys, rfl, hy⟩
      · exact h.1 h0 l hl
      · exact hx.1 hf ys hy
    · rcases split l hl with hl | ⟨ys, rfl, hy⟩
      · exact (h.2 h0).2.2 l hl
      · exact absurd hy (hx.1 hf ys)
  | true =>
    rw [if_pos rfl]
    obtain ⟨⟨x1, x2⟩, x3, x4⟩ := hx.2 hf
    have hw0 : (candR c x a t).f0 = true := rfl
    have hw2 : (candR c x a t).f2 = (t : Int) :: x.f2 := rfl
    have hw1 : (candR c x a t).f1 = costG c a (candR c x a t).f2 := by
      show x.f1 + S c t (t - a) = S c t ((t : Int) - (a : Int)).toNat + costG c t x.f2
      rw [sub_nat, x3]; omega
    have hwP : PT width stride a n ((t + 1 : Nat) : Int) (candR c x a t).f2 := by
      rw [hw2]
      exact ⟨⟨by omega, by omega, x1⟩, .inr ⟨by simp only [List.length_cons]; omega, _, _, rfl, by omega⟩⟩
    have hwt : ∀ ys, PN width stride t n ys → ¬ ltW c a ((t : Int) :: ys) (candR c x a t).f2 := fun ys hy hlt => x4 ys hy (ltW_cons (by rw [hw2] at hlt; exact hlt))
    cases hc : cur.f0 with
    | false =>
      have hb : betterB (candR c x a t) cur = true := by unfold betterB; rw [if_neg (by rw [hc]; simp)]; rfl
      rw [if_pos hb]
      refine ⟨fun h0 => (by rw [hw0] at h0; cases h0), fun _ => ⟨hwP, hw1, fun l hl => ?_⟩⟩
      rcases split l hl with hl | ⟨ys, rfl, hy⟩
      · exact absurd hl (h.1 hc l)
      · exact hwt ys hy
    | true =>
      obtain ⟨c1, c2, c3⟩ := h.2 hc
      have hiff := better_iff (c := c) (a := a) hw0 hc hw1 c2
      by_cases hb : betterB (candR c x a t) cur = true
      · rw [if_pos hb]
        have hlt := hiff.1 hb
        refine ⟨fun h0 => (by rw [hw0] at h0; cases h0), fun _ => ⟨hwP, hw1, fun l hl => ?_⟩⟩
        rcases split l hl with hl | ⟨ys, rfl, hy⟩
        · exact fun hh => c3 l hl (hh.trans hlt)
        · exact hwt ys hy
      · rw [if_neg hb]
        have hnlt : ¬ ltW c a (candR c x a t).f2 cur.f2 := fun hh => hb (hiff.2 hh)
        refine ⟨fun h0 => (by rw [hc] at h0; cases h0), fun _ => ⟨more _ c1, c2, fun l hl => ?_⟩⟩
        rcases split l hl with hl | ⟨ys, rfl, hy⟩
        · exact c3 l hl
        · intro hh
          by_cases e : ltW c a (candR c x a t).f2 ((t : Int) :: ys)
          · exact hnlt (e.trans hh)
          · have := ltW_same (hwt ys hy) e
            rw [this] at hh
            exact hnlt hh
theorem scan_opt {c : List Int} {width stride : Int} {n a : Nat} {bl : Nat → S88} : ∀ (d t : Nat) (cur : S88), OptR c a (PT width stride a n t) cur → (∀ m, a < m → m < t + d → OptR c m (PN width stride m n) (bl m)) → a + 1 ≤ t → ((t + d : Nat) : Int) ≤ a + stride + 1 →
    OptR c a (PT width stride a n ((t + d : Nat) : Int)) (scanR c bl a d t cur)
  | 0, t, cur, h, _, _, _ => h
  | d + 1, t, cur, h, hb, h1, h2 => by
    have := scan_opt d (t + 1) (stepR c (bl t) a t cur) (step_opt h (hb t (by omega) (by omega)) h1 (by omega)) (fun m h3 h4 => hb m h3 (by omega)) (by omega) (by omega)
    rw [show t + (d + 1) = t + 1 + d by omega]
    exact this
theorem best_opt (c : List Int) (width stride low : Nat) (hs : 1 ≤ stride) : ∀ (n a : Nat), low ≤ a → a ≤ width → OptR c a (PN width stride a n) (bestF c width stride low n a)
  | 0, a, hlo, ha => by
    unfold bestF
    by_cases e : a = width
    · rw [if_pos e]
      subst e
      refine ⟨fun h => (by cases h), fun _ => ⟨⟨rfl, Nat.le_refl _⟩, rfl, fun l hl => ?_⟩⟩
      obtain rfl := List.eq_nil_of_length_eq_zero (Nat.le_zero.mp hl.2)
      intro hh
      rcases hh with hh | ⟨_, hh | ⟨_, hh⟩⟩
      · exact Int.lt_irrefl _ hh
      · exact Nat.lt_irrefl _ hh
      · simp [lexB] at hh
    · rw [if_neg e]
      refine ⟨fun _ l hl => ?_, fun h => (by cases h)⟩
      obtain rfl := List.eq_nil_of_length_eq_zero (Nat.le_zero.mp hl.2)
      have : (a : Int) = width := hl.1
      omega
  | n + 1, a, hlo, ha => by
    have ih := best_opt c width stride low hs n
    unfold bestF
    by_cases e : a = width
    · rw [if_neg (by omega)]
      refine (ih a hlo ha).imp fun l => ⟨fun h => ⟨h.1, by have := h.2; omega⟩, fun h => ⟨h.1, ?_⟩⟩
      have := h.1.length_le
      have := h.2
      omega
    · rw [if_pos ⟨hlo, by omega⟩]
      have hi1 : hiB width stride a ≤ a + stride ∧ hiB width stride a ≤ width ∧ a + 1 ≤ hiB width stride a := by unfold hiB; omega
      have h0 : OptR c a (PT width stride a n ((a + 1 : Nat) : Int)) (bestF c width stride low n a) := by
        refine (ih a hlo ha).imp fun l => ⟨fun h => ⟨h.1, .inl h.2⟩, ?_⟩
        rintro ⟨hg, hl | ⟨hl, y, ys, rfl, hy⟩⟩
        · exact ⟨hg, hl⟩
        · have := hg.1
          omega
      have := scan_opt (bl := bestF c width stride low n) (hiB width stride a - a) (a + 1) _ h0 (fun m h1 h2 => ih m (by omega) (by omega)) (by omega) (by omega)
      refine this.imp fun l => ⟨fun h => ⟨h.1, by rcases h.2 with h | ⟨h, _⟩ <;> omega⟩, fun h => ⟨h.1, ?_⟩⟩
      match l, h with
      | [], h => exact .inl (Nat.zero_le _)
      | y :: ys, h =>
        refine .inr ⟨h.2, y, ys, rfl, ?_⟩
        have h3 := h.1.2.1
        have h4 := h.1.2.2.le.1
        have : (hiB width stride a : Int) = min ((a : Int) + stride) width := by unfold hiB; omega
        omega

/-- What is computed stays small. -/
def okR (n : Nat) (x : S88) : Prop := x.f2.length ≤ n ∧ 0 ≤ x.f1 ∧ x.f1 ≤ 2199023255552 * x.f2.length
theorem cand_ok {c : List Int} {x : S88} {a t n : Nat} (h : okR n x) (h2 : t ≤ a + 20) : okR (n + 1) (candR c x a t) := by
  obtain ⟨p1, p2, p3⟩ := h
  have hS := S_nonneg c (t : Int) (t - a)
  have hS2 := S_le c (t : Int) (t - a) (near_20 _ _ _ (by omega))
  unfold okR candR
  simp only [List.length_cons]
  omega
theorem step_ok {c : List Int} {x cur : S88} {a t n : Nat} (h : okR n x) (hc : okR (n + 1) cur) (h2 : t ≤ a + 20) : okR (n + 1) (stepR c x a t cur) := by
  unfold stepR
  split
  · split
    · exact cand_ok h h2
    · exact hc
  · exact hc
theorem scan_ok {c : List Int} {bl : Nat → S88} {a n : Nat} (hb : ∀ m, okR n (bl m)) : ∀ (d t : Nat) (cur : S88), okR (n + 1) cur → t + d ≤ a + 21 → okR (n + 1) (scanR c bl a d t cur)
  | 0, _, _, h, _ => h
  | d + 1, t, cur, h, h2 => scan_ok hb d (t + 1) _ (step_ok (hb t) h (by omega)) (by omega)
theorem best_ok (c : List Int) (width stride low : Nat) (hs : stride ≤ 20) : ∀ (n a : Nat), okR n (bestF c width stride low n a)
  | 0, a => by
    unfold bestF okR
    split
    · exact ⟨Nat.le_refl _, Int.le_refl _, by simp⟩
    · exact ⟨Nat.le_refl _, Int.le_refl _, by simp [z88]⟩
  | n + 1, a => by
    have ih := best_ok c width stride low hs n
    have h1 : okR (n + 1) (bestF c width stride low n a) := ⟨by have := (ih a).1; omega, (ih a).2⟩
    unfold bestF
    split
    · exact scan_ok ih _ _ _ h1 (by unfold hiB; omega)
    · exact h1

/-- It is the same choice. -/
theorem ref_same (width low most stride : Nat) (c : List Int) (h : Able width low most stride) :
    (if (bestF c width stride low (min most width) low).f0 = true then ((bestF c width stride low (min most width) low).f2, (0 : Int)) else ([], 1)) = chooseP width low most stride c := by
  have hop := best_opt c width stride low (by have := h.2.2.2.2.2.2.1; omega) (min most width) low (Nat.le_refl _) (by have := h.2.2.2.1; omega)
  have hlen : ∀ l, Right width low most stride l → PN width stride low (min most width) l := fun l hl => ⟨hl.2.2, by have := hl.2.2.length_le; have := hl.2.1; omega⟩
  have hback : ∀ l, PN width stride low (min most width) l → Right width low most stride l := fun l hl => ⟨h, by have := hl.2; omega, hl.1⟩
  by_cases hf : (bestF c width stride low (min most width) low).f0 = true
  · rw [if_pos hf]
    obtain ⟨o1, o2, o3⟩ := hop.2 hf
    rcases choose_tells width low most stride c with ⟨h0, _⟩ | ⟨h0, hno⟩
    · have h2 := choose_chosen width low most stride c h0
      have h3 : Chosen c width low most stride (bestF c width stride low (min most width) low).f2 := ⟨hback _ o1, fun m hm => o3 m (hlen m hm)⟩
      have := h3.one h2
      rw [this, ← h0]
    · exact absurd (hback _ o1) (hno _)
  · rw [if_neg hf]
    rcases choose_tells width low most stride c with ⟨h0, hr, _⟩ | ⟨h0, _⟩
    · exact absurd (hlen _ hr) (hop.1 (Bool.eq_false_iff.mpr hf) _)
    · exact h0.symm
end Go.Proofs.Ytlklehliapbgeaa.Lev
