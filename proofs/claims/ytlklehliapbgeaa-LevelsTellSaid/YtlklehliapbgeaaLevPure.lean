/- Package levels over lists alone: the best ways, what they are, and the way that is chosen. -/
import Derived.Test.YtlklehliapbgeaaLevRow
namespace Go.Proofs.Ytlklehliapbgeaa.Lev
open Go.RowKit Go.Proofs.Ytlklehliapbgeaa.PLev Go.Proofs.YtlklehliapbgeaaW.PrintWords Go.Proofs.YtlklehliapbgeaaW.PrintLast Go.Proofs.YtlklehliapbgeaaW.PrintMore Go.Proofs.Ytlklehliapbgeaa.Histo

def cand (c : List Int) (at_ : Nat) (less : List S85) (m : Nat) : S85 := ⟨true, (rd_T85 less m).f1 + S c m (m - at_), (rd_T85 less m).f2 + 1, m⟩
def lt2 (a b : S85) : Prop := a.f1 < b.f1 ∨ (a.f1 = b.f1 ∧ a.f2 < b.f2)
theorem pick_cases (c : List Int) (at_ : Nat) (less : List S85) (m : Nat) (out : S85) :
    ((rd_T85 less m).f0 = false ∧ pickB c at_ less m out = out) ∨ ((rd_T85 less m).f0 = true ∧ (out.f0 = false ∨ lt2 (cand c at_ less m) out) ∧ pickB c at_ less m out = cand c at_ less m) ∨
    ((rd_T85 less m).f0 = true ∧ out.f0 = true ∧ ¬ lt2 (cand c at_ less m) out ∧ pickB c at_ less m out = out) := by
  by_cases hx : (rd_T85 less m).f0 = true
  · by_cases hy : out.f0 = false ∨ lt2 (cand c at_ less m) out
    · exact .inr (.inl ⟨hx, hy, pick_yes c at_ less m out _ _ rfl rfl hx hy⟩)
    · have ho : out.f0 = true := by
        cases h : out.f0 with
        | true => rfl
        | false => exact absurd (.inl h) hy
      refine .inr (.inr ⟨hx, ho, fun h => hy (.inr h), pick_no c at_ less m out _ _ rfl rfl hx ho (fun h => hy (.inr (.inl h))) (fun h => hy (.inr (.inr h)))⟩)
  · have hx' := Bool.eq_false_iff.mpr hx
    exact .inl ⟨hx', pick_off c at_ less m out hx'⟩

/-- What is known behind the places up to next. -/
def Best (c : List Int) (at_ : Nat) (less : List S85) (next : Nat) (out : S85) : Prop :=
  (out.f0 = false → ∀ m, at_ + 1 ≤ m → m < next → (rd_T85 less m).f0 = false) ∧
  (out.f0 = true → ∃ m, at_ + 1 ≤ m ∧ m < next ∧ (rd_T85 less m).f0 = true ∧ out = cand c at_ less m ∧
    ∀ m', at_ + 1 ≤ m' → m' < next → (rd_T85 less m').f0 = true → ¬ lt2 (cand c at_ less m') (cand c at_ less m) ∧ (m' < m → lt2 (cand c at_ less m) (cand c at_ less m')))
theorem best_start (c : List Int) (at_ : Nat) (less : List S85) : Best c at_ less (at_ + 1) z85 := ⟨fun _ m h1 h2 => by omega, fun h => by cases h⟩
theorem best_next {c : List Int} {at_ : Nat} {less : List S85} {next : Nat} {out : S85} (h : Best c at_ less next out) (hn : at_ + 1 ≤ next) : Best c at_ less (next + 1) (pickB c at_ less next out) := by
  obtain ⟨h1, h2⟩ := h
  rcases pick_cases c at_ less next out with ⟨hx, hp⟩ | ⟨hx, hy, hp⟩ | ⟨hx, ho, hy, hp⟩
  · rw [hp]
    refine ⟨fun ho m a b => ?_, fun ho => ?_⟩
    · by_cases e : m = next
      · rw [e]; exact hx
      · exact h1 ho m a (by omega)
    · obtain ⟨m, a, b, d, e, f⟩ := h2 ho
      refine ⟨m, a, by omega, d, e, fun m' a' b' d' => ?_⟩
      by_cases e' : m' = next
      · rw [e', hx] at d'; cases d'
      · exact f m' a' (by omega) d'
  · rw [hp]
    refine ⟨(fun ho => by cases ho), fun _ => ⟨next, hn, by omega, hx, rfl, fun m' a' b' d' => ?_⟩⟩
    by_cases e' : m' = next
    · rw [e']
      exact ⟨fun h => by unfold lt2 at h; omega, fun h => by omega⟩
    · have hlt : lt2 (cand c at_ less next) (cand c at_ less m') := by
        rcases hy with hy | hy
        · have := h1 hy m' a' (by omega); rw [this] at d'; cases d'
        · cases ho : out.f0 with
          | false => have := h1 ho m' a' (by omega); rw [this] at d'; cases d'
          | true =>
            obtain ⟨m, a, b, d, e, f⟩ := h2 ho
            have := (f m' a' (by omega) d').1
            rw [e] at hy
            unfold lt2 at *
            omega
      refine ⟨fun h => ?_, fun _ => hlt⟩
      unfold lt2 at *
      omega
  · rw [hp]
    refine ⟨(fun h => by rw [ho] at h; cases h), fun _ => ?_⟩
    obtain ⟨m, a, b, d, e, f⟩ := h2 ho
    refine ⟨m, a, by omega, d, e, fun m' a' b' d' => ?_⟩
    by_cases e' : m' = next
    · rw [e']
      rw [e] at hy
      exact ⟨hy, fun h => by omega⟩
    · exact f m' a' (by omega) d'
theorem best_loop (c : List Int) (at_ : Nat) (less : List S85) : ∀ (d next : Nat) (out : S85), at_ + 1 ≤ next → Best c at_ less next out → Best c at_ less (next + d) (fromL c at_ less d next out)
  | 0, _, _, _, h => h
  | d + 1, next, out, hn, h => by
    have := best_loop c at_ less d (next + 1) _ (by omega) (best_next h hn)
    rw [show next + (d + 1) = next + 1 + d by omega]
    exact this
/-- The best way from a place on. -/
theorem best_from (c : List Int) (width stride at_ : Nat) (less : List S85) (h : at_ < width) (hs : 1 ≤ stride) : Best c at_ less (hiB width stride at_ + 1) (fromP c width stride at_ less) := by
  have := best_loop c at_ less (hiB width stride at_ - at_) (at_ + 1) z85 (by omega) (best_start c at_ less)
  have e : at_ + 1 + (hiB width stride at_ - at_) = hiB width stride at_ + 1 := by unfold hiB; omega
  rw [e] at this
  exact this

def waysL (c : List Int) (width stride : Nat) : Nat → List S85
  | 0 => rowL c width stride none
  | n + 1 => rowL c width stride (some (waysL c width stride n))
theorem waysL_length (c : List Int) (width stride n : Nat) : (waysL c width stride n).length = width + 1 := by cases n <;> exact rowL_length _ _ _ _
theorem row_at (c : List Int) (width stride : Nat) (less : Option (List S85)) (a : Nat) (ha : a < width) : rd_T85 (rowL c width stride less) a = match less with | none => z85 | some l => fromP c width stride a l := by
  unfold rd_T85 rowL
  rw [List.getD_eq_getElem?_getD, Int.toNat_natCast, List.getElem?_append_left (by simpa using ha), List.getElem?_map, List.getElem?_range ha]
  rfl
theorem row_end (c : List Int) (width stride : Nat) (less : Option (List S85)) : rd_T85 (rowL c width stride less) width = ⟨true, 0, 0, 0⟩ := by
  unfold rd_T85 rowL
  rw [List.getD_eq_getElem?_getD, Int.toNat_natCast, List.getElem?_append_right (by simp)]
  simp
theorem ways_end (c : List Int) (width stride n : Nat) : rd_T85 (waysL c width stride n) width = ⟨true, 0, 0, 0⟩ := by cases n <;> exact row_end _ _ _ _
theorem ways_zero (c : List Int) (width stride a : Nat) (ha : a < width) : rd_T85 (waysL c width stride 0) a = z85 := row_at c width stride none a ha
theorem ways_succ (c : List Int) (width stride n a : Nat) (ha : a < width) : rd_T85 (waysL c width stride (n + 1)) a = fromP c width stride a (waysL c width stride n) := row_at c width stride (some _) a ha

/-- Ways are small. -/
def okW (l : List S85) (n : Nat) : Prop := ∀ m : Nat, m < l.length → okB (rd_T85 l m) ∧ (rd_T85 l m).f2 ≤ n
theorem ok_zero : okB z85 := by unfold okB z85; simp
theorem ok_one : okB ⟨true, 0, 0, 0⟩ := by unfold okB; simp
theorem ways_ok (c : List Int) (width stride : Nat) (hw : width ≤ 128) (hs : 1 ≤ stride ∧ stride ≤ 20) : ∀ n : Nat, n ≤ 499 → okW (waysL c width stride n) n
  | 0, _, m, hm => by
    rw [waysL_length] at hm
    by_cases h : m = width
    · subst h; rw [ways_end]; exact ⟨ok_one, Int.le_refl _⟩
    · rw [ways_zero _ _ _ _ (by omega)]; exact ⟨ok_zero, Int.le_refl _⟩
  | n + 1, hn, m, hm => by
    rw [waysL_length] at hm
    by_cases h : m = width
    · subst h; rw [ways_end]; exact ⟨ok_one, by show (0 : Int) ≤ _; omega⟩
    · rw [ways_succ _ _ _ _ _ (by omega)]
      have hb := best_from c width stride m (waysL c width stride n) (by omega) hs.1
      cases ho : (fromP c width stride m (waysL c width stride n)).f0 with
      | true =>
        obtain ⟨m', a, b, d, e, _⟩ := hb.2 ho
        have hm' : m' ≤ width ∧ m' ≤ m + 20 := by unfold hiB at b; omega
        have hi := ways_ok c width stride hw hs n (by omega) m' (by rw [waysL_length]; omega)
        obtain ⟨⟨p1, p2, p3, p4, p5, p6⟩, p7⟩ := hi
        have hS := S_nonneg c (m' : Int) (m' - m)
        have hS2 := S_le c (m' : Int) (m' - m) (near_20 _ _ _ (by omega))
        rw [e]
        unfold cand okB
        dsimp only
        omega
      | false =>
        have e : fromP c width stride m (waysL c width stride n) = z85 := by
          have key : ∀ (d next : Nat) (out : S85), out = z85 → (∀ k : Nat, next ≤ k → k < next + d → (rd_T85 (waysL c width stride n) k).f0 = false) → fromL c m (waysL c width stride n) d next out = z85 := by
            intro d
            induction d with
            | zero => intro next out ho _; exact ho
            | succ d ih =>
              intro next out ho hk
              simp only [fromL]
              refine ih (next + 1) _ ?_ (fun k h1 h2 => hk k (by omega) (by omega))
              rw [pick_off _ _ _ _ _ (hk next (by omega) (by omega))]; exact ho
          exact key _ _ _ rfl (fun k h1 h2 => hb.1 ho k h1 (by unfold hiB at h2 ⊢; omega))
        rw [e]
        exact ⟨ok_zero, by show (0 : Int) ≤ _; omega⟩

/-- A way goes on. -/
theorem way_step (c : List Int) (width stride n a : Nat) (ha : a < width) (hs : 1 ≤ stride) (ho : (rd_T85 (waysL c width stride n) a).f0 = true) :
    ∃ n' m : Nat, n = n' + 1 ∧ (rd_T85 (waysL c width stride n) a).f3 = m ∧ a < m ∧ m ≤ width ∧ m ≤ a + stride ∧ (rd_T85 (waysL c width stride n') m).f0 = true ∧ rd_T85 (waysL c width stride n) a = cand c a (waysL c width stride n') m := by
  cases n with
  | zero => rw [ways_zero _ _ _ _ ha] at ho; cases ho
  | succ n =>
    rw [ways_succ _ _ _ _ _ ha] at ho ⊢
    obtain ⟨m, h1, h2, h3, h4, _⟩ := (best_from c width stride a (waysL c width stride n) ha hs).2 ho
    refine ⟨n, m, rfl, by rw [h4]; rfl, by omega, by unfold hiB at h2; omega, by unfold hiB at h2; omega, h3, h4⟩

def walkL (c : List Int) (width stride : Nat) : Nat → Nat → List Int
  | 0, _ => []
  | n + 1, a => if a = width then [] else (rd_T85 (waysL c width stride (n + 1)) a).f3 :: walkL c width stride n (rd_T85 (waysL c width stride (n + 1)) a).f3.toNat
theorem walk_end (c : List Int) (width stride n : Nat) : walkL c width stride n width = [] := by
  cases n with
  | zero => rfl
  | succ n => simp [walkL]

def mayB (width low most stride : Int) : Bool := decide (1 ≤ width ∧ width ≤ 128 ∧ 0 ≤ low ∧ low ≤ width ∧ 0 ≤ most ∧ most ≤ 128 ∧ 1 ≤ stride ∧ stride ≤ 20)
/-- What Choose answers. -/
def chooseP (width low most stride : Int) (c : List Int) : List Int × Int :=
  if mayB width low most stride = true then
    if (rd_T85 (waysL c width.toNat stride.toNat most.toNat) low).f0 = true then (walkL c width.toNat stride.toNat most.toNat low.toNat, 0) else ([], 1)
  else ([], 1)
end Go.Proofs.Ytlklehliapbgeaa.Lev
