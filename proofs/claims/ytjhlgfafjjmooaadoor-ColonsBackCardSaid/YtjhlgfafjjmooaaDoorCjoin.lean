/- Package colons: numbers written with colons between. -/
import Derived.Test.YtjhlgfafjjmooaaDoorFub
import Derived.Test.YtjhlgfafjjmooaaDoorColF
import Derived.Test.YtjhlgfafjjmooaaDoorShow
namespace Go.Proofs.YtjhlgfafjjmooaaDoor.Dot
open Go.RowKit Go.Proofs.YtjhlgfafjjmooaaDoor.PCidrTells Go.Proofs.YtjhlgfafjjmooaaDoorW.PrintWords Go.Proofs.YtjhlgfafjjmooaaDoorW.PrintLast Go.Proofs.YtjhlgfafjjmooaaDoorW.PrintMore

def ints (ns : List Nat) : List Int := ns.map fun n : Nat => (n : Int)
def joinL (ns : List Nat) : List UInt8 := Lib.join (ns.map hexL) [58]
def joinB (ns : List Nat) : ByteArray := ⟨(joinL ns).toArray⟩
theorem hexF_len : ∀ k x, (hexF k x).length ≤ k + 1
  | 0, _ => by simp [hexF]
  | k + 1, x => by
    by_cases h : x < 16
    · rw [hexF_small _ _ h]; simp
    · rw [hexF_great _ _ h]
      have := hexF_len k (x / 16)
      simp only [List.length_append, List.length_singleton]
      omega
theorem hexL_len (x : Nat) : (hexL x).length ≤ 4 := hexF_len 3 x
theorem join_cons (x : List UInt8) : ∀ (xs : List (List UInt8)), xs ≠ [] → Lib.join (x :: xs) [58] = x ++ 58 :: Lib.join xs [58]
  | [], h => absurd rfl h
  | y :: ys, _ => by simp [Lib.join, List.intercalate, List.intersperse]
theorem joinL_len : ∀ (ns : List Nat), (joinL ns).length ≤ 5 * ns.length
  | [] => by simp [joinL, Lib.join, List.intercalate]
  | [n] => by
    have := hexL_len n
    simp only [joinL, List.map_cons, List.map_nil, List.length_singleton]
    have e : Lib.join [hexL n] [58] = hexL n := by simp [Lib.join, List.intercalate, List.intersperse]
    rw [e]
    omega
  | n :: m :: ns => by
    have h1 := hexL_len n
    have h2 := joinL_len (m :: ns)
    unfold joinL at h2 ⊢
    rw [List.map_cons, join_cons _ _ (by simp)]
    simp only [List.length_append, List.length_cons] at h2 ⊢
    omega
theorem rd_ints (ns : List Nat) (i : Nat) (h : i < ns.length) : rd (ints ns) (i : Int) = (ns[i] : Int) := by
  unfold rd ints
  rw [Int.toNat_natCast, List.getD_eq_getElem?_getD, List.getElem?_map, List.getElem?_eq_getElem h]
  rfl

set_option maxRecDepth 20000 in
set_option maxHeartbeats 4000000 in
theorem join_is (A : Option Addr) (c : Nat) (ns : List Nat) (w : World) (h : Env2 w) (hC : Kd.C (Kd.int .u64) w A ns.length (ints ns)) (hlen : ns.length ≤ 8) (hb : ∀ n ∈ ns, n < 65536) :
    Calls Tryd.prog 41 #[.slice A ns.length c] w fun e w' => e = .returned (.string (joinB ns)) ∧ Below w.heap.size w w' := by
  have H0 := Lib.hid h
  have HC := Lib.hid hC
  have HB0 := Lib.hid hb
  clear h hC hb
  go_enter Tryd.func41, Tryd.ntmps41
  go_wp2_with fail
  go_loopw [3, 8] (fun v3 vi wr => ∃ (i : Nat) (xs : List ByteArray) (O : Option Addr) (k : Nat), i ≤ ns.length ∧ v3 = .slice O xs.length k ∧ vi = .int .i64 i ∧ Hid (xs.length = i) ∧ Hid (Below w.heap.size w wr) ∧ Hid (Kd.string.R 9 wr w.heap.size (fun _ => True) (.slice O xs.length k) xs) ∧ Hid (xs = (ns.take i).map hexB)) (fun _ i _ => ns.length - (intOf i).toNat)
  case atStart => exact ⟨0, [], none, 0, by omega, rfl, rfl, rfl, Below.refl _ _, Kd.R_nil _ _ _ _ _, rfl⟩
  case round =>
    obtain ⟨i, xs, O, k, hi8, rfl, rfl, HX, HB, HO, HL⟩ := hrel
    by_cases hlt : i < ns.length
    · obtain ⟨ad, hA, hx⟩ := Kd.at_int (Kd.C_below HC.out HB.out) (i : Int) (by omega) (by omega)
      subst hA
      rw [rd_ints ns i hlt, Int.toNat_natCast] at hx
      obtain ⟨n, hn⟩ : ∃ n, n = ns[i] := ⟨_, rfl⟩
      have hn16 : n < 65536 := by rw [hn]; exact HB0.out _ (List.getElem_mem hlt)
      rw [← hn] at hx
      have HN := Lib.hid hn
      clear hn
      go_wp2_with fail
      refine (formatUint_is n hn16 wr (H0.out.below HB.out)).mono ?_
      rintro e w3 ⟨rfl, b3⟩
      obtain ⟨x, hxx⟩ : ∃ x, x = hexB n := ⟨_, rfl⟩
      rw [← hxx]
      have B3 := Lib.hid (HB.out.trans (b3.mono HB.out.size))
      have O3 := Lib.hid (Kd.R_below HO.out b3)
      have HL2 := Lib.hid (show xs ++ [x] = (ns.take (i + 1)).map hexB by rw [HL.out, hxx, List.take_succ_eq_append_getElem hlt, List.map_append, HN.out]; rfl)
      have HX2 := Lib.hid (show (xs ++ [x]).length = i + 1 by rw [List.length_append, HX.out]; rfl)
      have hxl : xs.length ≤ 8 := by have := HX.out; omega
      clear b3 hxx HB HO HL HX
      go_wp2_with (first | ((with_reducible refine gate_builtin (b := .append) (xs := #[.tmp 12, .tmp 15]) rfl ?_); at_builtin; refine Kd.R_append Kd.string (w0 := w) (W := w3) w.heap.size rfl (.tmp 12) (.tmp 15) 38 9 (.string ByteArray.empty) 16 rfl Tryd.underlying38 info9 rfl (by decide) (by omega) (.slice O xs.length k) xs x [.string x] (fun _ => True) (fun _ => False) rfl rfl rfl (fun _ hk => hk.elim) (fun j hj => trivial) O3.out B3.out B3.out.size (by omega) ?_; intro v4 w4 ho hb hg _; obtain ⟨A', c', he⟩ := Kd.R_slice ho; subst he; have O4 := Lib.hid ho; have B4 := Lib.hid hb; clear ho hb hg))
      go_roundw
      case rel =>
        refine ⟨i + 1, xs ++ [x], A', c', by omega, ?_, by go_num, HX2.out, B4.out, O4.out, HL2.out⟩
        first | rfl | (congr 1; simp)
      case measure => simp [intOf]; omega
    · obtain rfl : i = ns.length := by omega
      have hxs : xs = ns.map hexB := by rw [HL.out, List.take_length]
      have hjb : joinL ns = Lib.join (xs.map fun x => x.data.toList) [58] := by
        rw [hxs, List.map_map]
        rfl
      by_cases h0 : xs.length = 0
      · have hx0 : xs = [] := List.eq_nil_of_length_eq_zero h0
        have HJ := Lib.hid (show joinB ns = ⟨#[]⟩ by unfold joinB; rw [hjb, hx0]; rfl)
        rw [h0]
        clear hxs hjb h0 hx0 HX HL HO
        go_wp2_with fail
        refine (Tryd.strings_Join_none O k ⟨#[58]⟩ wr).mono ?_
        rintro e w5 ⟨rfl, hw5⟩
        subst hw5
        go_wp2
        go_ret
        exact ⟨(congrArg (fun b => Ending.returned (Value.string b)) HJ.out).symm, HB.out⟩
      · obtain ⟨g, cap, hge, hbg, hg, _⟩ := Kd.R_form HO.out (by omega)
        simp only [Value.slice.injEq] at hge
        obtain ⟨rfl, _, rfl⟩ := hge
        have hcell : ∀ (j : Nat) (x : ByteArray), xs[j]? = some x → wr.cell? ⟨g, 0 + j, none⟩ = some (.string x) := by
          intro j x hj
          obtain ⟨hjl, hjx⟩ := List.getElem?_eq_some_iff.1 hj
          have := (Kd.R_cell ByteArray.empty HO.out (j : Int) (by omega) (by omega)).1
          rw [Int.toNat_natCast] at this
          rw [Nat.zero_add, this]
          unfold rdOf
          rw [Int.toNat_natCast, List.getD_eq_getElem?_getD, hj]
          rfl
        have hjl := joinL_len ns
        have hxn : xs.length ≤ 140737488355328 := by have := HX.out; omega
        have hcap : xs.length ≤ k := by obtain ⟨_, _, he, hl, _⟩ := Kd.R_reads HO.out; simp only [Value.slice.injEq] at he; omega
        have HJN := Lib.hid (show (Lib.join (xs.map fun x => x.data.toList) (⟨#[58]⟩ : ByteArray).data.toList).length ≤ 140737488355328 by rw [show (⟨#[58]⟩ : ByteArray).data.toList = [58] from rfl, ← hjb]; omega)
        have HJ := Lib.hid (show (⟨(Lib.join (xs.map fun x => x.data.toList) (⟨#[58]⟩ : ByteArray).data.toList).toArray⟩ : ByteArray) = joinB ns by unfold joinB; rw [hjb])
        have HCELL := Lib.hid hcell
        have HXN := Lib.hid hxn
        have HCAP := Lib.hid hcap
        clear hxs hjb h0 hcell hjl hxn hcap HX HL
        go_wp2_with fail
        refine (Tryd.strings_Join g 0 k xs ⟨#[58]⟩ wr HCELL.out hg HXN.out HCAP.out HJN.out).mono ?_
        rintro e w5 ⟨rfl, b5⟩
        rw [HJ.out]
        go_wp2
        go_ret
        exact ⟨rfl, HB.out.trans (b5.mono HB.out.size)⟩
end Go.Proofs.YtjhlgfafjjmooaaDoor.Dot
