/- Package colons: numbers read between colons. -/
import Derived.Test.YtjhlgfafjjmooaaDoorCjoin
import Derived.Test.YtjhlgfafjjmooaaDoorPlHex
import Derived.Test.YtjhlgfafjjmooaaDoorPlSplit
namespace Go.Proofs.YtjhlgfafjjmooaaDoor.Dot
open Go.RowKit Go.Proofs.YtjhlgfafjjmooaaDoor.PCidrTells Go.Proofs.YtjhlgfafjjmooaaDoorW.PrintWords Go.Proofs.YtjhlgfafjjmooaaDoorW.PrintLast Go.Proofs.YtjhlgfafjjmooaaDoorW.PrintMore

def mapX : List (List UInt8) → Option (List Nat)
  | [] => some []
  | x :: xs => match numX x with | none => none | some v => match mapX xs with | none => none | some vs => some (v :: vs)
/-- Numbers with colons between; of nothing: none. -/
def listX (l : List UInt8) : Option (List Nat) := if l = [] then some [] else mapX (cutAt 58 l)
theorem mapX_len : ∀ (xs : List (List UInt8)) (vs : List Nat), mapX xs = some vs → vs.length = xs.length
  | [], vs, h => by cases h; rfl
  | x :: xs, vs, h => by
    simp only [mapX] at h
    split at h
    · cases h
    · split at h
      · cases h
      · rename_i us hus
        cases h
        simp [mapX_len xs us hus]
theorem mapX_lt : ∀ (xs : List (List UInt8)) (vs : List Nat), mapX xs = some vs → ∀ v ∈ vs, v < 65536
  | [], vs, h => by cases h; simp
  | x :: xs, vs, h => by
    simp only [mapX] at h
    split at h
    · cases h
    · rename_i v hv
      split at h
      · cases h
      · rename_i us hus
        cases h
        intro u hu
        rcases List.mem_cons.mp hu with rfl | hu
        · exact numX_lt hv
        · exact mapX_lt xs us hus u hu
def ListPost (s : ByteArray) (w : World) (e : Ending) (w' : World) : Prop :=
  ∃ v, e = .returned (.tuple #[v, .bool (listX s.data.toList).isSome]) ∧ Kd.R (Kd.int .u64) 22 w' w.heap.size (fun _ => True) v (ints ((listX s.data.toList).getD [])) ∧ Below w.heap.size w w'
theorem ints_snoc (ns : List Nat) (v : Nat) : ints ns ++ [(v : Int)] = ints (ns ++ [v]) := by unfold ints; simp
theorem ints_len (ns : List Nat) : (ints ns).length = ns.length := by unfold ints; simp

set_option maxRecDepth 20000 in
set_option maxHeartbeats 4000000 in
theorem list_is (s : ByteArray) (w : World) (h : Env w) (hs : s.size < 1000000) : Calls Tryd.prog 53 #[.string s] w (ListPost s w) := by
  have H0 := Lib.hid h
  clear h
  by_cases he : s.data.toList = []
  · obtain rfl : s = ⟨#[]⟩ := ba_ext he
    go_enter Tryd.func53, Tryd.ntmps53
    go_wp2
    go_ret2
    exact ⟨_, rfl, Kd.R_nil _ _ _ _ _, Below.refl _ _⟩
  · have hb1 : (s.toList == ([] : List UInt8)) = false := by
      rw [Lib.toList_data]
      simp only [beq_eq_false_iff_ne, ne_eq]
      exact he
    have hb2 : s.toList.isEmpty = false := by
      rw [Lib.toList_data]
      cases h : s.data.toList with
      | nil => exact absurd h he
      | cons a l => rfl
    have HX := Lib.hid (show listX s.data.toList = mapX (cutAt 58 s.data.toList) from if_neg he)
    clear he
    go_enter Tryd.func53, Tryd.ntmps53
    go_wp2_with fail
    obtain ⟨m, hm⟩ := H0.out.m
    refine (Tryd.strings_Split s ⟨#[58]⟩ m w (by omega) hm (by decide)).mono ?_
    rintro e w1 ⟨rfl, hw1⟩
    obtain ⟨pl, hpl⟩ : ∃ pl, pl = cutAt 58 s.data.toList := ⟨_, rfl⟩
    have hsp : Lib.splitB ⟨#[58]⟩ 0 (Lib.countB s ⟨#[58]⟩) s = pl.map ba := by rw [hpl]; exact splitB_same 58 s
    have hlen : Lib.countB s ⟨#[58]⟩ + 1 = pl.length := by
      have := Lib.splitB_all (⟨#[58]⟩ : ByteArray) (by decide) 0 _ s rfl
      rw [hsp, List.length_map] at this
      exact this.symm
    have hsz : ∀ x ∈ pl, x.length ≤ s.size := by
      intro x hx
      have := split_size ⟨#[58]⟩ (Lib.countB s ⟨#[58]⟩) s (ba x) (by rw [hsp]; exact List.mem_map_of_mem hx)
      unfold ba at this
      rw [ba_size] at this
      exact this
    have hpn : pl.length ≤ s.size + 1 := by
      rw [hpl, cutAt_length]
      have := List.count_le_length (a := (58 : UInt8)) (l := s.data.toList)
      rw [data_len] at this
      omega
    rw [hsp] at hw1
    rw [hlen]
    have b1 : Below w.heap.size w w1 := by rw [hw1]; exact below_alloc (Below.refl _ _) _
    have k1 : w1.heap[w.heap.size]? = some (.cells ((pl.map ba).map Value.string).toArray 9 (0, 0)) := by rw [hw1]; exact blk_new _ _
    have B1 := Lib.hid b1
    have K1 := Lib.hid k1
    have HSZ := Lib.hid hsz
    have HX2 := Lib.hid (show listX s.data.toList = mapX pl by rw [hpl]; exact HX.out)
    clear hsp hlen hpl hw1 b1 k1 hm hsz HX
    go_wp2_with fail
    go_loopw [4, 14] (fun v4 vi wr => ∃ (i : Nat) (ns : List Nat) (O : Option Addr) (k : Nat), i ≤ pl.length ∧ v4 = .slice O ns.length k ∧ vi = .int .i64 i ∧ Hid (ns.length = i) ∧ Hid (Below w.heap.size w wr) ∧ Hid (wr.heap[w.heap.size]? = some (.cells ((pl.map ba).map Value.string).toArray 9 (0, 0))) ∧ Hid (Kd.R (Kd.int .u64) 22 wr w.heap.size (fun _ => True) (.slice O ns.length k) (ints ns)) ∧ Hid (mapX pl = (mapX (pl.drop i)).map (ns ++ ·))) (fun _ i _ => pl.length - (intOf i).toNat)
    case atStart => exact ⟨0, [], none, 0, by omega, rfl, rfl, rfl, B1.out, K1.out, Kd.R_nil _ _ _ _ _, (show mapX pl = _ by simp)⟩
    case round =>
      clear B1 K1
      obtain ⟨i, ns, O, k, hi, rfl, rfl, HN, HB, HK, HO, HL⟩ := hrel
      by_cases hlt : i < pl.length
      · have cx := blk_cell HK.out i
        rw [List.getElem?_toArray, List.getElem?_map, List.getElem?_map, List.getElem?_eq_getElem hlt, Option.map_some, Option.map_some] at cx
        obtain ⟨x, hx⟩ : ∃ x, x = pl[i] := ⟨_, rfl⟩
        rw [← hx] at cx
        have hxs : x.length < 1000000 := by have := HSZ.out x (by rw [hx]; exact List.getElem_mem hlt); omega
        have hxb : (ba x).size = x.length := by unfold ba; exact ba_size x
        obtain ⟨r, hr, hrv⟩ := num_code (ba x) (3 * x.length + 1) (by omega) (by omega)
        rw [ba_data] at hr hrv
        have hst := HL.out
        rw [List.drop_eq_getElem_cons hlt, ← hx] at hst
        simp only [mapX] at hst
        have HR := Lib.hid hr
        have HX := Lib.hid hx
        obtain ⟨xb, hxb2⟩ : ∃ xb, xb = ba x := ⟨_, rfl⟩
        rw [← hxb2] at cx
        have HR2 := Lib.hid (show colons_number.f (3 * x.length + 1) xb = some (r, (numX x).isSome) by rw [hxb2]; exact HR.out)
        cases hnx : numX x with
        | none =>
          rw [hnx] at hst
          have HF := Lib.hid (show listX s.data.toList = none by rw [HX2.out]; exact hst)
          have HR3 := Lib.hid (show colons_number.f (3 * x.length + 1) xb = some (r, false) by rw [HR2.out, hnx]; rfl)
          clear hst hnx HR HR2 hrv hr hx hxb hxb2 HL
          go_wp2_with fail
          refine (colons_number.calls (3 * x.length + 1) xb r false wr HR3.out).mono ?_
          rintro e w2 ⟨rfl, n2, rfl⟩
          go_wp2
          go_ret2
          exact ⟨_, by rw [HF.out]; rfl, by rw [HF.out]; exact Kd.R_nil _ _ _ _ _, pw_below_drewN HB.out n2⟩
        | some v =>
          rw [hnx] at hst
          have hrv2 := hrv v hnx
          have hv16 : v < 65536 := numX_lt hnx
          subst hrv2
          have HST := Lib.hid (show mapX pl = (mapX (pl.drop (i + 1))).map ((ns ++ [v]) ++ ·) by
            rw [hst]
            cases mapX (pl.drop (i + 1)) with
            | none => rfl
            | some vs => simp)
          have HR3 := Lib.hid (show colons_number.f (3 * x.length + 1) xb = some ((v : Int), true) by rw [HR2.out, hnx]; rfl)
          clear hst hnx HR HR2 hrv hr hx hxb hxb2 HL
          go_wp2_with fail
          refine (colons_number.calls (3 * x.length + 1) xb v true wr HR3.out).mono ?_
          rintro e w2 ⟨rfl, n2, hn2⟩
          have b2 : Below wr.heap.size wr w2 := by rw [hn2]; exact pw_below_drewN (Below.refl _ _) n2
          have B2 := Lib.hid (HB.out.trans (b2.mono HB.out.size))
          have K2 := Lib.hid (blk_below HK.out b2)
          have O2 := Lib.hid (Kd.R_below HO.out b2)
          have hnl : ns.length ≤ 1000000 := by have := HN.out; omega
          have HN2 := Lib.hid (show (ns ++ [v]).length = i + 1 by rw [List.length_append, HN.out]; rfl)
          have T2 := Lib.hid (Kd.R_mono (Kd.R_types O2.out K2.out (show ∀ q, q ∈ [22] → q ≠ 9 from by intro q hq; rw [List.mem_singleton] at hq; omega)) (fun j hj => hj.2))
          clear hn2 b2 HB HK HO HN cx O2
          go_wp2_with (first | ((with_reducible refine gate_builtin (b := .append) (xs := #[.tmp 25, .tmp 27]) rfl ?_); at_builtin; refine Kd.R_append (Kd.int .u64) (w0 := w) (W := w2) w.heap.size rfl (.tmp 25) (.tmp 27) 61 22 (.int .u64 0) 8 rfl Tryd.underlying61 info22 rfl (by decide) (by omega) (.slice O ns.length k) (ints ns) (v : Int) [.int .u64 v] (fun j => j ≠ w.heap.size) (fun _ => False) rfl rfl rfl (fun _ hk => hk.elim) (fun j hj => by have := blk_lt K2.out; omega) T2.out B2.out B2.out.size (by rw [ints_len]; omega) ?_; intro v4 w4 ho hb hg _; rw [ints_snoc] at ho; obtain ⟨A', c', he⟩ := Kd.R_slice ho; subst he; have K4 := Lib.hid (blk_grown K2.out hg (fun e => (T2.out.1 _ e.symm) rfl)); have O4 := Lib.hid (Kd.R_mono ho (fun _ _ => trivial)); have B4 := Lib.hid hb; clear ho hb hg))
          go_roundw
          case rel =>
            refine ⟨i + 1, ns ++ [v], A', c', by omega, ?_, by go_num, HN2.out, B4.out, K4.out, ?_, HST.out⟩
            · rw [ints_len]
            · have := O4.out
              rw [ints_len] at this
              exact this
          case measure => simp [intOf]; omega
      · obtain rfl : i = pl.length := by omega
        have hfin : listX s.data.toList = some ns := by
          rw [HX2.out, HL.out, List.drop_length]
          simp [mapX]
        have HF := Lib.hid hfin
        clear hfin
        go_wp2
        go_ret2
        exact ⟨_, by rw [HF.out]; rfl, by rw [HF.out]; exact HO.out, HB.out⟩
end Go.Proofs.YtjhlgfafjjmooaaDoor.Dot
