/- For every number, seed and prefix: the law MixerTells answers true: a number is mixed as the document says, and so is a prefix's hash. No condition. -/
import Derived.Test.YtlklehliapbgeaaPMixerTellsx1
namespace Go.Proofs.Ytlklehliapbgeaa.Pure
open Go.RowKit Go.Proofs.Ytlklehliapbgeaa.PMixerTells Go.Proofs.YtlklehliapbgeaaW.PrintWords Go.Proofs.YtlklehliapbgeaaW.PrintLast

theorem same_mix (x : Int) : flocculusref1_Mix.f x = mixer_Mix.f x := by
  unfold flocculusref1_Mix.f mixer_Mix.f
  exact Eq.refl _
theorem mix_some (x : Int) : ∃ r, mixer_Mix.f x = some r := ⟨_, rfl⟩
theorem same_hash (s a b c : Int) : flocculusref1_Hash.f s a b c = mixer_Hash.f s a b c := by
  unfold flocculusref1_Hash.f mixer_Hash.f
  simp only [same_mix]
theorem step_some {g : Int → Option Int} {o : Option Int} (ho : ∃ r, o = some r) (hg : ∀ x, ∃ r, g x = some r) : ∃ r, o.bind g = some r := by
  obtain ⟨r, rfl⟩ := ho
  exact hg r
theorem hash_some (s a b c : Int) : ∃ r, mixer_Hash.f s a b c = some r := by
  unfold mixer_Hash.f
  exact step_some (mix_some _) fun _ => step_some (mix_some _) fun _ => step_some (mix_some _) fun x => ⟨x, Eq.refl _⟩
theorem alive_f : flocculuslaw5_alive.f = some true := by decide +kernel
theorem tells (x s a b c : Int) : flocculuslaw5_MixerTells.f x s a b c = some true := by
  unfold flocculuslaw5_MixerTells.f
  rw [alive_f]
  obtain ⟨r, hr⟩ := mix_some x
  obtain ⟨q, hq⟩ := hash_some s a b c
  simp only [Option.bind_some, if_true, same_mix, hr, same_hash, hq, beq_self_eq_true]
theorem MixerTells_walk (a0 : Int) (_ : (Lit.int .u64 a0).wf = true) (a1 : Int) (_ : (Lit.int .u64 a1).wf = true) (b0 b1 b2 : Int) {ok : Prop} (_ : ok) (w : World) :
    Calls Try.prog 4 #[.int .u64 a0, .int .u64 a1, .agg #[.int .u64 b0, .int .u64 b1, .int .i64 b2]] w fun e w' => e = .returned (.bool true) ∧ Below w.heap.size w w' := by
  refine (flocculuslaw5_MixerTells.calls a0 a1 b0 b1 b2 true w (tells _ _ _ _ _)).mono ?_
  rintro e w' ⟨rfl, hd⟩
  exact ⟨rfl, hd⟩

end Go.Proofs.Ytlklehliapbgeaa.Pure
