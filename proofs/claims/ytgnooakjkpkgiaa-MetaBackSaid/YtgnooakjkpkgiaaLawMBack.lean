/-
  MetaBack: the statement, proved for every input: whatever the arguments are, the call returns true and leaves them as they were. No conditions of ours.
-/
import Derived.Test.YtgnooakjkpkgiaaMlD
import Derived.Test.YtgnooakjkpkgiaaJoin
namespace Go.Proofs.Ytgnooakjkpkgiaa
open Go.ChangeShapes Go.WideShapes Go.ChangeAt Go.RowKit
open Go.ChangeMaps (open_string shut_string)
set_option linter.unusedVariables false

set_option maxRecDepth 100000 in
theorem metaBack_lifted (os : Os) (started : os.Started) (H : Type) (enc : TypeId × Value → H) :
    ReturnsInHanded {} Try.checked os 13 .any (Rows.metaBackSpec.pre6 enc Try.prog Try.f13 Rows.metaBackRow.domain false) (Rows.metaBackSpec.post enc Try.prog Try.f13 false true false false) := by
  refine returnsInHanded_of_change_sized (C := Try.checked) Try.own started (by kernel_rfl) Try.func13
    (ChangeSpec.witness6 (enc := enc) (C := Try.checked) false ⟨#[], #[.slice none 0 0, .agg #[.int .u64 0, .int .u32 0, .int .u64 0, .int .u16 0, .int .u8 0, .int .u16 0, .int .u32 0]], []⟩ 8 (by kernel_rfl) (by kernel_rfl) (by kernel_rfl) (by kernel_rfl)) ?_
  intro W base args ds gs before hval0 hW hcnd hsz0 _
  have hsz : (DataW.weightsEach Try.prog (Try.f13.params.toList ++ Rows.metaBackSpec.plain.varTypes Try.prog) (ds ++ gs)).all (· ≤ reachBytes) = true := hsz0
  clear hsz0
  have hval : ∀ (j : Nat) t v, Try.f13.params[j]? = some t → args[j]? = some v → Value.okWide Try.prog W .any base t v := hval0
  have hlt : ∀ p ∈ before, p.block < W.heap.size := fun p hp => hW.lt p hp
  have hW' := hW
  obtain ⟨p, q, hA0, hV, hpq, hfz, hnd⟩ := hW
  have hA : DataW.TrodAll enc Try.prog W 0 (fun _ => true) true Try.f13.params.toList args.toList ds p := hA0
  have hltA : ∀ x ∈ p, x.block < W.heap.size := fun x hx => hlt x (by rw [hpq]; simp [hx])
  rw [Try.params13] at hA hval hsz
  obtain ⟨v0, vs0, d0, ds0, p0, q0, hargs, rfl, rfl, h0, r0⟩ := trodAll_cons hA
  obtain ⟨v1, vs1, d1, ds1, p1, q1, rfl, rfl, rfl, h1, r1⟩ := trodAll_cons r0
  obtain ⟨rfl, rfl, rfl⟩ := trodAll_nil r1
  obtain rfl : args = #[v0, v1] := by cases args; simp_all
  obtain ⟨rfl, rfl⟩ := trodVars_none hV
  clear hA0 hval0
  obtain ⟨a0, len0, cap0, rfl⟩ := okWide_slice Try.underlying27 (hval 0 27 v0 rfl rfl)
  obtain ⟨z0, w0, s0⟩ := isRow_sized (k := .u8) (bytes := 1) Try.underlying27 Try.underlying5 (by kernel_rfl) (by kernel_rfl) h0 (fun x hx => hltA x (by simp [hx])) (fun el sp hd => sized_slice hsz (j := 0) (t := 27) rfl (by rw [hd]; rfl) Try.underlying27)
  have k1 := hval 1 95 v1 rfl rfl
  have l1 : ∀ x ∈ p1, x.block < W.heap.size := fun x hx => hltA x (by simp [hx])
  refine (mback_walk a0 len0 cap0 z0 v1 W w0 s0 ⟨base, k1⟩ h1 l1).mono fun e W' ⟨he, hb⟩ => ?_
  subst he
  exact ⟨_, rfl, post_law Try.laidOut (by kernel_rfl) rfl rfl Try.underlying4 rfl hW' hb⟩

theorem metaBack_joined : joinedFacts Try.checked.prog 13 Try.f13 Rows.metaBackSpec Rows.metaBackRow = true := joined_of J.enter J.lifts J.make rfl rfl (by kernel_rfl) (by kernel_rfl)
theorem metaBack_holds : Rows.MetaBackSaid :=
  OpenClaim.holds_of_wide 13 Try.f13 rfl rfl rfl rfl rfl rfl rfl ⟨rfl, rfl, rfl, rfl, rfl⟩ rfl rfl rfl rfl rfl (by kernel_rfl) Try.func13 metaBack_joined
    (of_decide_eq_true (by kernel_rfl)) (by unfold Func.isWrapper; first | (rw [if_pos (by decide +kernel)]; kernel_rfl) | (rw [if_neg (by decide +kernel)]; exact ⟨rfl, rfl⟩))
    (fun os started H enc _ => metaBack_lifted os started H enc)
#print axioms metaBack_holds

end Go.Proofs.Ytgnooakjkpkgiaa
