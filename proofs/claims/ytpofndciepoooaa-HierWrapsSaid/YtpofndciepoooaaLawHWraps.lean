/-
  HierWraps: the statement, proved for every input: whatever the arguments are, the call returns true and leaves them as they were. No conditions of ours.
-/
import Derived.Test.YtpofndciepoooaaHiH
import Derived.Test.YtpofndciepoooaaJoin
namespace Go.Proofs.Ytpofndciepoooaa
open Go.ChangeShapes Go.WideShapes Go.ChangeAt Go.RowKit
open Go.ChangeMaps (open_string shut_string)
set_option linter.unusedVariables false

set_option maxRecDepth 100000 in
theorem hierWraps_lifted (os : Os) (started : os.Started) (H : Type) (enc : TypeId × Value → H) :
    ReturnsInHanded {} Try.checked os 17 .any (Rows.hierWrapsSpec.pre6 enc Try.prog Try.f17 Rows.hierWrapsRow.domain false) (Rows.hierWrapsSpec.post enc Try.prog Try.f17 false true false false) := by
  refine returnsInHanded_of_change_sized (C := Try.checked) Try.own started (by kernel_rfl) Try.func17
    (ChangeSpec.witness6 (enc := enc) (C := Try.checked) false ⟨#[], #[.slice none 0 0, .slice none 0 0, .int .u32 0, .agg #[.int .u16 0, .int .u64 0, .slice none 0 0]], []⟩ 8 (by kernel_rfl) (by kernel_rfl) (by kernel_rfl) (by kernel_rfl)) ?_
  intro W base args ds gs before hval0 hW hcnd hsz0 _
  have hsz : (DataW.weightsEach Try.prog (Try.f17.params.toList ++ Rows.hierWrapsSpec.plain.varTypes Try.prog) (ds ++ gs)).all (· ≤ reachBytes) = true := hsz0
  clear hsz0
  have hval : ∀ (j : Nat) t v, Try.f17.params[j]? = some t → args[j]? = some v → Value.okWide Try.prog W .any base t v := hval0
  have hlt : ∀ p ∈ before, p.block < W.heap.size := fun p hp => hW.lt p hp
  have hW' := hW
  obtain ⟨p, q, hA0, hV, hpq, hfz, hnd⟩ := hW
  have hA : DataW.TrodAll enc Try.prog W 0 (fun _ => true) true Try.f17.params.toList args.toList ds p := hA0
  have hltA : ∀ x ∈ p, x.block < W.heap.size := fun x hx => hlt x (by rw [hpq]; simp [hx])
  rw [Try.params17] at hA hval hsz
  obtain ⟨v0, vs0, d0, ds0, p0, q0, hargs, rfl, rfl, h0, r0⟩ := trodAll_cons hA
  obtain ⟨v1, vs1, d1, ds1, p1, q1, rfl, rfl, rfl, h1, r1⟩ := trodAll_cons r0
  obtain ⟨v2, vs2, d2, ds2, p2, q2, rfl, rfl, rfl, h2, r2⟩ := trodAll_cons r1
  obtain ⟨v3, vs3, d3, ds3, p3, q3, rfl, rfl, rfl, h3, r3⟩ := trodAll_cons r2
  obtain ⟨rfl, rfl, rfl⟩ := trodAll_nil r3
  obtain rfl : args = #[v0, v1, v2, v3] := by cases args; simp_all
  obtain ⟨rfl, rfl⟩ := trodVars_none hV
  clear hA0 hval0
  obtain ⟨a0, len0, cap0, rfl⟩ := okWide_slice Try.underlying22 (hval 0 22 v0 rfl rfl)
  obtain ⟨z0, w0, s0⟩ := isRow_sized (k := .u8) (bytes := 1) Try.underlying22 Try.underlying5 (by kernel_rfl) (by kernel_rfl) h0 (fun x hx => hltA x (by simp [hx])) (fun el sp hd => sized_slice hsz (j := 0) (t := 22) rfl (by rw [hd]; rfl) Try.underlying22)
  obtain ⟨a1, len1, cap1, rfl⟩ := okWide_slice Try.underlying22 (hval 1 22 v1 rfl rfl)
  obtain ⟨z1, w1, s1⟩ := isRow_sized (k := .u8) (bytes := 1) Try.underlying22 Try.underlying5 (by kernel_rfl) (by kernel_rfl) h1 (fun x hx => hltA x (by simp [hx])) (fun el sp hd => sized_slice hsz (j := 1) (t := 22) rfl (by rw [hd]; rfl) Try.underlying22)
  obtain ⟨a2, rfl, rfl, rfl, w2⟩ := open_int Try.underlying48 (hval 2 48 v2 rfl rfl) h2
  have k3 := hval 3 67 v3 rfl rfl
  have l3 : ∀ x ∈ p3, x.block < W.heap.size := fun x hx => hltA x (by simp [hx])
  refine (wraps_walk a0 len0 cap0 z0 a1 len1 cap1 z1 a2 v3 W w0 s0 w1 s1 w2 ⟨base, k3⟩ h3 l3).mono fun e W' ⟨he, hb⟩ => ?_
  subst he
  exact ⟨_, rfl, post_law Try.laidOut (by kernel_rfl) rfl rfl Try.underlying4 rfl hW' hb⟩

theorem hierWraps_joined : joinedFacts Try.checked.prog 17 Try.f17 Rows.hierWrapsSpec Rows.hierWrapsRow = true := joined_of J.enter J.lifts J.make rfl rfl (by kernel_rfl) (by kernel_rfl)
theorem hierWraps_holds : Rows.HierWrapsSaid :=
  OpenClaim.holds_of_wide 17 Try.f17 rfl rfl rfl rfl rfl rfl rfl ⟨rfl, rfl, rfl, rfl, rfl⟩ rfl rfl rfl rfl rfl (by kernel_rfl) Try.func17 hierWraps_joined
    (of_decide_eq_true (by kernel_rfl)) (by unfold Func.isWrapper; first | (rw [if_pos (by decide +kernel)]; kernel_rfl) | (rw [if_neg (by decide +kernel)]; exact ⟨rfl, rfl⟩))
    (fun os started H enc _ => hierWraps_lifted os started H enc)
#print axioms hierWraps_holds

end Go.Proofs.Ytpofndciepoooaa
