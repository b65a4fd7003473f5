/- The statement FnExactPolicyText: for every input the law returns true and leaves its input as it was; no conditions. -/
import Derived.Test.YthaipkhgemachaaRows
import Derived.Test.YthaipkhgemachaaQx2
import Derived.Test.YthaipkhgemachaaPureFnExactPolicyText
import Derived.Test.YthaipkhgemachaaSopens
import Derived.WalkKit
import Derived.ProofKit
import Derived.OpenShut
import Derived.ShutString
import Derived.ChangeOld
import Derived.Below
import Derived.SizedLaws
namespace Go.Proofs.Ythaipkhgemachaa.fnExactPolicyText
open Go.ChangeShapes Go.WideShapes Go.ChangeAt Go.RowKit Go.Proofs.Ythaipkhgemachaa.Q Go.Proofs.YthaipkhgemachaaW.PrintWords
open Go.ChangeMaps (open_string shut_string)
set_option linter.unusedVariables false
theorem own : ownKnob Try.prog.godebug = none := by kernel_rfl
theorem laidOut : laidOutB Try.prog = true := by kernel_rfl
set_option maxRecDepth 100000 in
theorem lifted (os : Os) (started : os.Started) (H : Type) (enc : TypeId × Value → H) :
    ReturnsInHanded {} Try.checked os 5 .any (Rows.fnExactPolicyTextSpec.pre6 enc Try.prog Try.f5 Rows.fnExactPolicyTextRow.domain false) (Rows.fnExactPolicyTextSpec.post enc Try.prog Try.f5 false true false false) := by
  refine returnsInHanded_of_change_sized (C := Try.checked) own started (by kernel_rfl) Try.func5
    (ChangeSpec.witness6 (enc := enc) (C := Try.checked) false ⟨#[], #[.agg #[.slice none 0 0, .slice none 0 0]], []⟩ 8 (by kernel_rfl) (by kernel_rfl) (by kernel_rfl) (by kernel_rfl)) ?_
  intro W base args ds gs before hval0 hW hcnd hsz0 _
  have hsz : (DataW.weightsEach Try.prog (Try.f5.params.toList ++ Rows.fnExactPolicyTextSpec.plain.varTypes Try.prog) (ds ++ gs)).all (· ≤ reachBytes) = true := hsz0
  have hval : ∀ (j : Nat) t v, Try.f5.params[j]? = some t → args[j]? = some v → Value.okWide Try.prog W .any base t v := hval0
  have hW' := hW
  obtain ⟨p, q, hA0, hV, rfl, hfz, hnd⟩ := hW
  have hA : DataW.TrodAll enc Try.prog W 0 (fun _ => true) true Try.f5.params.toList args.toList ds p := hA0
  rw [Try.params5] at hA hval hsz
  obtain ⟨v0, vs0, d0, ds0, p0, q0, hargs, rfl, rfl, h0, r0⟩ := trodAll_cons hA
  obtain ⟨rfl, rfl, rfl⟩ := trodAll_nil r0
  obtain rfl : args = #[v0] := by cases args; simp_all
  obtain ⟨rfl, rfl⟩ := trodVars_none hV
  have k0 := h0
  have lt0 : ∀ x ∈ p0, x.block < W.heap.size := by obtain ⟨m, hm⟩ := k0; exact DataW.trod_lt m _ _ _ hm
  obtain ⟨g0, rfl, z0⟩ := okWide_struct Try.underlying25 (hval 0 25 v0 rfl rfl)
  obtain ⟨y0, W0, K0⟩ := Opens.trod (Opens.struct2 Try.underlying25 rfl rfl (by kernel_rfl) (Opens.slice [] Try.underlying22 (by kernel_rfl) (Opens.slice 0 Try.underlying23 (by kernel_rfl) (Opens.int Try.underlying2 (by kernel_rfl)))) (Opens.slice 0 Try.underlying23 (by kernel_rfl) (Opens.int Try.underlying2 (by kernel_rfl)))) h0
  obtain ⟨ce0, hce0⟩ : ∃ c, c = (Value.agg g0).cells.toList := ⟨_, rfl⟩
  rw [← hce0] at K0
  -- the fields
  obtain ⟨_, _, rfl, ⟨A0_0, c0_0, rfl, hc0_0, hr0_0⟩, ⟨A0_1, c0_1, rfl, hc0_1, hr0_1⟩⟩ := K0
  have eg0 := agg_of_toList hce0.symm
  (try simp only [List.cons_append, List.nil_append] at eg0)
  rw [eg0] at hW' k0 ⊢
  clear hA0 hval0 hsz0 hsz
  obtain ⟨k_, hk_⟩ := Pure.FnExactPolicyText (y0.1) (y0.2) hr0_0.2.1 (rows_len hr0_0) hr0_1.2.1
  refine (Q.laws_FnExactPolicyText.calls k_ _ _ (y0.1) _ _ (y0.2) true W hr0_0 hc0_0 hr0_1 hc0_1 hk_).mono fun e W' hq => ?_
  obtain ⟨he, bel0⟩ := hq
  have bel : Below W.heap.size W W' := bel0
  subst he
  exact ⟨_, rfl, _, _, _, [], _, [], hW', trodAll_mk1 (shut_bool Try.underlying4 _), (trodAll_cons_mk (Below.trod laidOut (by kernel_rfl) (of_decide_eq_true (by kernel_rfl)) k0 bel lt0) trodAll_mk0), rfl, bel.frame _, fun h => by cases h⟩
theorem over : Rows.fnExactPolicyTextRow.holds Try.pinned (OpenSpec.ofChange Rows.fnExactPolicyTextSpec) :=
  OpenClaim.holds_of_wide 5 Try.f5 rfl rfl rfl rfl rfl rfl rfl ⟨rfl, rfl, rfl, rfl, rfl⟩ rfl rfl rfl rfl rfl (by kernel_rfl) Try.func5 (by kernel_rfl)
    (of_decide_eq_true (by kernel_rfl)) (by unfold Func.isWrapper; first | (rw [if_pos (by decide +kernel)]; kernel_rfl) | (rw [if_neg (by decide +kernel)]; exact ⟨rfl, rfl⟩))
    (fun os started H enc _ => lifted os started H enc)
theorem proved : Rows.FnExactPolicyTextSaid := over
#print axioms proved
end Go.Proofs.Ythaipkhgemachaa.fnExactPolicyText
namespace Go.Proofs.Ythaipkhgemachaa
/-- The row, under a short name, for the claim. -/
theorem fnExactPolicyText_holds : Rows.FnExactPolicyTextSaid := fnExactPolicyText.proved
end Go.Proofs.Ythaipkhgemachaa
