/- The law 'FnExactNewTeam' returns true for every input, and leaves its arguments as they were: the walk of the text before this one, lifted to the given statement. No condition. -/
import Derived.Test.YtadmeijogbljhaaWNewTeam
import Derived.Test.YtadmeijogbljhaaOpen
import Derived.Test.YtadmeijogbljhaaInit
import Derived.Test.YtadmeijogbljhaaRows
namespace Go.Proofs.Ytadmeijogbljhaa.fnExactNewTeam
open Go.ChangeShapes Go.WideShapes Go.ChangeAt Go.RowKit Go.Deep
open Go.ChangeMaps (open_string shut_string)
set_option linter.unusedVariables false
set_option linter.unusedSimpArgs false
theorem own : ownKnob Try.prog.godebug = none := by kernel_rfl
set_option maxRecDepth 100000 in
theorem lifted (os : Os) (started : os.Started) (H : Type) (enc : TypeId × Value → H) :
    ReturnsInHanded {} Try.checked os 9 .any (Rows.fnExactNewTeamSpec.pre6 enc Try.prog Try.f9 Rows.fnExactNewTeamRow.domain false) (Rows.fnExactNewTeamSpec.post enc Try.prog Try.f9 false true false false) := by
  refine returnsInHanded_of_change (C := Try.checked) own started (by kernel_rfl) Try.func9
    (ChangeSpec.witness6 (enc := enc) (C := Try.checked) false ⟨#[], #[.int .i64 0], []⟩ 8 (by kernel_rfl) (by kernel_rfl) (by kernel_rfl) (by kernel_rfl)) ?_
  intro W base args ds gs before hval0 hW hcnd _
  have hval : ∀ (j : Nat) t v, Try.f9.params[j]? = some t → args[j]? = some v → Value.okWide Try.prog W .any base t v := hval0
  have hW' := hW
  obtain ⟨p, q, hA0, hV, rfl, hfz, hnd⟩ := hW
  have hA : DataW.TrodAll enc Try.prog W 0 (fun _ => true) true Try.f9.params.toList args.toList ds p := hA0
  rw [Try.params9] at hA hval
  obtain ⟨v0, vs0, d0, ds0, p0, q0, hargs, rfl, rfl, h0, r0⟩ := trodAll_cons hA
  obtain ⟨rfl, rfl, rfl⟩ := trodAll_nil r0
  obtain rfl : args = #[v0] := by cases args; simp_all
  obtain ⟨rfl, rfl⟩ := trodVars_none hV
  obtain ⟨a0, rfl, rfl, rfl, wf0⟩ := open_int Try.underlying3 (hval 0 3 v0 rfl rfl) h0
  clear hA0 hval0
  refine (w_FnExactNewTeam W a0 wf0).mono fun e W' ⟨he, hb⟩ => ?_
  subst he
  exact ⟨_, rfl, law_post laidB (by kernel_rfl) rfl Try.underlying4 rfl hW' rfl hb⟩
theorem cl_named : Try.prog.funcNamed Rows.fnExactNewTeamRow.func = some 9 := by kernel_rfl
theorem cl_facts : joinedFacts Try.prog 9 Try.f9 Rows.fnExactNewTeamSpec Rows.fnExactNewTeamRow = true := ((factsR _ _ _ _ _).2 init_enter init_final init_make).trans (by kernel_rfl)
theorem cl_inst : decide (Try.f9.isInstance Try.prog Rows.fnExactNewTeamRow.origin Rows.fnExactNewTeamRow.targs) = true := by kernel_rfl
theorem cl_wrap : Try.f9.isWrapper Try.prog Rows.fnExactNewTeamRow.wrapper Rows.fnExactNewTeamRow.mainSum := by unfold Func.isWrapper; first | (rw [if_pos (by decide +kernel)]; kernel_rfl) | (rw [if_neg (by decide +kernel)]; exact ⟨rfl, rfl⟩)
theorem over : Rows.fnExactNewTeamRow.holds Try.pinned (OpenSpec.ofChange Rows.fnExactNewTeamSpec) :=
  OpenClaim.holds_of_wide 9 Try.f9 rfl rfl rfl rfl rfl rfl rfl ⟨rfl, rfl, rfl, rfl, rfl⟩ rfl rfl rfl rfl rfl cl_named Try.func9 cl_facts
    (of_decide_eq_true cl_inst) cl_wrap
    (fun os started H enc _ => lifted os started H enc)
/-- the statement -/
theorem proved : Rows.FnExactNewTeamSaid := over
#print axioms proved
end Go.Proofs.Ytadmeijogbljhaa.fnExactNewTeam
