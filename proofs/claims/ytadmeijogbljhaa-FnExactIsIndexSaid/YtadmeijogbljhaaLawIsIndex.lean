/- The law 'FnExactIsIndex' returns true for every input, and leaves its arguments as they were: the walk of the text before this one, lifted to the given statement. No condition. -/
import Derived.Test.YtadmeijogbljhaaWIsIndex
import Derived.Test.YtadmeijogbljhaaOpen
import Derived.Test.YtadmeijogbljhaaInit
import Derived.Test.YtadmeijogbljhaaRows
namespace Go.Proofs.Ytadmeijogbljhaa.fnExactIsIndex
open Go.ChangeShapes Go.WideShapes Go.ChangeAt Go.RowKit Go.Deep
open Go.ChangeMaps (open_string shut_string)
set_option linter.unusedVariables false
set_option linter.unusedSimpArgs false
theorem own : ownKnob Try.prog.godebug = none := by kernel_rfl
set_option maxRecDepth 100000 in
theorem lifted (os : Os) (started : os.Started) (H : Type) (enc : TypeId × Value → H) :
    ReturnsInHanded {} Try.checked os 10 .any (Rows.fnExactIsIndexSpec.pre6 enc Try.prog Try.f10 Rows.fnExactIsIndexRow.domain false) (Rows.fnExactIsIndexSpec.post enc Try.prog Try.f10 false true false false) := by
  refine returnsInHanded_of_change (C := Try.checked) own started (by kernel_rfl) Try.func10
    (ChangeSpec.witness6 (enc := enc) (C := Try.checked) false ⟨#[], #[.agg #[.slice none 0 0, .slice none 0 0]], []⟩ 8 (by kernel_rfl) (by kernel_rfl) (by kernel_rfl) (by kernel_rfl)) ?_
  intro W base args ds gs before hval0 hW hcnd _
  have hval : ∀ (j : Nat) t v, Try.f10.params[j]? = some t → args[j]? = some v → Value.okWide Try.prog W .any base t v := hval0
  have hW' := hW
  obtain ⟨p, q, hA0, hV, rfl, hfz, hnd⟩ := hW
  have hA : DataW.TrodAll enc Try.prog W 0 (fun _ => true) true Try.f10.params.toList args.toList ds p := hA0
  rw [Try.params10] at hA hval
  obtain ⟨v0, vs0, d0, ds0, p0, q0, hargs, rfl, rfl, h0, r0⟩ := trodAll_cons hA
  obtain ⟨rfl, rfl, rfl⟩ := trodAll_nil r0
  obtain rfl : args = #[v0] := by cases args; simp_all
  obtain ⟨rfl, rfl⟩ := trodVars_none hV
  obtain ⟨cs0, rfl, hsz0⟩ := okWide_struct Try.underlying86 (hval 0 86 v0 rfl rfl)
  obtain ⟨fu0, hx0⟩ := h0
  obtain ⟨v0x, d0x, he0, hr0, hok0, hl0⟩ := opens_PlaceIndex W _ _ _ _ _ _ _ _ hx0
  obtain rfl := arr_of he0
  clear hA0 hval0
  refine (w_FnExactIsIndex W v0x d0x hr0 hok0 hl0).mono fun e W' ⟨he, hb⟩ => ?_
  subst he
  exact ⟨_, rfl, law_post laidB (by kernel_rfl) rfl Try.underlying4 rfl hW' rfl hb⟩
theorem cl_named : Try.prog.funcNamed Rows.fnExactIsIndexRow.func = some 10 := by kernel_rfl
theorem cl_facts : joinedFacts Try.prog 10 Try.f10 Rows.fnExactIsIndexSpec Rows.fnExactIsIndexRow = true := ((factsR _ _ _ _ _).2 init_enter init_final init_make).trans (by kernel_rfl)
theorem cl_inst : decide (Try.f10.isInstance Try.prog Rows.fnExactIsIndexRow.origin Rows.fnExactIsIndexRow.targs) = true := by kernel_rfl
theorem cl_wrap : Try.f10.isWrapper Try.prog Rows.fnExactIsIndexRow.wrapper Rows.fnExactIsIndexRow.mainSum := by unfold Func.isWrapper; first | (rw [if_pos (by decide +kernel)]; kernel_rfl) | (rw [if_neg (by decide +kernel)]; exact ⟨rfl, rfl⟩)
theorem over : Rows.fnExactIsIndexRow.holds Try.pinned (OpenSpec.ofChange Rows.fnExactIsIndexSpec) :=
  OpenClaim.holds_of_wide 10 Try.f10 rfl rfl rfl rfl rfl rfl rfl ⟨rfl, rfl, rfl, rfl, rfl⟩ rfl rfl rfl rfl rfl cl_named Try.func10 cl_facts
    (of_decide_eq_true cl_inst) cl_wrap
    (fun os started H enc _ => lifted os started H enc)
/-- the statement -/
theorem proved : Rows.FnExactIsIndexSaid := over
#print axioms proved
end Go.Proofs.Ytadmeijogbljhaa.fnExactIsIndex
