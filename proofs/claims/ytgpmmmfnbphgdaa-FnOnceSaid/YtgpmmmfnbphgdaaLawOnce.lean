/- The law 'FnOnce' returns true for every input, and leaves its arguments as they were: the walk of the text before this one, lifted to the given statement. No condition. -/
import Derived.Test.YtgpmmmfnbphgdaaWOnce
import Derived.Test.YtgpmmmfnbphgdaaOpenY
import Derived.Test.YtgpmmmfnbphgdaaOpen
import Derived.Test.YtgpmmmfnbphgdaaInit
import Derived.Test.YtgpmmmfnbphgdaaRows
namespace Go.Proofs.Ytgpmmmfnbphgdaa.fnOnce
open Go.ChangeShapes Go.WideShapes Go.ChangeAt Go.RowKit Go.Deep
open Go.ChangeMaps (open_string shut_string)
set_option linter.unusedVariables false
set_option linter.unusedSimpArgs false
theorem own : ownKnob Try.prog.godebug = none := by kernel_rfl
set_option maxRecDepth 100000 in
theorem lifted (os : Os) (started : os.Started) (H : Type) (enc : TypeId × Value → H) :
    ReturnsInHanded {} Try.checked os 3 .any (Rows.fnOnceSpec.pre6 enc Try.prog Try.f3 Rows.fnOnceRow.domain false) (Rows.fnOnceSpec.post enc Try.prog Try.f3 false true false false) := by
  refine returnsInHanded_of_change (C := Try.checked) own started (by kernel_rfl) Try.func3
    (ChangeSpec.witness6 (enc := enc) (C := Try.checked) false ⟨#[], #[.slice none 0 0], []⟩ 8 (by kernel_rfl) (by kernel_rfl) (by kernel_rfl) (by kernel_rfl)) ?_
  intro W base args ds gs before hval0 hW hcnd _
  have hval : ∀ (j : Nat) t v, Try.f3.params[j]? = some t → args[j]? = some v → Value.okWide Try.prog W .any base t v := hval0
  have hW' := hW
  obtain ⟨p, q, hA0, hV, rfl, hfz, hnd⟩ := hW
  have hA : DataW.TrodAll enc Try.prog W 0 (fun _ => true) true Try.f3.params.toList args.toList ds p := hA0
  rw [Try.params3] at hA hval
  obtain ⟨v0, vs0, d0, ds0, p0, q0, hargs, rfl, rfl, h0, r0⟩ := trodAll_cons hA
  obtain ⟨rfl, rfl, rfl⟩ := trodAll_nil r0
  obtain rfl : args = #[v0] := by cases args; simp_all
  obtain ⟨rfl, rfl⟩ := trodVars_none hV
  obtain ⟨A0, n0, c0, rfl⟩ := okWide_slice Try.underlying22 (hval 0 22 v0 rfl rfl)
  obtain ⟨fu0, hx0⟩ := h0
  obtain ⟨A0', n0', c0', he0, hn0, hy0⟩ := bytes_of (opens_bytes W _ _ _ _ _ _ _ _ hx0)
  obtain ⟨rfl, rfl, rfl⟩ : A0 = A0' ∧ n0 = n0' ∧ c0 = c0' := by simpa [Value.cells] using he0
  clear hA0 hval0
  refine (w_FnOnce W A0 n0 c0 hn0 hy0).mono fun e W' ⟨he, hb⟩ => ?_
  subst he
  exact ⟨_, rfl, law_post laidB (by kernel_rfl) rfl Try.underlying4 rfl hW' rfl hb⟩
theorem cl_named : Try.prog.funcNamed Rows.fnOnceRow.func = some 3 := by kernel_rfl
theorem cl_facts : joinedFacts Try.prog 3 Try.f3 Rows.fnOnceSpec Rows.fnOnceRow = true := ((factsR _ _ _ _ _).2 init_enter init_final init_make).trans (by kernel_rfl)
theorem cl_inst : decide (Try.f3.isInstance Try.prog Rows.fnOnceRow.origin Rows.fnOnceRow.targs) = true := by kernel_rfl
theorem cl_wrap : Try.f3.isWrapper Try.prog Rows.fnOnceRow.wrapper Rows.fnOnceRow.mainSum := by unfold Func.isWrapper; first | (rw [if_pos (by decide +kernel)]; kernel_rfl) | (rw [if_neg (by decide +kernel)]; exact ⟨rfl, rfl⟩)
theorem over : Rows.fnOnceRow.holds Try.pinned (OpenSpec.ofChange Rows.fnOnceSpec) :=
  OpenClaim.holds_of_wide 3 Try.f3 rfl rfl rfl rfl rfl rfl rfl ⟨rfl, rfl, rfl, rfl, rfl⟩ rfl rfl rfl rfl rfl cl_named Try.func3 cl_facts
    (of_decide_eq_true cl_inst) cl_wrap
    (fun os started H enc _ => lifted os started H enc)
/-- the statement -/
theorem proved : Rows.FnOnceSaid := over
#print axioms proved
end Go.Proofs.Ytgpmmmfnbphgdaa.fnOnce
