/- The law 'FnExactSearchIndex' returns true for every input, and leaves its arguments as they were: the walk of the text before this one, lifted to the given statement. No condition. -/
import Derived.Test.YtadmeijogbljhaaWSearchIndex
import Derived.Test.YtadmeijogbljhaaOpen
import Derived.Test.YtadmeijogbljhaaInit
import Derived.Test.YtadmeijogbljhaaRows
namespace Go.Proofs.Ytadmeijogbljhaa.fnExactSearchIndex
open Go.ChangeShapes Go.WideShapes Go.ChangeAt Go.RowKit Go.Deep
open Go.ChangeMaps (open_string shut_string)
set_option linter.unusedVariables false
set_option linter.unusedSimpArgs false
theorem own : ownKnob Try.prog.godebug = none := by kernel_rfl
set_option maxRecDepth 100000 in
theorem lifted (os : Os) (started : os.Started) (H : Type) (enc : TypeId × Value → H) :
    ReturnsInHanded {} Try.checked os 17 .any (Rows.fnExactSearchIndexSpec.pre6 enc Try.prog Try.f17 Rows.fnExactSearchIndexRow.domain false) (Rows.fnExactSearchIndexSpec.post enc Try.prog Try.f17 false true false false) := by
  refine returnsInHanded_of_change (C := Try.checked) own started (by kernel_rfl) Try.func17
    (ChangeSpec.witness6 (enc := enc) (C := Try.checked) false ⟨#[], #[.agg #[.slice none 0 0, .slice none 0 0], .int .i64 0, .int .i64 0], []⟩ 8 (by kernel_rfl) (by kernel_rfl) (by kernel_rfl) (by kernel_rfl)) ?_
  intro W base args ds gs before hval0 hW hcnd _
  have hval : ∀ (j : Nat) t v, Try.f17.params[j]? = some t → args[j]? = some v → Value.okWide Try.prog W .any base t v := hval0
  have hW' := hW
  obtain ⟨p, q, hA0, hV, rfl, hfz, hnd⟩ := hW
  have hA : DataW.TrodAll enc Try.prog W 0 (fun _ => true) true Try.f17.params.toList args.toList ds p := hA0
  rw [Try.params17] at hA hval
  obtain ⟨v0, vs0, d0, ds0, p0, q0, hargs, rfl, rfl, h0, r0⟩ := trodAll_cons hA
  obtain ⟨v1, vs1, d1, ds1, p1, q1, rfl, rfl, rfl, h1, r1⟩ := trodAll_cons r0
  obtain ⟨v2, vs2, d2, ds2, p2, q2, rfl, rfl, rfl, h2, r2⟩ := trodAll_cons r1
  obtain ⟨rfl, rfl, rfl⟩ := trodAll_nil r2
  obtain rfl : args = #[v0, v1, v2] := by cases args; simp_all
  obtain ⟨rfl, rfl⟩ := trodVars_none hV
  obtain ⟨cs0, rfl, hsz0⟩ := okWide_struct Try.underlying86 (hval 0 86 v0 rfl rfl)
  obtain ⟨fu0, hx0⟩ := h0
  obtain ⟨v0x, d0x, he0, hr0, hok0, hl0⟩ := opens_PlaceIndex W _ _ _ _ _ _ _ _ hx0
  obtain rfl := arr_of he0
  obtain ⟨a1, rfl, rfl, rfl, wf1⟩ := open_int Try.underlying3 (hval 1 3 v1 rfl rfl) h1
  obtain ⟨a2, rfl, rfl, rfl, wf2⟩ := open_int Try.underlying3 (hval 2 3 v2 rfl rfl) h2
  clear hA0 hval0
  refine (w_FnExactSearchIndex W v0x d0x hr0 hok0 hl0 a1 wf1 a2 wf2).mono fun e W' ⟨he, hb⟩ => ?_
  subst he
  exact ⟨_, rfl, law_post laidB (by kernel_rfl) rfl Try.underlying4 rfl hW' rfl hb⟩
theorem cl_named : Try.prog.funcNamed Rows.fnExactSearchIndexRow.func = some 17 := by kernel_rfl
theorem cl_facts : joinedFacts Try.prog 17 Try.f17 Rows.fnExactSearchIndexSpec Rows.fnExactSearchIndexRow = true := ((factsR _ _ _ _ _).2 init_enter init_final init_make).trans (by kernel_rfl)
theorem cl_inst : decide (Try.f17.isInstance Try.prog Rows.fnExactSearchIndexRow.origin Rows.fnExactSearchIndexRow.targs) = true := by kernel_rfl
theorem cl_wrap : Try.f17.isWrapper Try.prog Rows.fnExactSearchIndexRow.wrapper Rows.fnExactSearchIndexRow.mainSum := by unfold Func.isWrapper; first | (rw [if_pos (by decide +kernel)]; kernel_rfl) | (rw [if_neg (by decide +kernel)]; exact ⟨rfl, rfl⟩)
theorem over : Rows.fnExactSearchIndexRow.holds Try.pinned (OpenSpec.ofChange Rows.fnExactSearchIndexSpec) :=
  OpenClaim.holds_of_wide 17 Try.f17 rfl rfl rfl rfl rfl rfl rfl ⟨rfl, rfl, rfl, rfl, rfl⟩ rfl rfl rfl rfl rfl cl_named Try.func17 cl_facts
    (of_decide_eq_true cl_inst) cl_wrap
    (fun os started H enc _ => lifted os started H enc)
/-- the statement -/
theorem proved : Rows.FnExactSearchIndexSaid := over
#print axioms proved
end Go.Proofs.Ytadmeijogbljhaa.fnExactSearchIndex
