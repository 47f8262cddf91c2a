/- The law 'FnExactAppendEntry' returns true for every input, and leaves its arguments as they were; the card ties the tables and errors of Go's library that its row lists to the program's text. Condition: those variables hold what their initialisers lay. -/
import Derived.Test.YtebcdjpddoaajaaDoorRows
import Derived.Test.YtebcdjpddoaajaaDoorCards
import Derived.Test.YtebcdjpddoaajaaDoorTie
import Derived.SevenTiedAt
import Derived.Test.YtebcdjpddoaajaaDoorGr14
import Derived.Test.YtebcdjpddoaajaaDoorGr44
import Derived.Test.YtebcdjpddoaajaaDoorGr45
namespace Go.Proofs.YtebcdjpddoaajaaDoor.fnExactAppendEntry
open Go.ChangeShapes Go.WideShapes Go.ChangeAt Go.RowKit Go.Deep
open Go.ChangeMaps (open_string shut_string)
set_option linter.unusedVariables false
set_option linter.unusedSimpArgs false
theorem own : ownKnob Tryd.prog.godebug = none := by kernel_rfl
/-- the door's own heap meets the condition -/
theorem door_met (os : Os) : laidMetH Tryd.prog laidL5 ((World.doorLaid Tryd.prog 64 os).forCall (fun _ _ => 0) ⟨#[], #[.string ByteArray.empty, .agg #[.bool false, .int .i64 0, .int .i64 0, .int .i64 0, .string ByteArray.empty, .string ByteArray.empty, .int .i64 0, .int .i64 0, .int .i64 0, .int .i64 0]], []⟩).memory :=
  laidMetH_of_parts3 (fuel := 8) (laidMet_of_run' 8 (by kernel_rfl) (by kernel_rfl)) (by kernel_rfl) (by kernel_rfl)
set_option maxRecDepth 100000 in
theorem lifted (os : Os) (started : os.Started) (H : Type) (enc : TypeId × Value → H) :
    ReturnsInHanded {} Tryd.checked os 8 .any (fun w args => (Rows.fnExactAppendEntrySpec.pre enc Tryd.prog Tryd.f8 [] false w args ∧ laidMetH Tryd.prog laidL5 w) ∧ sizedMet enc Tryd.prog Tryd.f8 (OpenSpec.ofChange Rows.fnExactAppendEntrySpec) false w args)
      (Rows.fnExactAppendEntrySpec.post enc Tryd.prog Tryd.f8 false true false false) := by
  refine handed_and_shaped (C := Tryd.checked) (X := fun w _ => laidMetH Tryd.prog laidL5 w) (fun _ _ _ hh h => h.of_heap hh) own started (by kernel_rfl) Tryd.func8
    (ChangeSpec.witness_shaped (enc := enc) (C := Tryd.checked) (os := os) (X := fun w _ => laidMetH Tryd.prog laidL5 w) false (World.doorLaid Tryd.prog 64 os) #[.string ByteArray.empty, .agg #[.bool false, .int .i64 0, .int .i64 0, .int .i64 0, .string ByteArray.empty, .string ByteArray.empty, .int .i64 0, .int .i64 0, .int .i64 0, .int .i64 0]] 8 rfl (World.shaped_of_RefB (by kernel_rfl) (by kernel_rfl)) (by kernel_rfl) (by kernel_rfl) (by kernel_rfl) (door_met os)) ?_
  intro W base args ds gs before hval0 hW hL hSh
  have hval : ∀ (j : Nat) t v, Tryd.f8.params[j]? = some t → args[j]? = some v → Value.okWide Tryd.prog W .any base t v := hval0
  have hW' := hW
  obtain ⟨p, q, hA0, hV, rfl, hfz, hnd⟩ := hW
  have hA : DataW.TrodAll enc Tryd.prog W 0 (fun _ => true) true Tryd.f8.params.toList args.toList ds p := hA0
  rw [Tryd.params8] at hA hval
  obtain ⟨v0, vs0, d0, ds0, p0, q0, hargs, rfl, rfl, h0, r0⟩ := trodAll_cons hA
  obtain ⟨v1, vs1, d1, ds1, p1, q1, rfl, rfl, rfl, h1, r1⟩ := trodAll_cons r0
  obtain ⟨rfl, rfl, rfl⟩ := trodAll_nil r1
  obtain rfl : args = #[v0, v1] := by cases args; simp_all
  obtain ⟨rfl, rfl⟩ := trodVars_none hV
  obtain ⟨a0, rfl, rfl, rfl, wf0⟩ := open_string Tryd.underlying9 (hval 0 9 v0 rfl rfl) h0
  obtain ⟨cs1, rfl, hsz1⟩ := okWide_struct Tryd.underlying73 (hval 1 73 v1 rfl rfl)
  obtain ⟨fu1, hx1⟩ := h1
  obtain ⟨f1, he1, hid1, hok1⟩ := opens_Entry W _ _ _ _ _ _ _ _ hx1
  obtain rfl := arr_of he1
  clear hA0 hval0
  refine (w_FnExactAppendEntry a0 wf0 f1 hid1 hok1 W (tabJ_of hL hSh)).mono fun e W' ⟨he, hb⟩ => ?_
  subst he
  exact ⟨_, rfl, law_post laidB (by kernel_rfl) rfl Tryd.underlying4 rfl hW' rfl hb⟩
theorem cl_named : Tryd.prog.funcNamed Rows.fnExactAppendEntryRow.func = some 8 := by kernel_rfl
theorem cl_facts : joinedFacts Tryd.prog 8 Tryd.f8 Rows.fnExactAppendEntrySpec Rows.fnExactAppendEntryRow = true := by kernel_rfl
theorem cl_inst : decide (Tryd.f8.isInstance Tryd.prog Rows.fnExactAppendEntryRow.origin Rows.fnExactAppendEntryRow.targs) = true := by kernel_rfl
theorem cl_wrap : Tryd.f8.isWrapper Tryd.prog Rows.fnExactAppendEntryRow.wrapper Rows.fnExactAppendEntryRow.mainSum := by unfold Func.isWrapper; first | (rw [if_pos (by decide +kernel)]; kernel_rfl) | (rw [if_neg (by decide +kernel)]; exact ⟨rfl, rfl⟩)
theorem over : Rows.fnExactAppendEntryRow.holds Tryd.pinned (OpenSpec.ofChange Rows.fnExactAppendEntrySpec) :=
  OpenClaim.holds_of_wide 8 Tryd.f8 rfl rfl rfl rfl rfl rfl rfl ⟨rfl, rfl, rfl, rfl, rfl⟩ rfl rfl rfl rfl rfl cl_named Tryd.func8 cl_facts
    (of_decide_eq_true cl_inst) cl_wrap
    (fun os started H enc _ => lifted os started H enc)
/-- no parameter wants a stand-in; the program's own looks are off -/
theorem plain (f : FuncId) (fn : Func) (hf : Tryd.pinned.checked.prog.funcNamed "loop.example/g00810/laws.FnExactAppendEntry" = some f) (hfn : Tryd.pinned.checked.prog.funcs[f]? = some fn) :
    true = Tryd.pinned.checked.prog.looks [] ∧ ∀ (j : Nat) t, fn.params[j]? = some t → Tryd.pinned.checked.prog.wantsStandIn t = false := by
  obtain rfl : f = 8 := Option.some.inj ((show Tryd.prog.funcNamed "loop.example/g00810/laws.FnExactAppendEntry" = some 8 by kernel_rfl).symm.trans hf) |>.symm
  obtain rfl : fn = Tryd.f8 := (Option.some.inj (Tryd.func8.symm.trans hfn)).symm
  refine ⟨by kernel_rfl, fun j t ht => ?_⟩
  rw [Tryd.params8] at ht
  have hm : t ∈ [9, 73] := by simpa using Array.mem_of_getElem? ht
  have hall : ([9, 73].all fun u => !Tryd.prog.wantsStandIn u) = true := by kernel_rfl
  exact (show Tryd.prog.wantsStandIn t = false by simpa using List.all_eq_true.1 hall t hm)
/-- the statement: the tied card -/
theorem proved : Rows.FnExactAppendEntryCardSaid :=
  Claim7.holds_tied_plain_at .later [] _ _ _ _ over (fun _ h => by cases h) (by kernel_rfl) (fun _ h => by cases h) fnExactAppendEntry_row_tie rfl ⟨rfl, rfl⟩ (by kernel_rfl) rfl plain (by kernel_rfl)
#print axioms proved
end Go.Proofs.YtebcdjpddoaajaaDoor.fnExactAppendEntry
