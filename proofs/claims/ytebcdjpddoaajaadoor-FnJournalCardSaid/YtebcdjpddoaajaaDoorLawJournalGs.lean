/- The law 'FnJournal' returns true for every input, and leaves its arguments as they were; the card ties the tables and errors of Go's library that its row lists to the program's text. Condition: those variables hold what their initialisers lay. -/
import Derived.Test.YtebcdjpddoaajaaDoorRows
import Derived.Test.YtebcdjpddoaajaaDoorCards
import Derived.Test.YtebcdjpddoaajaaDoorTie
import Derived.SevenTiedAt
import Derived.Test.YtebcdjpddoaajaaDoorGs18
import Derived.Test.YtebcdjpddoaajaaDoorGs30
import Derived.Test.YtebcdjpddoaajaaDoorGs31
import Derived.Test.YtebcdjpddoaajaaDoorGs32
namespace Go.Proofs.YtebcdjpddoaajaaDoor.fnJournal
open Go.ChangeShapes Go.WideShapes Go.ChangeAt Go.RowKit Go.Deep
open Go.ChangeMaps (open_string shut_string)
set_option linter.unusedVariables false
set_option linter.unusedSimpArgs false
theorem own : ownKnob Tryd.prog.godebug = none := by kernel_rfl
/-- the door's own heap meets the condition -/
theorem door_met (os : Os) : laidMetH Tryd.prog laidL5 ((World.doorLaid Tryd.prog 64 os).forCall (fun _ _ => 0) ⟨#[], #[.slice none 0 0], []⟩).memory :=
  laidMetH_of_parts3 (fuel := 8) (laidMet_of_run' 8 (by kernel_rfl) (by kernel_rfl)) (by kernel_rfl) (by kernel_rfl)
set_option maxRecDepth 100000 in
theorem lifted (os : Os) (started : os.Started) (H : Type) (enc : TypeId × Value → H) :
    ReturnsInHanded {} Tryd.checked os 5 .any (fun w args => (Rows.fnJournalSpec.pre enc Tryd.prog Tryd.f5 [] false w args ∧ laidMetH Tryd.prog laidL5 w) ∧ sizedMet enc Tryd.prog Tryd.f5 (OpenSpec.ofChange Rows.fnJournalSpec) false w args)
      (Rows.fnJournalSpec.post enc Tryd.prog Tryd.f5 false true false false) := by
  refine handed_and_shaped (C := Tryd.checked) (X := fun w _ => laidMetH Tryd.prog laidL5 w) (fun _ _ _ hh h => h.of_heap hh) own started (by kernel_rfl) Tryd.func5
    (ChangeSpec.witness_shaped (enc := enc) (C := Tryd.checked) (os := os) (X := fun w _ => laidMetH Tryd.prog laidL5 w) false (World.doorLaid Tryd.prog 64 os) #[.slice none 0 0] 8 rfl (World.shaped_of_RefB (by kernel_rfl) (by kernel_rfl)) (by kernel_rfl) (by kernel_rfl) (by kernel_rfl) (door_met os)) ?_
  intro W base args ds gs before hval0 hW hL hSh
  have hval : ∀ (j : Nat) t v, Tryd.f5.params[j]? = some t → args[j]? = some v → Value.okWide Tryd.prog W .any base t v := hval0
  have hW' := hW
  obtain ⟨p, q, hA0, hV, rfl, hfz, hnd⟩ := hW
  have hA : DataW.TrodAll enc Tryd.prog W 0 (fun _ => true) true Tryd.f5.params.toList args.toList ds p := hA0
  rw [Tryd.params5] at hA hval
  obtain ⟨v0, vs0, d0, ds0, p0, q0, hargs, rfl, rfl, h0, r0⟩ := trodAll_cons hA
  obtain ⟨rfl, rfl, rfl⟩ := trodAll_nil r0
  obtain rfl : args = #[v0] := by cases args; simp_all
  obtain ⟨rfl, rfl⟩ := trodVars_none hV
  obtain ⟨A0, n0, c0, rfl⟩ := okWide_slice Tryd.underlying22 (hval 0 22 v0 rfl rfl)
  obtain ⟨fu0, hx0⟩ := h0
  obtain ⟨A0', n0', c0', he0, hn0, hy0⟩ := bytes_of (opens_bytes W _ _ _ _ _ _ _ _ hx0)
  obtain ⟨rfl, rfl, rfl⟩ : A0 = A0' ∧ n0 = n0' ∧ c0 = c0' := by simpa [Value.cells] using he0
  clear hA0 hval0
  refine (w_FnJournal W A0 n0 c0 hn0 hy0 (tabJ_of hL hSh)).mono fun e W' ⟨he, hb⟩ => ?_
  subst he
  exact ⟨_, rfl, law_post laidB (by kernel_rfl) rfl Tryd.underlying4 rfl hW' rfl hb⟩
theorem cl_named : Tryd.prog.funcNamed Rows.fnJournalRow.func = some 5 := by kernel_rfl
theorem cl_facts : joinedFacts Tryd.prog 5 Tryd.f5 Rows.fnJournalSpec Rows.fnJournalRow = true := by kernel_rfl
theorem cl_inst : decide (Tryd.f5.isInstance Tryd.prog Rows.fnJournalRow.origin Rows.fnJournalRow.targs) = true := by kernel_rfl
theorem cl_wrap : Tryd.f5.isWrapper Tryd.prog Rows.fnJournalRow.wrapper Rows.fnJournalRow.mainSum := by unfold Func.isWrapper; first | (rw [if_pos (by decide +kernel)]; kernel_rfl) | (rw [if_neg (by decide +kernel)]; exact ⟨rfl, rfl⟩)
theorem over : Rows.fnJournalRow.holds Tryd.pinned (OpenSpec.ofChange Rows.fnJournalSpec) :=
  OpenClaim.holds_of_wide 5 Tryd.f5 rfl rfl rfl rfl rfl rfl rfl ⟨rfl, rfl, rfl, rfl, rfl⟩ rfl rfl rfl rfl rfl cl_named Tryd.func5 cl_facts
    (of_decide_eq_true cl_inst) cl_wrap
    (fun os started H enc _ => lifted os started H enc)
/-- no parameter wants a stand-in; the program's own looks are off -/
theorem plain (f : FuncId) (fn : Func) (hf : Tryd.pinned.checked.prog.funcNamed "loop.example/g00810/laws.FnJournal" = some f) (hfn : Tryd.pinned.checked.prog.funcs[f]? = some fn) :
    true = Tryd.pinned.checked.prog.looks [] ∧ ∀ (j : Nat) t, fn.params[j]? = some t → Tryd.pinned.checked.prog.wantsStandIn t = false := by
  obtain rfl : f = 5 := Option.some.inj ((show Tryd.prog.funcNamed "loop.example/g00810/laws.FnJournal" = some 5 by kernel_rfl).symm.trans hf) |>.symm
  obtain rfl : fn = Tryd.f5 := (Option.some.inj (Tryd.func5.symm.trans hfn)).symm
  refine ⟨by kernel_rfl, fun j t ht => ?_⟩
  rw [Tryd.params5] at ht
  have hm : t ∈ [22] := by simpa using Array.mem_of_getElem? ht
  have hall : ([22].all fun u => !Tryd.prog.wantsStandIn u) = true := by kernel_rfl
  exact (show Tryd.prog.wantsStandIn t = false by simpa using List.all_eq_true.1 hall t hm)
/-- the statement: the tied card -/
theorem proved : Rows.FnJournalCardSaid :=
  Claim7.holds_tied_plain_at .later [] _ _ _ _ over (fun _ h => by cases h) (by kernel_rfl) (fun _ h => by cases h) fnJournal_row_tie rfl ⟨rfl, rfl⟩ (by kernel_rfl) rfl plain (by kernel_rfl)
#print axioms proved
end Go.Proofs.YtebcdjpddoaajaaDoor.fnJournal
