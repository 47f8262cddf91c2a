/- The law 'FnTeam' returns true for every input, and leaves its arguments as they were; the card ties the tables and errors of Go's library that its row lists to the program's text. Condition: those variables hold what their initialisers lay. -/
import Derived.Test.YtcnbphnnfmphlaaGreatDoorGtm38
namespace Go.Proofs.YtcnbphnnfmphlaaGreatDoor.fnTeam
open Option.some renaming inj → Z7
open Go.ChangeShapes Go.WideShapes Go.ChangeAt Go.RowKit Go.Deep
open Go.ChangeMaps (open_string shut_string)
set_option linter.unusedVariables false
set_option linter.unusedSimpArgs false
theorem own : ownKnob Tryz.prog.godebug=none := by kernel_rfl
/-- the door's own heap meets the condition -/
theorem ZmB(os : Os): laidMetH Tryz.prog UO ((World.doorLaid Tryz.prog 64 os).forCall (fun _ _ => 0) ⟨#[],#[.slice none 0 0],[]⟩).memory :=
 laidMetH_of_parts3 (fuel := 8) (laidMet_of_run' 8 (by kernel_rfl) (by kernel_rfl)) (by kernel_rfl) (by kernel_rfl)
set_option maxRecDepth 100000 in
theorem Zr1(os : Os)(started : os.Started)(H : Type)(enc : TypeId×Value -> H):
  ReturnsInHanded {} Tryz.checked os 3 .any (fun w args =>(Rows.fnTeamSpec.pre enc Tryz.prog Tryz.f3 [] false w args /\ laidMetH Tryz.prog UO w)/\ sizedMet enc Tryz.prog Tryz.f3 (OpenSpec.ofChange Rows.fnTeamSpec) false w args)
   (Rows.fnTeamSpec.post enc Tryz.prog Tryz.f3 false true false false):= by
 refine Z5P (C := Tryz.checked) (X := fun w _ => laidMetH Tryz.prog UO w) (fun _ _ _ hh h => h.of_heap hh) own started (by kernel_rfl) Tryz.func3
  (ChangeSpec.witness_shaped (enc := enc) (C := Tryz.checked) (os := os) (X := fun w _ => laidMetH Tryz.prog UO w) false (World.doorLaid Tryz.prog 64 os) #[.slice none 0 0] 8 rfl (World.shaped_of_RefB (by kernel_rfl) (by kernel_rfl)) (by kernel_rfl) (by kernel_rfl) (by kernel_rfl) (ZmB os)) ?_
 intro W base args ds gs before hval0 hW hL hSh;have hval : ∀ (j : Nat) t v, Tryz.f3.params[j]? = some t -> args[j]? = some v -> Value.okWide Tryz.prog W .any base t v := hval0;have hW' := hW;obtain⟨p, q, Ir, hV, rfl, hfz, hnd⟩:= hW;have hA : DataW.TrodAll enc Tryz.prog W 0 (fun _ => true) true Tryz.f3.params.toList args.toList ds p := Ir;rw[Tryz.params3]at hA hval;obtain⟨v0, vs0, d0, ds0, p0, q0, hargs, rfl, rfl, h0, r0⟩:= trodAll_cons hA;obtain⟨rfl, rfl, rfl⟩:= trodAll_nil r0;obtain rfl : args =#[v0]:= by cases args; simp_all
 obtain⟨rfl, rfl⟩:= trodVars_none hV;obtain⟨A0, n0, c0, rfl⟩:= okWide_slice Tryz.underlying22 (hval 0 22 v0 rfl rfl);obtain⟨fu0, hx0⟩:= h0;obtain⟨A0', n0', c0', he0, hn0, hy0⟩:= ZmQ (Zef W _ _ _ _ _ _ _ _ hx0);obtain⟨rfl, rfl, rfl⟩: A0=A0' /\ n0=n0' /\ c0=c0' := by simpa [Value.cells]using he0
 clear Ir hval0;refine(Zl9 W A0 n0 c0 hn0 hy0 (Zoo hL hSh)).mono fun e W' ⟨he, hb⟩=> ?_
 subst he;exact⟨_, rfl, Zma Zsv (by kernel_rfl) rfl Tryz.underlying4 rfl hW' rfl hb⟩
theorem ZmJ : Tryz.prog.funcNamed Rows.fnTeamRow.func=some 3 := by kernel_rfl
theorem ZmK : joinedFacts Tryz.prog 3 Tryz.f3 Rows.fnTeamSpec Rows.fnTeamRow=true := by kernel_rfl
theorem ZpF : decide (Tryz.f3.isInstance Tryz.prog Rows.fnTeamRow.origin Rows.fnTeamRow.targs)= true := by kernel_rfl
theorem ZpE : Tryz.f3.isWrapper Tryz.prog Rows.fnTeamRow.wrapper Rows.fnTeamRow.mainSum := by unfold Func.isWrapper; first |(rw[if_pos (by decide +kernel)]; kernel_rfl)|(rw[if_neg (by decide +kernel)]; exact⟨rfl, rfl⟩)
theorem Ztr : Rows.fnTeamRow.holds Tryz.pinned (OpenSpec.ofChange Rows.fnTeamSpec):=
 OpenClaim.holds_of_wide 3 Tryz.f3 rfl rfl rfl rfl rfl rfl rfl ⟨rfl, rfl, rfl, rfl, rfl⟩ rfl rfl rfl rfl rfl ZmJ Tryz.func3 ZmK
  (of_decide_eq_true ZpF) ZpE
  (fun os started H enc _ => Zr1 os started H enc)
/-- no parameter wants a stand-in; the program's own looks are off -/
theorem Zsk (f : FuncId) (fn : Func) (hf : Tryz.pinned.checked.prog.funcNamed "loop.example/g00810/laws.FnTeam" = some f) (hfn : Tryz.pinned.checked.prog.funcs[f]? = some fn) :
  true=Tryz.pinned.checked.prog.looks []/\ ∀ (j : Nat) t, fn.params[j]? = some t -> Tryz.pinned.checked.prog.wantsStandIn t=false := by
 obtain rfl : f = 3 := Z7 ((show Tryz.prog.funcNamed "loop.example/g00810/laws.FnTeam" = some 3 by kernel_rfl).symm.trans hf) |>.symm
 obtain rfl : fn=Tryz.f3 :=(Z7 (Tryz.func3.symm.trans hfn)).symm;refine⟨by kernel_rfl, fun j t ht => ?_⟩;rw[Tryz.params3]at ht;have hm : t ∈[22]:= by simpa using Array.mem_of_getElem? ht
 have hall :([22].all fun u => !Tryz.prog.wantsStandIn u)= true := by kernel_rfl
 exact(show Tryz.prog.wantsStandIn t=false by simpa using List.all_eq_true.1 hall t hm)
/-- the statement: the tied card -/
theorem proved : Rows.FnTeamCardSaid :=
 Claim7.holds_tied_plain_at .later [] _ _ _ _ Ztr (fun _ h => by cases h) (by kernel_rfl) (fun _ h => by cases h) fnTeam_row_tie rfl ⟨rfl, rfl⟩ (by kernel_rfl) rfl Zsk (by kernel_rfl)
#print axioms proved
end Go.Proofs.YtcnbphnnfmphlaaGreatDoor.fnTeam
