/- The start-up word of the cut, sign by sign; the closed facts that look into it. -/
import Derived.Test.YtgpmmmfnbphgdaaRows
import Derived.JoinedOf
import Derived.KernelRfl
namespace Go.Proofs.Ytgpmmmfnbphgdaa
open Go.ChangeShapes Go.WideShapes
def initSigns : List Char := [.ofNat 104, .ofNat 97, .ofNat 114, .ofNat 110, .ofNat 101, .ofNat 115, .ofNat 115, .ofNat 32, .ofNat 53, .ofNat 100, .ofNat 99, .ofNat 98, .ofNat 48, .ofNat 48, .ofNat 102, .ofNat 48, .ofNat 50, .ofNat 50, .ofNat 101, .ofNat 52, .ofNat 50, .ofNat 55, .ofNat 51, .ofNat 57, .ofNat 49, .ofNat 56, .ofNat 57, .ofNat 55, .ofNat 55, .ofNat 101, .ofNat 55, .ofNat 100, .ofNat 52, .ofNat 99, .ofNat 57, .ofNat 56, .ofNat 49, .ofNat 54, .ofNat 99, .ofNat 51, .ofNat 99, .ofNat 53, .ofNat 55, .ofNat 51, .ofNat 99, .ofNat 102, .ofNat 55, .ofNat 97, .ofNat 97, .ofNat 49, .ofNat 102, .ofNat 99, .ofNat 49, .ofNat 55, .ofNat 48, .ofNat 52, .ofNat 97, .ofNat 54, .ofNat 50, .ofNat 52, .ofNat 50, .ofNat 49, .ofNat 99, .ofNat 53, .ofNat 53, .ofNat 97, .ofNat 101, .ofNat 56, .ofNat 57, .ofNat 98, .ofNat 98, .ofNat 57, .ofNat 32, .ofNat 99, .ofNat 117, .ofNat 116, .ofNat 32, .ofNat 97, .ofNat 116, .ofNat 32, .ofNat 108, .ofNat 111, .ofNat 111, .ofNat 112, .ofNat 46, .ofNat 101, .ofNat 120, .ofNat 97, .ofNat 109, .ofNat 112, .ofNat 108, .ofNat 101, .ofNat 47, .ofNat 103, .ofNat 48, .ofNat 48, .ofNat 56, .ofNat 49, .ofNat 48, .ofNat 47, .ofNat 108, .ofNat 97, .ofNat 119, .ofNat 115, .ofNat 46, .ofNat 70, .ofNat 110, .ofNat 79, .ofNat 110, .ofNat 99, .ofNat 101]
theorem toList_of {s : String} {l : List Char} (h : s = String.ofList l) : s.toList = l := by rw [h, String.toList_ofList]
theorem init_eq : Try.prog.initOrder.toList = initSigns := toList_of (by kernel_rfl)
theorem make_of (P : Program) (ws : List (List Char)) (h : behindMainWord (wordsSigns P.initOrder.toList) = "cut".toList :: ws) : P.make = some .cut := by
  unfold Program.make; rw [h]; rfl
theorem lifts_of (P : Program) (ws : List (List Char)) (h : behindMainWord (wordsSigns P.initOrder.toList) = "cut".toList :: ws) : P.headLifts = [] := by
  unfold Program.headLifts; rw [h]; rfl
theorem final_of (P : Program) (ws : List (List Char)) (h : behindMainWord (wordsSigns P.initOrder.toList) = "cut".toList :: ws) : P.liftsFinal = false := by
  unfold Program.liftsFinal; rw [h, lifts_of P ws h]; rfl
theorem enter_of (P : Program) (ws : List (List Char)) (h : behindMainWord (wordsSigns P.initOrder.toList) = "cut".toList :: ws) (h1 : P.laysLater = false) (h2 : P.bearsReflect = false) (h3 : P.doorFits [] = true) : P.mayEnter = true := by
  unfold Program.mayEnter; rw [h, h1, h2]
  show (_ || ((stripLifts liftWords ("cut".toList :: ws)).2.head? == some "cut".toList && _ && _ && _ && P.doorFits (stripLifts liftWords ("cut".toList :: ws)).1)) = true
  have e : stripLifts liftWords ("cut".toList :: ws) = ([], "cut".toList :: ws) := by kernel_rfl
  rw [e, h3]
  rfl
theorem init_words : behindMainWord (wordsSigns initSigns) = "cut".toList :: (behindMainWord (wordsSigns initSigns)).tail := by kernel_rfl
theorem init_head : behindMainWord (wordsSigns Try.prog.initOrder.toList) = "cut".toList :: (behindMainWord (wordsSigns initSigns)).tail := (congrArg (fun l => behindMainWord (wordsSigns l)) init_eq).trans init_words
theorem init_later : Try.prog.laysLater = false := by kernel_rfl
theorem init_reflect : Try.prog.bearsReflect = false := by kernel_rfl
theorem init_door : Try.prog.doorFits [] = true := by kernel_rfl
theorem init_lifts : Try.prog.headLifts = [] := lifts_of _ _ init_head
theorem init_enter : Try.prog.mayEnter = true := enter_of _ _ init_head init_later init_reflect init_door
theorem init_final : Try.prog.liftsFinal = false := final_of _ _ init_head
theorem init_make : Try.prog.make = some .cut := make_of _ _ init_head
/-- what is left of the closed facts once the three that look into the start-up word are known -/
noncomputable def factsR (P : Program) (f : FuncId) (fn : Func) (s : ChangeSpec) (c : OpenClaim) : { b : Bool // P.mayEnter = true → P.liftsFinal = false → P.make = some .cut → joinedFacts P f fn s c = b } := by
  refine ⟨?b, fun h1 h2 h3 => ?h⟩
  case h =>
    unfold joinedFacts
    rw [h1, h2, h3]
end Go.Proofs.Ytgpmmmfnbphgdaa
