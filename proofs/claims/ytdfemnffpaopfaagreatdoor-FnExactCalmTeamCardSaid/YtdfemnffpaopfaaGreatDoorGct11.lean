/- Texts of this proof, one behind the other: Poses, Reg, OnceD. -/
import Derived.Deep.RegionLaw
import Derived.BigRegion
import Derived.Deep.Quiet
import Derived.Test.YtdfemnffpaopfaaGreatDoorGct3
import Derived.Test.YtdfemnffpaopfaaGreatDoorGct4
import Derived.Test.YtdfemnffpaopfaaGreatDoorGct9
import Derived.Test.YtdfemnffpaopfaaGreatDoorGct10
namespace Go.Proofs.YtdfemnffpaopfaaGreatDoor
open Go.RowKit
set_option linter.unusedVariables false
set_option linter.unusedSimpArgs false
set_option maxHeartbeats 1000000
set_option maxRecDepth 100000

end Go.Proofs.YtdfemnffpaopfaaGreatDoor

namespace Go.Proofs.YtdfemnffpaopfaaGreatDoor
open Go.RowKit
set_option linter.unusedVariables false
set_option linter.unusedSimpArgs false
section
variable {P:Program} {md:Region.Mode} {ops:Array Oper} {Q:Exit→Act→World→Prop}
theorem count_set:∀ (l:List Bool) (i:Nat),l[i]? = some false→(l.set i true).count false+1=l.count false
  | b :: l,0,h=>by simp only [List.getElem?_cons_zero,Option.some.injEq] at h;subst h;simp
  | b :: l,i+1,h=>by
    simp only [List.getElem?_cons_succ] at h
    have:=count_set l i h
    rw [List.set_cons_succ,List.count_cons,List.count_cons];omega
theorem wpAny_inv {I:Array Bool→Act→World→Prop}
    (hstep:∀ listed a w,I listed a w→∀ i∈Region.ready md ops listed,wpOp P ops Q i (I (listed.setIfInBounds i true)) a w)
    (hend:∀ listed a w,I listed a w→Region.ready md ops listed=[]→Q .normal a w) :
    ∀ (fuel:Nat) (listed:Array Bool) (a:Act) (w:World),listed.toList.count false≤fuel→I listed a w→wpAny P md ops Q fuel listed a w
  | 0,listed,a,w,hf,hi=>by
    have hr:Region.ready md ops listed=[]:=by
      rw [List.eq_nil_iff_forall_not_mem]
      intro i him
      obtain ⟨h1,_⟩:=mem_ready.1 him
      have h0:listed.toList.count false=0:=by omega
      rw [List.count_eq_zero] at h0
      apply h0
      rcases Nat.lt_or_ge i listed.size with h | h
      · simp [Array.getD,h] at h1
        rw [← h1];simp
      · rw [Array.getD,dif_neg (by omega)] at h1;cases h1
    exact ⟨hr,hend _ _ _ hi hr⟩
  | fuel+1,listed,a,w,hf,hi=>by
    refine ⟨fun hr=>hend _ _ _ hi hr,fun i him=>?_⟩
    have hs:=hstep _ _ _ hi i him
    obtain ⟨h1,_⟩:=mem_ready.1 him
    have hlt:i < listed.size:=by
      rcases Nat.lt_or_ge i listed.size with h | h
      · exact h
      · rw [Array.getD,dif_neg (by omega)] at h1;cases h1
    have hc:=count_set listed.toList i (by simp [Array.getD,hlt] at h1;simp [hlt,h1])
    refine wpOp_mono (fun a' w' h=>wpAny_inv hstep hend fuel _ a' w' ?_ h) hs
    rw [Array.setIfInBounds,dif_pos hlt,Array.toList_set]
    omega
end
theorem wp_region_inv {P:Program} {ops:Array Oper} {Q:Exit→Act→World→Prop} {id:Nat} {a:Act} {w:World} (I:Array Bool→Act→World→Prop) (hm:P.follows .mixedOrders=true)
    (h0:I (Array.replicate ops.size false) a w.drew)
    (hstep:∀ listed a w,I listed a w→∀ i∈Region.ready .any ops listed,wpOp P ops Q i (I (listed.setIfInBounds i true)) a w)
    (hend:∀ listed a w,I listed a w→Region.ready .any ops listed=[]→Q .normal a w):(Code.region id ops true).wp P Q a w :=
  wp_region_any hm (wpAny_inv hstep hend _ _ _ _ (by simp [List.count_replicate]) h0)
theorem ready_nil {md:Region.Mode} {ops:Array Oper} {listed:Array Bool} (h:Region.ready md ops listed=[]) (hlt:(List.range ops.size).all (fun j=>match ops[j]? with | some o=>o.after.all fun e=>decide (e.on < j) | none=>true)=true) :
    ∀ n j,j < n→j < ops.size→listed.getD j true=true:=by
  intro n
  induction n with
  | zero=>intro j hj;omega
  | succ n ih =>
    intro j hj hs
    cases hb:listed.getD j true with
    | true=>rfl
    | false =>
      exfalso
      have hm:j∈Region.ready md ops listed:=by
        rw [mem_ready]
        refine ⟨hb,ops[j],by simp [hs],fun e he _=>?_⟩
        have h1:=List.all_eq_true.1 hlt j (List.mem_range.2 hs)
        simp only [hs,Array.getElem?_eq_getElem] at h1
        have h2:e.on < j:=by
          have:=Array.all_eq_true_iff_forall_mem.1 h1 e he
          simpa using this
        have h3:=ih e.on (by omega) (by omega)
        rcases Nat.lt_or_ge e.on listed.size with h | h
        · simp [Array.getD,h] at h3 ⊢;exact h3
        · have hj2:listed.getD j true=true:=by rw [Array.getD,dif_neg (by omega)]
          rw [hj2] at hb;cases hb
      rw [h] at hm
      cases hm
end Go.Proofs.YtdfemnffpaopfaaGreatDoor


namespace Go.Proofs.YtdfemnffpaopfaaGreatDoor
open Go.RowKit
set_option linter.unusedVariables false
set_option linter.unusedSimpArgs false
set_option maxHeartbeats 400000
set_option maxRecDepth 100000

end Go.Proofs.YtdfemnffpaopfaaGreatDoor
