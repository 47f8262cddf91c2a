/- Texts of this proof, one behind the other: Draw7, FctP, BdlP, TmP. -/
import Derived.Test.YtdfemnffpaopfaaGreatDoorGct4
import Derived.Test.YtdfemnffpaopfaaGreatDoorGct11
import Derived.Test.YtdfemnffpaopfaaGreatDoorGct14
import Derived.Test.YtdfemnffpaopfaaGreatDoorGct17
namespace Go.Proofs.YtdfemnffpaopfaaGreatDoor
open Go.RowKit
set_option linter.unusedVariables false
set_option linter.unusedSimpArgs false
set_option maxHeartbeats 1000000
set_option maxRecDepth 100000


def rob (r:Int) (l:List Factor):List Factor:=l.filter fun f=>robotOf f.id == r
theorem asc_pw:∀ (l:List Factor) (p:Option Int),ascL l p=true→l.Pairwise (fun f g=>f.id < g.id)
  | [],_,_=>List.Pairwise.nil
  | a :: l,p,h=>List.Pairwise.cons (asc_gt l a.id (asc_tail h)) (asc_pw l _ (asc_tail h))
theorem fl_asc {l:List Factor} (h:isFL l=true):ascL l none=true:=by
  unfold isFL at h;simp only [Bool.and_eq_true] at h;exact h.2.1
def fresh_ (l L:List Factor):List Factor:=L.filter fun g=>!hasId l g.id
theorem drop_ge:∀ (L:List Factor) (f:Factor) (p:Option Int),ascL L p=true→∀ g∈L.drop (L.takeWhile (below f)).length,f.id≤g.id
  | [],f,p,_,g,hg=>by simp at hg
  | a :: L,f,p,h,g,hg=>by
    by_cases hb:below f a=true
    · rw [List.takeWhile_cons_of_pos hb] at hg
      exact drop_ge L f _ (asc_tail h) g (by simpa using hg)
    · rw [List.takeWhile_cons_of_neg hb] at hg
      have ha:f.id≤a.id:=by
        unfold below at hb
        simp only [decide_eq_true_eq] at hb
        omega
      simp only [List.length_nil,List.drop_zero] at hg
      rcases List.mem_cons.1 hg with rfl | hg
      · exact ha
      · have:=asc_gt L a.id (asc_tail h) g hg;omega
theorem add_fresh {l L:List Factor} {f:Factor} (hL:ascL L none=true) (hl:hasId l f.id=false) (hlt:∀ g∈fresh_ l L,g.id < f.id):fresh_ l (insF L f)=fresh_ l L++[f]:=by
  have hd:fresh_ l (L.drop (insAt L f))=[]:=by
    unfold fresh_
    rw [List.filter_eq_nil_iff]
    intro g hg hn
    have h1:=drop_ge L f none hL g hg
    have h2:=hlt g (List.mem_filter.2 ⟨List.mem_of_mem_drop hg,hn⟩)
    omega
  have hs:fresh_ l L=fresh_ l (L.take (insAt L f)):=by
    have e:fresh_ l L=fresh_ l (L.take (insAt L f))++fresh_ l (L.drop (insAt L f)):=by
      unfold fresh_;rw [← List.filter_append,List.take_append_drop]
    rw [e,hd,List.append_nil]
  rw [hs]
  unfold insF
  have e2:fresh_ l (L.take (insAt L f)++f :: L.drop (insAt L f))=fresh_ l (L.take (insAt L f))++(f :: fresh_ l (L.drop (insAt L f))):=by
    unfold fresh_
    rw [List.filter_append,List.filter_cons_of_pos (by simp [hl])]
  rw [e2,hd]
theorem merge_added (l:List Factor):∀ (fs L a:List Factor),isFL L=true→a=fresh_ l L→(∀ x:Int,hasId l x=true→hasId L x=true)→(∀ g∈a,∀ f∈fs,g.id < f.id)→fs.Pairwise (fun f g=>f.id < g.id) →
    (fs.foldl mergeStep (L,a)).2=fresh_ l (fs.foldl mergeStep (L,a)).1
  | [],L,a,_,ha,_,_,_=>ha
  | f :: fs,L,a,hL,ha,hs,hlt,hp=>by
    obtain ⟨p1,p2⟩:=List.pairwise_cons.1 hp
    rw [List.foldl_cons]
    cases had:(addF L f).2 with
    | false =>
      have e:mergeStep (L,a) f=(L,a):=by unfold mergeStep;simp only [had];rfl
      rw [e]
      exact merge_added l fs L a hL ha hs (fun g hg h hh=>hlt g hg h (by simp [hh])) p2
    | true =>
      obtain ⟨h1,h2,_⟩:=addF_cases had
      have hnL:hasId L f.id=false:=by
        cases hh:hasId L f.id with
        | false=>rfl
        | true=>rw [addF_has hL hh] at had;cases had
      have hnl:hasId l f.id=false:=by
        cases hh:hasId l f.id with
        | false=>rfl
        | true=>rw [hs _ hh] at hnL;cases hnL
      have e:mergeStep (L,a) f=(insF L f,a++[f]):=by unfold mergeStep;simp only [had,if_true,h1]
      have hf:=add_fresh (fl_asc hL) hnl (fun g hg=>hlt g (by rw [ha];exact hg) f (by simp))
      rw [e]
      refine merge_added l fs (insF L f) (a++[f]) h2 (by rw [hf,ha]) (fun x hx=>?_) (fun g hg h hh=>?_) p2
      · obtain ⟨g,hg,he⟩:=hasId_iff.1 (hs x hx)
        exact hasId_iff.2 ⟨g,mem_insF.2 (.inr hg),he⟩
      · rcases List.mem_append.1 hg with hg | hg
        · exact hlt g hg h (by simp [hh])
        · rw [List.mem_singleton.1 hg];exact p1 h hh
theorem fresh_self (l:List Factor):fresh_ l l=[]:=by
  unfold fresh_
  rw [List.filter_eq_nil_iff]
  intro g hg
  have:hasId l g.id=true:=hasId_iff.2 ⟨g,hg,rfl⟩
  simp [this]
theorem bunL_asc:∀ (l:List Factor) (r:Int) (p:Option Int),bunL r l p=true→ascL l p=true
  | [],_,_,_=>rfl
  | a :: l,r,p,h=>by
    simp only [bunL,Bool.and_eq_true] at h
    simp only [ascL,Bool.and_eq_true]
    exact ⟨h.1,h.2.2.1,bunL_asc l r _ h.2.2.2⟩
theorem mergeB_added {l fs:List Factor} {r:Int}:(mergeB l r fs).2=fresh_ l (mergeB l r fs).1:=by
  unfold mergeB
  split
  · rename_i h
    rw [Bool.and_eq_true] at h
    have hb:=h.2
    unfold isBundle at hb
    simp only [Bool.and_eq_true] at hb
    exact merge_added l fs l [] h.1 (fresh_self l).symm (fun _ hx=>hx) (by simp) (asc_pw fs none (bunL_asc fs r none hb.2.2))
  · exact (fresh_self l).symm
end Go.Proofs.YtdfemnffpaopfaaGreatDoor
