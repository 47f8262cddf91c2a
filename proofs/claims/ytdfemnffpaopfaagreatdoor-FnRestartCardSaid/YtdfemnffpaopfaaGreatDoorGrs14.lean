/- Texts of this proof, one behind the other: Draw7, FctP, BdlP, TmP, Draw8. -/
import Derived.Test.YtdfemnffpaopfaaGreatDoorGrs4
import Derived.Test.YtdfemnffpaopfaaGreatDoorGrs11
import Derived.Test.YtdfemnffpaopfaaGreatDoorGrs13
import Derived.Test.YtdfemnffpaopfaaGreatDoorGrs17
namespace Go.Proofs.YtdfemnffpaopfaaGreatDoor
open Go.RowKit
set_option linter.unusedVariables false
set_option linter.unusedSimpArgs false
set_option maxHeartbeats 1000000
set_option maxRecDepth 100000
def nm7:List (List UInt8):=[(pnm 0).toList,(pnm 1).toList,(pnm 2).toList,(pnm 3).toList,(pnm 4).toList,(mnm 0).toList,(mnm 1).toList]
theorem nmOK.in7 {s:ByteArray} (h:nmOK s):s.toList=[]∨s.toList∈nm7:=by
  rcases h with rfl | ⟨j,hj,rfl⟩ | ⟨j,hj,rfl⟩
  · exact .inl (by decide +kernel)
  · right
    match j,hj with
    | 0,_ | 1,_ | 2,_ | 3,_ | 4,_=>simp [nm7]
    | j+5,hj=>omega
  · right
    match j,hj with
    | 0,_ | 1,_=>simp [nm7]
    | j+2,hj=>omega
theorem FOK.names {l:List Factor} (h:∀ f∈l,FOK f):(namesOf l).length≤7:=names_in (S:=nm7) fun f hf=>⟨(h f hf).2.1.in7,(h f hf).2.2.in7⟩
theorem MakeFactors_c {W w:World} {A:Option Addr} {n c:Nat} (hB:Below W.heap.size W w) (hy:Bytes W A n) (hn:n≤4194304) :
    Calls Tryz.prog 8 #[.slice A n c] w fun e w'=>∃ (v:Sv) (l:List Factor),e=.returned (.slice v.A v.n v.c)∧l.length≤8∧GOK l∧OwF w' v l∧Fresh w.heap.size w' (fpF v)∧Below w.heap.size w w':=by
  have HB:=Lib.hid hB
  have hy':=Lib.hid hy
  clear hB hy
  go_enter Tryz.func8,Tryz.ntmps8
  go_wp2_with fail
  refine Calls.mono (l01New_c (c:=c) HB.out hy'.out hn) ?_
  rintro e w1 ⟨b,rfl,hb,hc1,hb1⟩
  have HC:=Lib.hid hc1
  have hs:=hb1.size
  have B1:=Lib.hid hb1
  clear hc1 hb1
  go_wp2_with fail
  refine Calls.mono (l16List_c hy'.out hn HC.out) ?_
  rintro e w2 ⟨v,l,rfl,hlen,hgok,ho,hc2,hu2⟩
  have FL:=Lib.hid hgok
  have B2:=Lib.hid (bUpd1 (W:=w) B1.out hu2 hb)
  clear hgok hc2 hu2
  go_wp2_with fail
  go_ret
  exact ⟨v,l,rfl,hlen,FL.out,ho.zero,Fresh.rebase (Fresh.obl_ ho) hs,B2.out⟩
theorem GOK.ids {l:List Factor} (h:GOK l) (h8:l.length≤8):∀ g∈l,g.id < 77:=by
  intro g hg
  obtain ⟨i,hi⟩:=List.getElem?_of_mem hg
  have:=h.2.2 i g hi
  have:=(List.getElem?_eq_some_iff.1 hi).1
  omega
theorem ascL_ids:∀ (l:List Factor) (i:Int) (p:Option Int),(∀ f∈l,vldFactor f=true)→(∀ (k:Nat) (f:Factor),l[k]? = some f→f.id=i+(k:Int))→(∀ q,p=some q→q < i)→ascL l p=true
  | [],_,_,_,_,_=>rfl
  | f :: l,i,p,hv,hi,hp=>by
    have h0:=hi 0 f rfl
    have ih:=ascL_ids l (i+1) (some f.id) (fun g hg=>hv g (by simp [hg])) (fun k g hg=>by
      have:=hi (k+1) g (by simpa using hg)
      push_cast at this
      omega) (fun q hq=>by
      injection hq with hq
      omega)
    cases p with
    | none=>simp only [ascL,hv f (by simp),ih,Bool.and_true]
    | some q =>
      have:=hp q rfl
      have hd:decide (q < f.id)=true:=decide_eq_true (by omega)
      simp only [ascL,hv f (by simp),ih,hd,Bool.and_true]
theorem GOK.fl {l:List Factor} (h:GOK l) (h8:l.length≤8):isFL l=true:=by
  unfold isFL
  have h1:=FOK.names h.2.1
  have h2:=ascL_ids l 1 none (fun f hf=>(h.2.1 f hf).1) (fun k f hf=>by have:=h.2.2 k f hf;omega) (by simp)
  simp only [Bool.and_eq_true,decide_eq_true_eq]
  exact ⟨by omega,h2,by omega⟩
def rob (r:Int) (l:List Factor):List Factor:=l.filter fun f=>robotOf f.id == r
theorem asc_pw:∀ (l:List Factor) (p:Option Int),ascL l p=true→l.Pairwise (fun f g=>f.id < g.id)
  | [],_,_=>List.Pairwise.nil
  | a :: l,p,h=>List.Pairwise.cons (asc_gt l a.id (asc_tail h)) (asc_pw l _ (asc_tail h))
theorem fl_asc {l:List Factor} (h:isFL l=true):ascL l none=true:=by
  unfold isFL at h;simp only [Bool.and_eq_true] at h;exact h.2.1
def fresh_ (l L:List Factor):List Factor:=L.filter fun g=>!hasId l g.id
theorem drop_ge:∀ (L:List Factor) (f:Factor) (p:Option Int),ascL L p=true→∀ g∈L.drop (L.takeWhile (below f)).length,f.id≤g.id
  | [],f,p,_,g,hg=>by simp at hg
  | a :: L,f,p,h,g,hg=>by
    by_cases hb:below f a=true
    · rw [List.takeWhile_cons_of_pos hb] at hg
      exact drop_ge L f _ (asc_tail h) g (by simpa using hg)
    · rw [List.takeWhile_cons_of_neg hb] at hg
      have ha:f.id≤a.id:=by
        unfold below at hb
        simp only [decide_eq_true_eq] at hb
        omega
      simp only [List.length_nil,List.drop_zero] at hg
      rcases List.mem_cons.1 hg with rfl | hg
      · exact ha
      · have:=asc_gt L a.id (asc_tail h) g hg;omega
theorem add_fresh {l L:List Factor} {f:Factor} (hL:ascL L none=true) (hl:hasId l f.id=false) (hlt:∀ g∈fresh_ l L,g.id < f.id):fresh_ l (insF L f)=fresh_ l L++[f]:=by
  have hd:fresh_ l (L.drop (insAt L f))=[]:=by
    unfold fresh_
    rw [List.filter_eq_nil_iff]
    intro g hg hn
    have h1:=drop_ge L f none hL g hg
    have h2:=hlt g (List.mem_filter.2 ⟨List.mem_of_mem_drop hg,hn⟩)
    omega
  have hs:fresh_ l L=fresh_ l (L.take (insAt L f)):=by
    have e:fresh_ l L=fresh_ l (L.take (insAt L f))++fresh_ l (L.drop (insAt L f)):=by
      unfold fresh_;rw [← List.filter_append,List.take_append_drop]
    rw [e,hd,List.append_nil]
  rw [hs]
  unfold insF
  have e2:fresh_ l (L.take (insAt L f)++f :: L.drop (insAt L f))=fresh_ l (L.take (insAt L f))++(f :: fresh_ l (L.drop (insAt L f))):=by
    unfold fresh_
    rw [List.filter_append,List.filter_cons_of_pos (by simp [hl])]
  rw [e2,hd]
theorem merge_added (l:List Factor):∀ (fs L a:List Factor),isFL L=true→a=fresh_ l L→(∀ x:Int,hasId l x=true→hasId L x=true)→(∀ g∈a,∀ f∈fs,g.id < f.id)→fs.Pairwise (fun f g=>f.id < g.id) →
    (fs.foldl mergeStep (L,a)).2=fresh_ l (fs.foldl mergeStep (L,a)).1
  | [],L,a,_,ha,_,_,_=>ha
  | f :: fs,L,a,hL,ha,hs,hlt,hp=>by
    obtain ⟨p1,p2⟩:=List.pairwise_cons.1 hp
    rw [List.foldl_cons]
    cases had:(addF L f).2 with
    | false =>
      have e:mergeStep (L,a) f=(L,a):=by unfold mergeStep;simp only [had];rfl
      rw [e]
      exact merge_added l fs L a hL ha hs (fun g hg h hh=>hlt g hg h (by simp [hh])) p2
    | true =>
      obtain ⟨h1,h2,_⟩:=addF_cases had
      have hnL:hasId L f.id=false:=by
        cases hh:hasId L f.id with
        | false=>rfl
        | true=>rw [addF_has hL hh] at had;cases had
      have hnl:hasId l f.id=false:=by
        cases hh:hasId l f.id with
        | false=>rfl
        | true=>rw [hs _ hh] at hnL;cases hnL
      have e:mergeStep (L,a) f=(insF L f,a++[f]):=by unfold mergeStep;simp only [had,if_true,h1]
      have hf:=add_fresh (fl_asc hL) hnl (fun g hg=>hlt g (by rw [ha];exact hg) f (by simp))
      rw [e]
      refine merge_added l fs (insF L f) (a++[f]) h2 (by rw [hf,ha]) (fun x hx=>?_) (fun g hg h hh=>?_) p2
      · obtain ⟨g,hg,he⟩:=hasId_iff.1 (hs x hx)
        exact hasId_iff.2 ⟨g,mem_insF.2 (.inr hg),he⟩
      · rcases List.mem_append.1 hg with hg | hg
        · exact hlt g hg h (by simp [hh])
        · rw [List.mem_singleton.1 hg];exact p1 h hh
theorem fresh_self (l:List Factor):fresh_ l l=[]:=by
  unfold fresh_
  rw [List.filter_eq_nil_iff]
  intro g hg
  have:hasId l g.id=true:=hasId_iff.2 ⟨g,hg,rfl⟩
  simp [this]
theorem bunL_asc:∀ (l:List Factor) (r:Int) (p:Option Int),bunL r l p=true→ascL l p=true
  | [],_,_,_=>rfl
  | a :: l,r,p,h=>by
    simp only [bunL,Bool.and_eq_true] at h
    simp only [ascL,Bool.and_eq_true]
    exact ⟨h.1,h.2.2.1,bunL_asc l r _ h.2.2.2⟩
theorem mergeB_added {l fs:List Factor} {r:Int}:(mergeB l r fs).2=fresh_ l (mergeB l r fs).1:=by
  unfold mergeB
  split
  · rename_i h
    rw [Bool.and_eq_true] at h
    have hb:=h.2
    unfold isBundle at hb
    simp only [Bool.and_eq_true] at hb
    exact merge_added l fs l [] h.1 (fresh_self l).symm (fun _ hx=>hx) (by simp) (asc_pw fs none (bunL_asc fs r none hb.2.2))
  · exact (fresh_self l).symm
theorem MakeFactor_c {W w:World} {A:Option Addr} {n c:Nat} (hB:Below W.heap.size W w) (hy:Bytes W A n) (hn:n≤4194304) (id:Int) (hid:inR id 0 99999=true) :
    Calls Tryz.prog 14 #[.slice A n c,.int .i64 id] w fun e w'=>∃ k fr tt t x y wt,e=.returned (vFactor id k fr tt t x y wt)∧vldFactor ⟨id,k,fr,tt,⟨t,x,y⟩,wt⟩=true∧Below w.heap.size w w':=by
  have HB:=Lib.hid hB
  have hy':=Lib.hid hy
  have HB1:=Lib.hid (bAlloc hB (.cells #[.int .i64 0,.int .i64 0,.string ⟨#[]⟩,.string ⟨#[]⟩,.int .i64 0,.int .i64 0,.int .i64 0,.int .i64 0] 34))
  clear hB hy
  go_enter Tryz.func14,Tryz.ntmps14
  go_wp2_with fail
  refine Calls.mono (l32New_c (c:=c) HB1.out hy'.out hn 6 (by omega)) ?_
  rintro e w1 ⟨b,rfl,hb,hc1,hb1⟩
  have hb':w.heap.size+1≤b:=by simpa using hb
  have B1:Below w.heap.size w w1:=bTrans (bAlloc (Below.refl _ _) _) hb1
  have r0:w1.cell? ⟨w.heap.size,0,none⟩=some (.int .i64 0):=bCell hb1 (cells_b rfl)
  have r1:w1.cell? ⟨w.heap.size,1,none⟩=some (.int .i64 0):=bCell hb1 (cells_b rfl)
  have r2:w1.cell? ⟨w.heap.size,2,none⟩=some (.string ⟨#[]⟩):=bCell hb1 (cells_b rfl)
  have r3:w1.cell? ⟨w.heap.size,3,none⟩=some (.string ⟨#[]⟩):=bCell hb1 (cells_b rfl)
  have r4:w1.cell? ⟨w.heap.size,4,none⟩=some (.int .i64 0):=bCell hb1 (cells_b rfl)
  have r5:w1.cell? ⟨w.heap.size,5,none⟩=some (.int .i64 0):=bCell hb1 (cells_b rfl)
  have r6:w1.cell? ⟨w.heap.size,6,none⟩=some (.int .i64 0):=bCell hb1 (cells_b rfl)
  have r7:w1.cell? ⟨w.heap.size,7,none⟩=some (.int .i64 0):=bCell hb1 (cells_b rfl)
  have rf:∀ o,w1.frozen? ⟨w.heap.size,o,none⟩=false:=fun o=>(bBoxF hb1 w.heap.size (by simp) o).trans (frozen_a _ _ _ _)
  have HC1:=Lib.hid hc1
  clear hc1 hb1
  go_wp2_with fail
  refine Calls.mono (l16Draw_c hy'.out hn HC1.out id hid) ?_
  rintro e w2 ⟨k,fr,tt,t,x,y,wt,rfl,hv,hc2,hu2⟩
  have z1:w.heap.size < w1.heap.size:=cell_lt r0
  have s0:=(uBox hu2 w.heap.size z1 (by simp;omega) 0).trans r0
  have s1:=(uBox hu2 w.heap.size z1 (by simp;omega) 1).trans r1
  have s2:=(uBox hu2 w.heap.size z1 (by simp;omega) 2).trans r2
  have s3:=(uBox hu2 w.heap.size z1 (by simp;omega) 3).trans r3
  have s4:=(uBox hu2 w.heap.size z1 (by simp;omega) 4).trans r4
  have s5:=(uBox hu2 w.heap.size z1 (by simp;omega) 5).trans r5
  have s6:=(uBox hu2 w.heap.size z1 (by simp;omega) 6).trans r6
  have s7:=(uBox hu2 w.heap.size z1 (by simp;omega) 7).trans r7
  have sf:∀ o,w2.frozen? ⟨w.heap.size,o,none⟩=false:=fun o=>(uBoxF hu2 w.heap.size z1 (by simp;omega) o).trans (rf o)
  have sz:w.heap.size < w2.heap.size:=cell_lt s0
  have HV:=Lib.hid hv
  have B2:=bUpd1 (W:=w) B1 hu2 (by omega)
  clear hv hc2 hu2 HC1 r0 r1 r2 r3 r4 r5 r6 r7 rf B1
  go_wp2_with fail
  refine bodyPost_ret (v:=vFactor id k fr tt t x y wt) (by simp [*,results,Tryz.results14,go_sem]) rfl ⟨k,fr,tt,t,x,y,wt,rfl,HV.out,?_⟩
  exact bSet (bSet (bSet (bSet (bSet (bSet (bSet (bSet B2 (Nat.le_refl _) _) (Nat.le_refl _) _) (Nat.le_refl _) _) (Nat.le_refl _) _) (Nat.le_refl _) _) (Nat.le_refl _) _) (Nat.le_refl _) _) (Nat.le_refl _) _
end Go.Proofs.YtdfemnffpaopfaaGreatDoor
