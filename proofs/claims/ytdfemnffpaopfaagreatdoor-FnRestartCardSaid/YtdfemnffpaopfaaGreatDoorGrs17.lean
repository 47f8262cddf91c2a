/- Texts of this proof, one behind the other: Rem, TeamF. -/
import Derived.Test.YtdfemnffpaopfaaGreatDoorGrs8
import Derived.Test.YtdfemnffpaopfaaGreatDoorGrs12
import Derived.Test.YtdfemnffpaopfaaGreatDoorGrs16
namespace Go.Proofs.YtdfemnffpaopfaaGreatDoor
open Go.RowKit
set_option linter.unusedVariables false
set_option linter.unusedSimpArgs false
set_option maxHeartbeats 4000000
set_option maxRecDepth 100000
theorem asc_gt:∀ (l:List Factor) (p:Int),ascL l (some p)=true→∀ g∈l,p < g.id
  | [],p,_,g,hg=>by simp at hg
  | a :: l,p,h,g,hg=>by
    simp only [ascL,Bool.and_eq_true,decide_eq_true_eq] at h
    rcases List.mem_cons.1 hg with rfl | hg
    · exact h.2.1
    · have:=asc_gt l a.id h.2.2 g hg;omega
theorem asc_tail {a:Factor} {l:List Factor} {p:Option Int} (h:ascL (a :: l) p=true):ascL l (some a.id)=true:=by
  simp only [ascL,Bool.and_eq_true] at h
  exact h.2.2
theorem rem_take:∀ (l:List Factor) (p:Option Int) (k:Nat) (f:Factor),ascL l p=true→l[k]? = some f→l.filter (fun g=>g.id != f.id)=l.take k++l.drop (k+1)
  | [],p,k,f,_,hf=>by simp at hf
  | a :: l,p,0,f,h,hf=>by
    simp only [List.getElem?_cons_zero,Option.some.injEq] at hf
    subst hf
    have hg:=asc_gt l a.id (asc_tail h)
    rw [List.filter_cons_of_neg (by simp)]
    simp only [List.take_zero,List.nil_append,List.drop_succ_cons,List.drop_zero]
    rw [List.filter_eq_self]
    intro g hm
    have:=hg g hm
    simp;omega
  | a :: l,p,k+1,f,h,hf=>by
    simp only [List.getElem?_cons_succ] at hf
    have hg:=asc_gt l a.id (asc_tail h) f (List.mem_of_getElem? hf)
    have ih:=rem_take l _ k f (asc_tail h) hf
    rw [List.filter_cons_of_pos (by simp;omega),ih]
    rfl
theorem fid_at:∀ (l:List Factor) (id j:Int),0≤j→findId l id j = -1∨∃ (k:Nat) (f:Factor),findId l id j=j+(k:Int)∧l[k]? = some f∧f.id=id
  | [],id,j,_=>.inl rfl
  | a :: l,id,j,hj=>by
    rw [findId]
    by_cases h:a.id=id
    · rw [if_pos (by simpa using h)]
      exact .inr ⟨0,a,by simp,rfl,h⟩
    · rw [if_neg (by simpa using h)]
      rcases fid_at l id (j+1) (by omega) with h1 | ⟨k,f,h1,h2,h3⟩
      · exact .inl h1
      · exact .inr ⟨k+1,f,by rw [h1];push_cast;omega,by simpa using h2,h3⟩
theorem remF_no {l:List Factor} {id:Int} (h:(isFL l && hasId l id)=false):removeF l id=(l,false):=by unfold removeF;rw [h];rfl
theorem remF_yes {l:List Factor} {k:Nat} {f:Factor} (h:isFL l=true) (hk:l[k]? = some f):removeF l f.id=(l.take k++l.drop (k+1),true):=by
  have hh:hasId l f.id=true:=by
    unfold hasId;rw [List.any_eq_true];exact ⟨f,List.mem_of_getElem? hk,by simp⟩
  have ha:ascL l none=true:=by
    unfold isFL at h;simp only [Bool.and_eq_true] at h;exact h.2.1
  unfold removeF
  rw [h,hh,if_pos (by rfl),rem_take l none k f ha hk]
theorem impl_RemoveFactor_k (v:Sv) (l:List Factor) (id:Int) (w:World) (hm:fewF l) (hs:smallFs l) (hsl:SlOk v) (hr:RdF w v l) :
    Calls Tryz.prog 100 #[.slice v.A v.n v.c,.int .i64 id] w fun e w'=>∃ v':Sv,e=.returned (.tuple #[.slice v'.A v'.n v'.c,.bool (removeF l id).2])∧FPost w v' (removeF l id).1 w':=by
  obtain ⟨i0,hii,hq0,hq1,hq2⟩:=info_parts info_Factor
  have hl:=hr.len
  have hm1:v.n≤4194304:=by have:=hl.out;unfold fewF at hm;omega
  obtain ⟨A,n,c⟩:=v
  dsimp only [SlOk] at hsl hm1 hl ⊢
  obtain ⟨b,hb⟩:∃ b,b=isFL l:=⟨_,rfl⟩
  have HB:=Lib.hid hb
  clear hb
  go_enter Tryz.func100,Tryz.ntmps100
  go_wp2_with fail
  refine Calls.mono (findFactor_c A n c l id _ hm1 hr) ?_
  rintro e w1 ⟨rfl,hk1⟩
  go_wp2_with fail
  refine Calls.mono (impl_IsFactorList_c A n c l _ hm1 (Row.below hr hk1) hs) ?_
  rintro e w2 ⟨rfl,hk2⟩
  rw [← HB.out]
  have H2:=bTrans hk1 hk2
  have hneg:=findId_neg l id 0 (by omega)
  rcases fid_at l id 0 (by omega) with h1 | ⟨k,f,h1,h2,h3⟩
  · have E:=Lib.hid (remF_no (l:=l) (id:=id) (by rw [h1] at hneg;simp at hneg;rw [hneg,Bool.and_false]))
    rw [h1]
    clear h1 hneg
    cases b
    all_goals
      go_wp2_with fail
      refine Calls.mono (copyFactors_k ⟨A,n,c⟩ l _ hm (Row.below hr H2)) ?_
      rintro e w3 ⟨v3,rfl,ho3,hf3,hk3⟩
      have hs2:=H2.size
      go_wp2_with fail
      refine bodyPost_ret (v:=.tuple #[.slice v3.A v3.n v3.c,.bool false]) (by simp [*,results,Tryz.results100,go_sem]) rfl ⟨v3,by rw [E.out],?_⟩
      rw [E.out];exact ⟨ho3,hf3.rebase hs2,bTrans H2 hk3⟩
  · subst h3
    simp only [Int.zero_add] at h1
    rw [h1]
    clear h1 hneg
    cases b with
    | false =>
      have E:=Lib.hid (remF_no (l:=l) (id:=f.id) (by rw [← HB.out];rfl))
      go_wp2_with fail
      refine Calls.mono (copyFactors_k ⟨A,n,c⟩ l _ hm (Row.below hr H2)) ?_
      rintro e w3 ⟨v3,rfl,ho3,hf3,hk3⟩
      have hs2:=H2.size
      go_wp2_with fail
      refine bodyPost_ret (v:=.tuple #[.slice v3.A v3.n v3.c,.bool false]) (by simp [*,results,Tryz.results100,go_sem]) rfl ⟨v3,by rw [E.out],?_⟩
      rw [E.out];exact ⟨ho3,hf3.rebase hs2,bTrans H2 hk3⟩
    | true =>
      have E:=Lib.hid (remF_yes HB.out.symm h2)
      have hkn:k < n:=by have:=(List.getElem?_eq_some_iff.1 h2).1;have:=hl.out;omega
      clear h2
      rcases hsl with ⟨rfl,h00,hc0⟩ | ⟨g,off,rfl,hnc1,hnc2⟩
      · omega
      · simp only [maxLen] at hnc2
        have hki0:(0:Int)≤(k:Int):=by omega
        have hki1:(k:Int)≤(c:Int):=by omega
        have hki2:(k:Int)+1≤(n:Int):=by omega
        have hki3:(n:Int)≤(c:Int):=by omega
        have hw1:IntKind.i64.wrap ((k:Int)+1)=(k:Int)+1:=by rw [IntKind.wrap_i64];omega
        have hki4:(0:Int)≤(k:Int)+1:=by omega
        by_cases hkc:k+1=c
        · obtain rfl:n=k+1:=by omega
          subst hkc
          have hkk:(k:Int)+1≤(k:Int)+1:=by omega
          have hkk2:¬ (k:Int)+1 < (k:Int)+1:=by omega
          have hkk3:(k:Int)≤(k:Int)+1:=by omega
          clear hki1 hki2 hki3
          have hdn:l.drop (k+1)=[]:=List.drop_of_length_le (by have:=hl.out;omega)
          have hrd:∀ w',Below w.heap.size w w'→Row w' (some ⟨g,off,none⟩) 0 8 ((l.drop (k+1)).map Factor.cells):=fun w' _=>by rw [hdn];exact Row.nil_ _ _ _
          have HRD:=Lib.hid hrd
          clear hrd
          have hfk:fewF (l.take k):=by unfold fewF at *;rw [List.length_take];omega
          have hrk:∀ w',Below w.heap.size w w'→RdF w' ⟨some ⟨g,off,none⟩,k,(k+1)⟩ (l.take k):=fun w' h=>Row.take_ (Row.below hr h) (Nat.le_of_lt hkn)
          go_wp2_with fail
          refine region_at fun W hW=>?_
          have hWb:Below w.heap.size w W:=by rw [hW.out];exact H2
          clear hW
          go_region_held3 (fun w'=>True) (first | trivial | go_keep) (first | (go_at_call 84;refine Calls.mono (copyFactors_k ⟨some ⟨g,off,none⟩,k,(k+1)⟩ (l.take k) _ hfk (hrk _ (by repeat (first | with_reducible exact hWb | with_reducible refine bAlloc ?_ _ | with_reducible refine bDrew ?_ | with_reducible refine bDrewN ?_ _)))) ?_;rintro e w3 ⟨v3,rfl,ho3,hf3,hk3⟩) | (refine step_append rfl (.tmp 22) (.tmp 26) 23 rfl w.heap.size 34 8 80 i0 _ Tryz.underlying23 hii hq0 hq1 hq2 rfl (by omega) v3.A v3.n v3.c _ rfl (Own.from_ (OwF.own ho3) (fun g hg=>by have h9:=hf3.lo g hg;have h8:=hWb.size;(try simp at h9);omega)) _ 0 _ ((l.drop (k+1)).map Factor.cells) rfl (HRD.out _ (bTrans (by repeat (first | with_reducible exact hWb | with_reducible refine bAlloc ?_ _ | with_reducible refine bDrew ?_ | with_reducible refine bDrewN ?_ _)) hk3)) one_F cell_F (by have h9:=(OwF.own ho3).len;simp at h9;simp only [maxLen];omega) (by have h9:=(OwF.own ho3).len;simp at h9;omega) (by have h9:=hk3.size;have h8:=hWb.size;(try simp at h9);(try simp);omega) ?_;intro A4 c4 w4 ho4 hg4 hat4))
          have H3:=bTrans (show Below w.heap.size w _ from (by repeat (first | with_reducible exact hWb | with_reducible refine bAlloc ?_ _ | with_reducible refine bDrew ?_ | with_reducible refine bDrewN ?_ _))) hk3
          have H4:=bGrown (show Below w.heap.size w _ from by repeat (first | with_reducible exact H3 | with_reducible refine bAlloc ?_ _ | with_reducible refine bDrew ?_ | with_reducible refine bDrewN ?_ _)) hg4 (fun q hq=>by have h9:=hf3.lo q (mem_obl.2 hq);have h8:=hWb.size;(try simp at h9);omega)
          rw [← List.map_append] at ho4
          clear HRD hrk
          go_wp2_with fail
          refine bodyPost_ret (v:=.tuple #[.slice A4 (v3.n+0) c4,.bool true]) (by simp [*,results,Tryz.results100,go_sem]) rfl ⟨⟨A4,v3.n+0,c4⟩,by rw [E.out],?_⟩
          rw [E.out];exact ⟨ho4.zero,Fresh.obl_ ho4,H4⟩
        · have hkc1:(k:Int)+1 < (c:Int):=by omega
          have hrd:∀ w',Below w.heap.size w w'→Row w' (some ⟨g,off+(k+1) * 8,none⟩) (n - (k+1)) 8 ((l.drop (k+1)).map Factor.cells):=fun w' h=>Row.below (Row.drop_ (c:=Factor.cells) hr (k:=k+1) (by show k+1≤n;omega)) h
          have HRD:=Lib.hid hrd
          clear hrd
          have hfk:fewF (l.take k):=by unfold fewF at *;rw [List.length_take];omega
          have hrk:∀ w',Below w.heap.size w w'→RdF w' ⟨some ⟨g,off,none⟩,k,c⟩ (l.take k):=fun w' h=>Row.take_ (Row.below hr h) (Nat.le_of_lt hkn)
          go_wp2_with fail
          refine region_at fun W hW=>?_
          have hWb:Below w.heap.size w W:=by rw [hW.out];exact H2
          clear hW
          go_region_held3 (fun w'=>True) (first | trivial | go_keep) (first | (go_at_call 84;refine Calls.mono (copyFactors_k ⟨some ⟨g,off,none⟩,k,c⟩ (l.take k) _ hfk (hrk _ (by repeat (first | with_reducible exact hWb | with_reducible refine bAlloc ?_ _ | with_reducible refine bDrew ?_ | with_reducible refine bDrewN ?_ _)))) ?_;rintro e w3 ⟨v3,rfl,ho3,hf3,hk3⟩) | (refine step_append rfl (.tmp 22) (.tmp 26) 23 rfl w.heap.size 34 8 80 i0 _ Tryz.underlying23 hii hq0 hq1 hq2 rfl (by omega) v3.A v3.n v3.c _ rfl (Own.from_ (OwF.own ho3) (fun g hg=>by have h9:=hf3.lo g hg;have h8:=hWb.size;(try simp at h9);omega)) _ (n - (k+1)) _ ((l.drop (k+1)).map Factor.cells) rfl (HRD.out _ (bTrans (by repeat (first | with_reducible exact hWb | with_reducible refine bAlloc ?_ _ | with_reducible refine bDrew ?_ | with_reducible refine bDrewN ?_ _)) hk3)) one_F cell_F (by have h9:=(OwF.own ho3).len;simp at h9;simp only [maxLen];omega) (by have h9:=(OwF.own ho3).len;simp at h9;omega) (by have h9:=hk3.size;have h8:=hWb.size;(try simp at h9);(try simp);omega) ?_;intro A4 c4 w4 ho4 hg4 hat4))
          have H3:=bTrans (show Below w.heap.size w _ from (by repeat (first | with_reducible exact hWb | with_reducible refine bAlloc ?_ _ | with_reducible refine bDrew ?_ | with_reducible refine bDrewN ?_ _))) hk3
          have H4:=bGrown (show Below w.heap.size w _ from by repeat (first | with_reducible exact H3 | with_reducible refine bAlloc ?_ _ | with_reducible refine bDrew ?_ | with_reducible refine bDrewN ?_ _)) hg4 (fun q hq=>by have h9:=hf3.lo q (mem_obl.2 hq);have h8:=hWb.size;(try simp at h9);omega)
          rw [← List.map_append] at ho4
          clear HRD hrk
          go_wp2_with fail
          refine bodyPost_ret (v:=.tuple #[.slice A4 (v3.n+(n - (k+1))) c4,.bool true]) (by simp [*,results,Tryz.results100,go_sem]) rfl ⟨⟨A4,v3.n+(n - (k+1)),c4⟩,by rw [E.out],?_⟩
          rw [E.out];exact ⟨ho4.zero,Fresh.obl_ ho4,H4⟩
def teamG (n:Nat):List Robot→List (List Chan)→Bool
  | r :: rs,row :: rows=>isFL r.factors && (decide (row.length=n) && (row.all isChan && teamG n rs rows))
  | _,_=>true
theorem teamG_eq (n:Nat):∀ (rs:List Robot) (rows:List (List Chan)),rows.length=rs.length→teamG n rs rows=((rs.all fun r=>isFL r.factors) && (rows.all fun row=>decide (row.length=n) && row.all isChan))
  | [],[],_=>rfl
  | r :: rs,row :: rows,h=>by
    rw [teamG,teamG_eq n rs rows (by simpa using h)]
    simp only [List.all_cons]
    cases isFL r.factors <;> cases decide (row.length=n) <;> cases row.all isChan <;> simp
theorem isTeam_at {t:Team} {nr nc:Nat} (hr:Hid (t.robots.length=nr)) (hc:Hid (t.channels.length=nc)):Hid (isTeam t=(inR nr 1 3 && (decide (nc=nr) && teamG nr t.robots t.channels))):=by
  have h1:t.robots.length=nr:=hr
  have h2:t.channels.length=nc:=hc
  rw [Hid,isTeam,h1,h2]
  by_cases h:nc=nr
  · rw [teamG_eq nr _ _ (by omega)]
  · simp [h]
def TInv (n:Nat) (rs:List Robot) (rows:List (List Chan)) (k:Nat):Prop:=teamG n rs rows=teamG n (rs.drop k) (rows.drop k)
theorem TInv.step {n k:Nat} {rs:List Robot} {rows:List (List Chan)} {r:Robot} {row:List Chan} (h:TInv n rs rows k) (hr:Hid (rs[k]? = some r)) (hw:Hid (rows[k]? = some row)) :
    teamG n rs rows=(isFL r.factors && (decide (row.length=n) && (row.all isChan && teamG n (rs.drop (k+1)) (rows.drop (k+1))))):=by
  unfold TInv at h;rw [h,drop_at hr,drop_at hw,teamG]
theorem TInv.done {n k m:Nat} {rs:List Robot} {rows:List (List Chan)} (h:TInv n rs rows k) (hl:Hid (rs.length=m)) (hk:¬ k < m):Hid (teamG n rs rows=true):=by
  unfold TInv at h;rw [Hid,h,drop_end hl hk];rfl
def AInv {α:Type} (p:α→Bool) (l:List α) (k:Nat):Prop:=l.all p=(l.drop k).all p
theorem AInv.step {α:Type} {p:α→Bool} {l:List α} {k:Nat} {x:α} (h:AInv p l k) (hx:Hid (l[k]? = some x)):l.all p=(p x && (l.drop (k+1)).all p):=by
  unfold AInv at h;rw [h,drop_at hx,List.all_cons]
theorem AInv.done {α:Type} {p:α→Bool} {l:List α} {k n:Nat} (h:AInv p l k) (hl:Hid (l.length=n)) (hk:¬ k < n):Hid (l.all p=true):=by
  unfold AInv at h;rw [Hid,h,drop_end hl hk];rfl
theorem small_ro {t:Team} (hm:bulkT t≤4194304):∀ r∈t.robots,r.factors.length≤4194304∧smallFs r.factors∧bulkF r.factors≤4194304:=fun r hr=>by
  have h1:=mem_bulk (c:=Robot.bulk) hr
  unfold bulkT at hm
  have h3:r.bulk=bulkF r.factors+r.journal.size:=rfl
  have h2:bulkF r.factors≤4194304:=by omega
  exact ⟨by unfold bulkF at h2;omega,bulkF_small h2,h2⟩
theorem small_ch {t:Team} (hm:bulkT t≤4194304):∀ l∈t.channels,∀ c∈l,fewC c:=fun l hl c hc=>by
  have h1:=mem_bulk (c:=bulkCs) hl
  have h2:=mem_bulk (c:=bulkC) hc
  unfold bulkT at hm
  have h3:bulkCs l=l.length+sumBulk bulkC l:=rfl
  exact fewC_of (by omega)
theorem impl_IsTeam_k (v:TV) (t:Team) (w:World) (hm:bulkT t≤4194304) (hok:okT t) (hr:RdT w v t) :
    Calls Tryz.prog 18 #[vTeam v] w fun e w'=>e=rBool (isTeam t)∧Below w.heap.size w w':=by
  obtain ⟨⟨Ar,nr,cr⟩,⟨Ac,nc,cc⟩,fr,fc⟩:=v
  obtain ⟨r0,r1⟩:=hr
  dsimp only at r0 r1
  have lr:=r0.len
  have lc:=r1.len
  have E:=isTeam_at lr lc
  have SR:=Lib.hid (small_ro hm)
  have SC:=Lib.hid (small_ch hm)
  have OK:=Lib.hid hok
  have NR:=Lib.hid (show nr≤4194304 by have:=lr.out;unfold bulkT at hm;omega)
  clear hm hok
  by_cases hin:1≤nr∧nr≤3
  rotate_left
  · have hi0:Hid (inR (nr:Int) 1 3=false):=by
      rw [Hid,Bool.eq_false_iff];intro h;have:=inR_iff.1 h;omega
    have hfin:Hid (isTeam t=false):=by rw [Hid,E.out,hi0.out,Bool.false_and]
    have NR':=NR.out
    have hd:nr < 1∨3 < nr:=by omega
    clear hin hi0
    rcases hd with hd | hd
    · obtain rfl:nr=0:=by omega
      go_enter Tryz.func18,Tryz.ntmps18
      go_wp2_with fail
      go_ret
      exact ⟨by rw [hfin.out];rfl,bAlloc (Below.refl _ _) _⟩
    · have hd1:¬ (nr:Int) < 1:=by omega
      have hd2:(3:Int) < (nr:Int):=by omega
      go_enter Tryz.func18,Tryz.ntmps18
      go_wp2_with fail
      go_ret
      exact ⟨by rw [hfin.out];rfl,bAlloc (Below.refl _ _) _⟩
  have hi0:Hid (inR (nr:Int) 1 3=true):=inR_iff.2 (by omega)
  obtain ⟨hin1,hin2⟩:=hin
  have NR':=NR.out
  have ni1:¬ (nr:Int) < 1:=by omega
  have ni2:¬ (3:Int) < (nr:Int):=by omega
  by_cases hcn:nc=nr
  rotate_left
  · have hfin:Hid (isTeam t=false):=by rw [Hid,E.out];simp [hcn]
    have hcI:¬ (nc:Int)=(nr:Int):=by omega
    go_enter Tryz.func18,Tryz.ntmps18
    go_wp2_with fail
    all_goals first
      | (exfalso;omega)
      | (go_ret;exact ⟨by rw [hfin.out];rfl,bAlloc (Below.refl _ _) _⟩)
  subst hcn
  have E2:Hid (isTeam t=teamG nc t.robots t.channels):=by rw [Hid,E.out,hi0.out];simp
  clear E
  go_enter Tryz.func18,Tryz.ntmps18
  go_wp2_with fail
  go_loopw [27,4] (fun i j wr=>∃ (k:Nat),k≤nc∧i=.int .i64 k∧TInv nc t.robots t.channels k∧Below w.heap.size w wr∧wr.cell? ⟨w.heap.size,0,none⟩=some (.slice Ar nc cr)∧wr.cell? ⟨w.heap.size,1,none⟩=some (.slice Ac nc cc)) (fun i _ _=>nc - (intOf i).toNat)
  case atStart=>exact ⟨0,by omega,rfl,rfl,bAlloc (Below.refl _ _) _,by simp,by simp⟩
  case round =>
    obtain ⟨k,hk,rfl,hi,hb,t0,t1⟩:=hrel
    obtain ⟨wo,rfl⟩:∃ wo:World,wo=wr:=⟨_,rfl⟩
    have hz:=cell_lt t0
    dsimp only at hz
    by_cases hlt:k < nc
    · obtain ⟨x,cs,g,off,hx,rfl,hR,hc⟩:=RdSl.at_ (RdSl.below (R:=RdRo) RdRo.below r0 hb) hlt
      obtain ⟨vx,rfl,hRd,hLn⟩:=hR
      have g0:wo.cell? ⟨g,off+k * 2,none⟩=some (.slice vx.A vx.n vx.c):=hc 0 _ rfl
      have g1:wo.cell? ⟨g,off+k * 2+1,none⟩=some (.string x.journal):=hc 1 _ rfl
      obtain ⟨row,cs2,gc,offc,hrow,rfl,hR2,hc2⟩:=RdSl.at_ (RdSl.below (R:=RdCs) RdCs.below r1 hb) hlt
      obtain ⟨vr,rfl,hRdr,hLnr⟩:=hR2
      have k0:wo.cell? ⟨gc,offc+k,none⟩=some (.slice vr.A vr.n vr.c):=by simpa using hc2 0 _ rfl
      clear hc hc2
      have hst:=hi.step hx hrow
      have lrow:=hRdr.len
      rw [lrow.out] at hst
      obtain ⟨hs1,hs2,_⟩:=SR.out x (List.mem_of_getElem? hx.out)
      have hs3:vx.n≤4194304:=by have:=hRd.len.out;omega
      have hs4:vr.n≤9223372036854775807:=hLnr
      have HS4:=Lib.hid hs4
      have HC:=Lib.hid (SC.out row (List.mem_of_getElem? hrow.out))
      have HO:=Lib.hid (OK.out.2 row (List.mem_of_getElem? hrow.out))
      have z0:(0:Int)≤(k:Int):=by omega
      have z1:(k:Int) < (nc:Int):=by omega
      generalize hv:isFL x.factors=bf at hst
      generalize ha:row.all isChan=ba at hst
      have HV:=Lib.hid hv
      have HA:=Lib.hid ha
      have HS:=Lib.hid hst
      have HS2:=Lib.hid hs2
      clear hv ha hst hi hs1 hs2 hLnr hs4
      cases bf
      · have hfin:Hid (isTeam t=false):=by rw [Hid,E2.out,HS.out,Bool.false_and]
        go_wp2_with fail
        refine Calls.mono (impl_IsFactorList_c vx.A vx.n vx.c x.factors _ hs3 ?_ HS2.out) ?_
        · exact RdF.below hRd (bAlloc (Below.refl _ _) _)
        rintro e w1 ⟨he,hb1⟩
        rw [HV.out] at he
        subst he
        have hbq:=bTrans (bAlloc (Below.refl wo.heap.size wo) _) hb1
        have t0q:=bCell hbq t0
        have t1q:=bCell hbq t1
        have k0q:=bCell hbq k0
        go_wp2_with fail
        go_ret
        exact ⟨by rw [hfin.out];rfl,bTrans hb hbq⟩
      by_cases hrn:vr.n=nc
      rotate_left
      · have hfin:Hid (isTeam t=false):=by rw [Hid,E2.out,HS.out];simp [hrn]
        go_wp2_with fail
        refine Calls.mono (impl_IsFactorList_c vx.A vx.n vx.c x.factors _ hs3 ?_ HS2.out) ?_
        · exact RdF.below hRd (bAlloc (Below.refl _ _) _)
        rintro e w1 ⟨he,hb1⟩
        rw [HV.out] at he
        subst he
        have hbq:=bTrans (bAlloc (Below.refl wo.heap.size wo) _) hb1
        have t0q:=bCell hbq t0
        have t1q:=bCell hbq t1
        have k0q:=bCell hbq k0
        go_wp2_with fail
        all_goals first
          | (exfalso;omega)
          | (go_ret;exact ⟨by rw [hfin.out];rfl,bTrans hb hbq⟩)
      have hrnI:(vr.n:Int)=(nc:Int):=by omega
      go_wp2_with fail
      refine Calls.mono (impl_IsFactorList_c vx.A vx.n vx.c x.factors _ hs3 ?_ HS2.out) ?_
      · exact RdF.below hRd (bAlloc (Below.refl _ _) _)
      rintro e w1 ⟨he,hb1⟩
      rw [HV.out] at he
      subst he
      have hbq:=bTrans (bAlloc (Below.refl wo.heap.size wo) _) hb1
      have t0q:=bCell hbq t0
      have t1q:=bCell hbq t1
      have k0q:=bCell hbq k0
      obtain ⟨wq,hwq⟩:∃ wq:World,w1=wq:=⟨_,rfl⟩
      rw [hwq] at hbq t0q t1q k0q ⊢
      have HW:=Lib.hid hwq
      clear hwq
      go_wp2_with fail
      go_loopw [52] (fun i ww=>∃ (j:Nat),j≤vr.n∧i=.int .i64 j∧AInv isChan row j∧Below wq.heap.size wq ww) (fun i _=>vr.n - (intOf i).toNat)
      case atStart=>exact ⟨0,by omega,rfl,rfl,Below.refl _ _⟩
      case round =>
        obtain ⟨j,hj,rfl,hai,hb2⟩:=hrel
        have HB2:=bTrans hbq hb2
        by_cases hjl:j < vr.n
        · obtain ⟨ch,cs3,g3,off3,hch,hA3,hR3,hc3⟩:=RdSl.at_ (RdSl.below (R:=RdCe) RdCe.below hRdr HB2) hjl
          obtain ⟨vc,rfl,hRdc,hLnc⟩:=hR3
          have q0:wr.cell? ⟨g3,off3+j * 6,none⟩=some (.slice vc.q.A vc.q.n vc.q.c):=hc3 0 _ rfl
          have q1:wr.cell? ⟨g3,off3+j * 6+1,none⟩=some (.int .i64 ch.base):=hc3 1 _ rfl
          have q2:wr.cell? ⟨g3,off3+j * 6+2,none⟩=some (.int .i64 ch.expected):=hc3 2 _ rfl
          have q3:wr.cell? ⟨g3,off3+j * 6+3,none⟩=some (.slice vc.i.A vc.i.n vc.i.c):=hc3 3 _ rfl
          have q4:wr.cell? ⟨g3,off3+j * 6+4,none⟩=some (.slice vc.n.A vc.n.n vc.n.c):=hc3 4 _ rfl
          have q5:wr.cell? ⟨g3,off3+j * 6+5,none⟩=some (.slice vc.a.A vc.a.n vc.a.c):=hc3 5 _ rfl
          clear hc3
          rw [hA3]
          have hst:=hai.step hch
          have hwb:=(HO.out ch (List.mem_of_getElem? hch.out)).2.2.2.2.1
          have hfwc:=HC.out ch (List.mem_of_getElem? hch.out)
          generalize hbc:isChan ch=bc at hst
          have HBC:=Lib.hid hbc
          have HST:=Lib.hid hst
          have HWB:=Lib.hid hwb
          have HFW:=Lib.hid hfwc
          clear hst hai hbc hwb hfwc
          have y0:(0:Int)≤(j:Int):=by omega
          have y1:(j:Int) < (vr.n:Int):=by omega
          go_wp2_with fail
          have hwb:=HWB.out
          have hfwc:=HFW.out
          refine Calls.mono (impl_IsChannel_c vc ch _ hwb ?_) ?_
          · exact hRdc.below (bAlloc (Below.refl _ _) _)
          rintro e w5 ⟨he,hb5⟩
          rw [HBC.out] at he
          subst he
          clear hwb hfwc
          have HB5:=bTrans (bAlloc hb2 _) hb5
          cases bc
          · have hfin:Hid (isTeam t=false):=by
              have h1:ba=false:=by rw [← HA.out,HST.out,Bool.false_and]
              rw [Hid,E2.out,HS.out,h1];simp
            go_wp2_with fail
            go_ret
            exact ⟨by rw [hfin.out];rfl,bTrans (bTrans hb hbq) HB5⟩
          · have hnx:AInv isChan row (j+1):=by rw [AInv,HST.out,Bool.true_and]
            go_wp2_with fail
            go_roundw
            case rel=>exact ⟨j+1,by omega,by go_num,hnx,HB5⟩
            case measure=>simp [intOf];omega
        · have hba:Hid (ba=true):=by have:=hai.done lrow hjl;rw [Hid,← HA.out];exact this.out
          have hnx:TInv nc t.robots t.channels (k+1):=by rw [TInv,HS.out,hba.out];simp [hrn]
          have t0r:=bCell hb2 t0q
          have t1r:=bCell hb2 t1q
          go_wp2_with fail
          go_roundw
          case rel=>exact ⟨k+1,by omega,by go_num,hnx,bTrans (bTrans hb hbq) hb2,t0r,t1r⟩
          case measure=>simp [intOf];omega
    · have hfin:=hi.done lr hlt
      go_wp2_with fail
      go_ret
      exact ⟨by rw [E2.out,hfin.out];rfl,hb⟩
theorem isTeam_pos {t:Team} (h:isTeam t=true):1≤t.robots.length∧t.robots.length≤3:=by
  unfold isTeam at h
  simp only [Bool.and_eq_true] at h
  have:=inR_iff.1 h.1
  omega
end Go.Proofs.YtdfemnffpaopfaaGreatDoor
