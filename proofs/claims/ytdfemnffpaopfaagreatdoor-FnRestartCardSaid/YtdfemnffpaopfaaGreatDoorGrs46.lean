/- Texts of this proof, one behind the other: TmM, TmCP, TmE, RpP, RstP. -/
import Derived.Test.YtdfemnffpaopfaaGreatDoorGrs14
import Derived.Test.YtdfemnffpaopfaaGreatDoorGrs28
import Derived.Test.YtdfemnffpaopfaaGreatDoorGrs29
import Derived.Test.YtdfemnffpaopfaaGreatDoorGrs33
import Derived.Test.YtdfemnffpaopfaaGreatDoorGrs40
import Derived.Test.YtdfemnffpaopfaaGreatDoorGrs43
import Derived.Test.YtdfemnffpaopfaaGreatDoorGrs45
import Derived.Test.YtdfemnffpaopfaaGreatDoorGrs47
namespace Go.Proofs.YtdfemnffpaopfaaGreatDoor
open Go.RowKit
set_option linter.unusedVariables false
set_option linter.unusedSimpArgs false
set_option maxHeartbeats 8000000
set_option maxRecDepth 100000
theorem moveT_no1 {t:Team} {i j m a:Int} (h:isTeam t=false):moveT t i j m a=t:=by simp [moveT,h]
theorem moveT_no2 {t:Team} {i j m a:Int} (h:isRob t i=false):moveT t i j m a=t:=by simp [moveT,h]
theorem moveT_no3 {t:Team} {i j m a:Int} (h:isRob t j=false):moveT t i j m a=t:=by simp [moveT,h]
theorem moveT_no4 {t:Team} {i j m a:Int} (h:i=j):moveT t i j m a=t:=by simp [moveT,h]
theorem moveT_yes {t:Team} {i j:Nat} {m a:Int} {row:List Chan} {c:Chan} (h1:isTeam t=true) (h2:isRob t i=true) (h3:isRob t j=true) (h4:¬ (i:Int)=j) (hi:t.channels[i]? = some row) (hj:row[j]? = some c) :
    moveT t i j m a=recvC (setC t i j (stepC c m a)) i j (stepC c m a):=by
  unfold moveT
  rw [Int.toNat_natCast,Int.toNat_natCast,chOf_eq hi hj]
  have h5:decide ((i:Int)≠j)=true:=by simpa using h4
  rw [h1,h2,h3,h5]
  simp only [Bool.and_true,if_true]
  have h6:chOf (setC t i j (stepC c m a)) i j=stepC c m a:=chOf_eq (setC_row hi) (by rw [List.getElem?_set_self (List.getElem?_eq_some_iff.1 hj).1])
  unfold recv recvC
  rw [h6]
theorem ch_size {t:Team} {l:List Chan} {c:Chan} {N:Nat} (h:bulkT t≤N) (hl:l∈t.channels) (hc:c∈l):bulkC c≤N:=by
  have h1:bulkCs l≤sumBulk bulkCs t.channels:=few_each hl
  have h2:bulkC c≤sumBulk bulkC l:=few_each hc
  have h3:bulkCs l=l.length+sumBulk bulkC l:=rfl
  unfold bulkT at h;omega
theorem robOk_of {t:Team} {r:Robot} (h:bulkT t≤1048576) (hr:r∈t.robots) (hf:isFL r.factors=true):RobOk 1054336 r:=by
  refine ⟨hf,?_⟩
  have:=jrn_size h hr
  omega
theorem numT_le {t:Team} {N:Nat} (hm:bulkT t≤N):numT t≤N:=by
  have:=num_Ro t.robots;have:=num_Cs t.channels
  unfold bulkT at hm;unfold numT;omega
theorem impl_MoveTeam_k (v:TV) (t:Team) (i j m a:Int) (w:World) (hm:bulkT t≤1048576) (hok:okT t) (hr:RdT w v t) (hwi:(Lit.int .i64 i).wf=true) (hwj:(Lit.int .i64 j).wf=true) (hwm:(Lit.int .i64 m).wf=true) (hwa:(Lit.int .i64 a).wf=true) (hT:TabJ w) :
    Calls Tryz.prog 11 #[vTeam v,.int .i64 i,.int .i64 j,.int .i64 m,.int .i64 a] w fun e w'=>∃ v',e=.returned (vTeam v')∧OwT w' v' (moveT t i j m a)∧Fresh w.heap.size w' (fpT v')∧Below w.heap.size w w':=by
  have FT:=Lib.hid (fewT_of (Nat.le_trans hm (show 1048576≤4194304 by decide)))
  have HM:=Lib.hid (Nat.le_trans hm (show 1048576≤4194304 by decide))
  have HMT:=Lib.hid hm
  have HK:=Lib.hid hok
  have HR:=Lib.hid hr
  have HL:Hid (t.robots.length=v.r.n):=hr.r.len
  have HN:Hid (v.r.n≤4194304):=by have h1:=fewT_len FT.out;have:=HL.out;rw [Hid];omega
  have HTb:=Lib.hid hT
  have HWM:=Lib.hid hwm
  have HWA:=Lib.hid hwa
  obtain ⟨⟨Ar,nr,cr⟩,⟨Ac,nc,cc⟩,fr,fc⟩:=v
  generalize hbt:isTeam t=bt
  generalize hbi:isRob t i=bi
  generalize hbj:isRob t j=bj
  have HB:=Lib.hid hbt
  have HI:=Lib.hid hbi
  have HJ:=Lib.hid hbj
  clear hbt hbi hbj hm hok hr hwi hwj hwm hwa hT
  go_enter Tryz.func11,Tryz.ntmps11
  go_wp2_with fail
  refine Calls.mono (impl_copyTeam_k ⟨⟨Ar,nr,cr⟩,⟨Ac,nc,cc⟩,fr,fc⟩ t _ FT.out ?_) ?_
  · exact HR.out.below (bAlloc (bAlloc (Below.refl _ _) _) _)
  rintro e w1 ⟨⟨⟨Ar1,nr1,cr1⟩,⟨Ac1,nc1,cc1⟩,fr1,fc1⟩,rfl,ho1,hf1,hb1⟩
  have B:=bTrans (bAlloc (bAlloc (Below.refl w.heap.size w) _) _) hb1
  have B1:=Lib.hid B
  have X0:Bx2 w1 w.heap.size (.slice Ar nr cr) (.slice Ac nc cc):=Bx2.below ⟨by go_simp,by go_simp,fun o=>by go_simp⟩ hb1
  have X1:Bx2 w1 (w.heap.size+1) (.slice none 0 0) (.slice none 0 0):=Bx2.below ⟨by go_simp,by go_simp,fun o=>by go_simp⟩ hb1
  have O:OT (w.heap.size+2) w1 ⟨⟨Ar1,nr1,cr1⟩,⟨Ac1,nc1,cc1⟩,fr1,fc1⟩ t:=⟨ho1,hf1.rebase (by simp)⟩
  have O1:=Lib.hid O
  have a0:=X0.c0;have a1:=X0.c1;have a2:=X0.lt;have b0:=X1.c0;have b1:=X1.c1;have b2:=X1.fz;have b3:=X1.lt
  have hlt1:=O.lt
  have HSZ:Hid (w.heap.size+2≤w1.heap.size):=by have h9:=X1.lt;rw [Hid];omega
  clear ho1 hf1
  go_wp2_with fail
  refine Calls.mono (impl_IsTeam_k ⟨⟨Ar,nr,cr⟩,⟨Ac,nc,cc⟩,fr,fc⟩ t _ HM.out HK.out ?_) ?_
  · exact HR.out.below (bAlloc B _)
  rintro e w2 ⟨he,hb2⟩
  rw [HB.out] at he
  subst he
  have X2:Bx2 w2 w1.heap.size (.slice Ar1 nr1 cr1) (.slice Ac1 nc1 cc1):=Bx2.below ⟨by go_simp,by go_simp,fun o=>by go_simp⟩ hb2
  have hbb2:Below w1.heap.size w1 w2:=bTrans (bAlloc (Below.refl _ _) _) hb2
  have X0:=X0.below hbb2
  have X1:=X1.below hbb2
  have O:=O.below hbb2
  have B:=bTrans B hbb2
  clear a0 a1 a2 b0 b1 b2 b3
  have a0:=X0.c0;have a1:=X0.c1;have a2:=X0.lt;have b0:=X1.c0;have b1:=X1.c1;have b2:=X1.fz;have b3:=X1.lt;have c0:=X2.c0;have c1:=X2.c1;have c3:=X2.lt
  cases bt
  · have HF:=Lib.hid (moveT_no1 (i:=i) (j:=j) (m:=m) (a:=a) HB.out)
    go_wp2_with fail
    refine bodyPost_ret (v:=vTeam ⟨⟨Ar1,nr1,cr1⟩,⟨Ac1,nc1,cc1⟩,fr1,fc1⟩) (by simp [*,results,Tryz.results11,go_sem]) rfl ?_
    rw [HF.out]
    exact ⟨⟨⟨Ar1,nr1,cr1⟩,⟨Ac1,nc1,cc1⟩,fr1,fc1⟩,rfl,teamEnd_ B O _ _⟩
  go_wp2_with fail
  refine Calls.mono (impl_isRobot_c ⟨⟨Ar,nr,cr⟩,⟨Ac,nc,cc⟩,fr,fc⟩ t i _ HL.out HN.out) ?_
  rintro e w3 ⟨he,hb3⟩
  rw [HI.out] at he
  subst he
  have X0:=X0.below hb3
  have X1:=X1.below hb3
  have X2:=X2.below hb3
  have O:=O.below hb3
  have B:=bTrans B hb3
  clear a0 a1 a2 b0 b1 b2 b3 c0 c1 c3
  have a0:=X0.c0;have a1:=X0.c1;have a2:=X0.lt;have b0:=X1.c0;have b1:=X1.c1;have b2:=X1.fz;have b3:=X1.lt;have c0:=X2.c0;have c1:=X2.c1;have c3:=X2.lt
  cases bi
  · have HF:=Lib.hid (moveT_no2 (j:=j) (m:=m) (a:=a) HI.out)
    go_wp2_with fail
    refine bodyPost_ret (v:=vTeam ⟨⟨Ar1,nr1,cr1⟩,⟨Ac1,nc1,cc1⟩,fr1,fc1⟩) (by simp [*,results,Tryz.results11,go_sem]) rfl ?_
    rw [HF.out]
    exact ⟨⟨⟨Ar1,nr1,cr1⟩,⟨Ac1,nc1,cc1⟩,fr1,fc1⟩,rfl,teamEnd_ B O _ _⟩
  go_wp2_with fail
  refine Calls.mono (impl_isRobot_c ⟨⟨Ar,nr,cr⟩,⟨Ac,nc,cc⟩,fr,fc⟩ t j _ HL.out HN.out) ?_
  rintro e w4 ⟨he,hb4⟩
  rw [HJ.out] at he
  subst he
  have X0:=X0.below hb4
  have X1:=X1.below hb4
  have X2:=X2.below hb4
  have O:=O.below hb4
  have B:=bTrans B hb4
  clear a0 a1 a2 b0 b1 b2 b3 c0 c1 c3
  have a0:=X0.c0;have a1:=X0.c1;have a2:=X0.lt;have b0:=X1.c0;have b1:=X1.c1;have b2:=X1.fz;have b3:=X1.lt;have c0:=X2.c0;have c1:=X2.c1;have c3:=X2.lt
  cases bj
  · have HF:=Lib.hid (moveT_no3 (i:=i) (m:=m) (a:=a) HJ.out)
    go_wp2_with fail
    refine bodyPost_ret (v:=vTeam ⟨⟨Ar1,nr1,cr1⟩,⟨Ac1,nc1,cc1⟩,fr1,fc1⟩) (by simp [*,results,Tryz.results11,go_sem]) rfl ?_
    rw [HF.out]
    exact ⟨⟨⟨Ar1,nr1,cr1⟩,⟨Ac1,nc1,cc1⟩,fr1,fc1⟩,rfl,teamEnd_ B O _ _⟩
  by_cases hij:i=j
  · have hij2:(i == j)=true:=by simpa using hij
    have HF:=Lib.hid (moveT_no4 (t:=t) (m:=m) (a:=a) hij)
    go_wp2_with fail
    refine bodyPost_ret (v:=vTeam ⟨⟨Ar1,nr1,cr1⟩,⟨Ac1,nc1,cc1⟩,fr1,fc1⟩) (by simp [*,results,Tryz.results11,go_sem]) rfl ?_
    rw [HF.out]
    exact ⟨⟨⟨Ar1,nr1,cr1⟩,⟨Ac1,nc1,cc1⟩,fr1,fc1⟩,rfl,teamEnd_ B O _ _⟩
  have g2:=isRob_iff.1 HI.out
  have g3:=isRob_iff.1 HJ.out
  obtain ⟨i,rfl⟩:∃ n:Nat,i=n:=⟨i.toNat,by omega⟩
  obtain ⟨j,rfl⟩:∃ n:Nat,j=n:=⟨j.toNat,by omega⟩
  obtain ⟨p1,p2,p3,p4,p5⟩:=isTeam_parts HB.out
  obtain ⟨row,hi⟩:∃ row,t.channels[i]? = some row:=⟨_,List.getElem?_eq_getElem (by omega)⟩
  have hrm:=List.mem_of_getElem? hi
  have hrl:=(p5 row hrm).1
  obtain ⟨c,hj⟩:∃ c,row[j]? = some c:=⟨_,List.getElem?_eq_getElem (by omega)⟩
  have hcm:=List.mem_of_getElem? hj
  have hbc:=ch_size HMT.out hrm hcm
  have hoc:okC c:=HK.out.2 row hrm c hcm
  have hic:=(p5 row hrm).2 c hcm
  obtain ⟨x,hx⟩:∃ x,t.robots[j]? = some x:=⟨_,List.getElem?_eq_getElem (by omega)⟩
  have hxm:=List.mem_of_getElem? hx
  have hro:=robOk_of HMT.out hxm (p4 x hxm)
  have hbc4:=Nat.le_trans hbc (show 1048576≤4194304 by decide)
  have HF:=Lib.hid (moveT_yes (m:=m) (a:=a) HB.out HI.out HJ.out hij hi hj)
  have hfs:=fewC_step hbc4 hoc m a
  have hts:=((Txt.of hbc4).step m a).i
  obtain ⟨gt,g,vs,vc,hA,p0,hvs,⟨q0,q1,q2,q3,q4,q5⟩,cf,hRd,hln,hg,hgt,hgB,hgtB,hne,hput⟩:=O1.out.ch HSZ.out hi hj
  have HP:=Lib.hid hput
  have hnc1:t.channels.length=nc1:=O.own.c.len.out
  dsimp only at hA
  subst hA
  have hb14:Below w1.heap.size w1 w4:=bTrans (bTrans hbb2 hb3) hb4
  have s4:=hb14.size
  have p0:=bCell hb14 p0
  have q0:=bCell hb14 q0;have q1:=bCell hb14 q1;have q2:=bCell hb14 q2;have q3:=bCell hb14 q3;have q4:=bCell hb14 q4;have q5:=bCell hb14 q5
  have cf:=fun o=>(bBoxF hb14 g hg o).trans (cf o)
  have hRd4:=hRd.below hb14
  have hg4:g < w4.heap.size:=by omega
  have hgt4:gt < w4.heap.size:=by omega
  have hgn1:g≠w1.heap.size:=by omega
  have hgn2:gt≠w1.heap.size:=by omega
  have z0:(0:Int)≤(i:Int):=by omega
  have z1:(i:Int) < (nc1:Int):=by omega
  have z2:(0:Int)≤(j:Int):=by omega
  have z3:(j:Int) < (vs.n:Int):=by omega
  have hijb:((i:Int) == (j:Int))=false:=by simpa using hij
  clear hput p1 p2 p3 p4 p5 g2 g3 hRd
  go_wp2_with fail
  go_region_law (first | (go_simp;go_at_call 40;refine Calls.mono (impl_StepChannel_k vc c m a _ hbc4 hoc ?_ HWM.out HWA.out ((HTb.out.below (bTrans B (by repeat (first | with_reducible exact (Below.refl _ _) | with_reducible refine bAlloc ?_ _ | with_reducible refine bDrew ?_ | with_reducible refine bDrewN ?_ _)))).1.tab)) ?_;exact hRd4.below (by repeat (first | with_reducible exact (Below.refl _ _) | with_reducible refine bAlloc ?_ _ | with_reducible refine bDrew ?_ | with_reducible refine bDrewN ?_ _));rintro e w5 ⟨v5,rfl,ho5,hf5,hb5⟩;have hW:=bTrans (show Below w4.heap.size w4 _ from (by repeat (first | with_reducible exact (Below.refl _ _) | with_reducible refine bAlloc ?_ _ | with_reducible refine bDrew ?_ | with_reducible refine bDrewN ?_ _))) hb5;have p0:=bCell hW p0;have q0:=bCell hW q0;have q1:=bCell hW q1;have q2:=bCell hW q2;have q3:=bCell hW q3;have q4:=bCell hW q4;have q5:=bCell hW q5;have cf:=fun o=>(bBoxF hW g hg4 o).trans (cf o);have c0:=bCell hW c0;have c1:=bCell hW c1;have s5:=hW.size;have hg5:g < w5.heap.size:=(by omega);have hgt5:gt < w5.heap.size:=(by omega);have c3:w1.heap.size < w5.heap.size:=(by omega)))
  all_goals
    obtain ⟨⟨v6r,v6c,fr6,fc6⟩,O6,st6,ft6⟩:=HP.out w5 (bTrans hb14 hW) v5 _ ho5 (hf5.rebase (by simp;omega))
    have e1:=st6.r
    have e2:=st6.c
    dsimp only at e1 e2
    subst e1 e2
    have uS:=setChan_upd w5 g j v5 (stepC c m a)
    have B6:=bUpd (bTrans B hW) uS (fun q hq=>by simp at hq;omega)
    have X1:=(X1.below hW).upd uS (by simp;omega)
    have X2:=(X2.below hW).upd uS (by simp;omega)
    obtain ⟨W6,hW6⟩:∃ W6,W6=setChan w5 g j v5 (stepC c m a):=⟨_,rfl⟩
    rw [← hW6] at O6 st6 B6 X1 X2
    unfold setChan at hW6
    rw [← hW6]
    clear hW6
    have hx6:(setC t i j (stepC c m a)).robots[j]? = some x:=hx
    clear a0 a1 a2 b0 b1 b2 b3 c0 c1 c3 p0 q0 q1 q2 q3 q4 q5 cf uS
    have b0:=X1.c0;have b1:=X1.c1;have b2:=X1.fz;have b3:=X1.lt;have c0:=X2.c0;have c1:=X2.c1;have c3:=X2.lt
    go_wp2_with fail
    have hsr:=setC_row (j:=j) (c:=stepC c m a) hi
    have hjr:(row.set j (stepC c m a))[j]? = some (stepC c m a):=List.getElem?_set_self (List.getElem?_eq_some_iff.1 hj).1
    refine Calls.mono (impl_recv_k w (w.heap.size+2) 1054336 ⟨⟨Ar1,nr1,cr1⟩,⟨some ⟨gt,0,none⟩,nc1,cc1⟩,fr6,fc6⟩ (setC t i j (stepC c m a)) i j (row.set j (stepC c m a)) (stepC c m a) x W6 O6 (by omega) B6 (by omega) hsr hjr hx6 hro (by decide) hfs hts HTb.out) ?_
    rintro e w7 ⟨v7,rfl,O7,st7⟩
    rw [← HF.out] at O7
    have hb7:w.heap.size+1 ∉ fpT (⟨⟨Ar1,nr1,cr1⟩,⟨some ⟨gt,0,none⟩,nc1,cc1⟩,fr6,fc6⟩:TV):=fun hm=>by have:=O6.fr.lo _ hm;omega
    have B7:=bUpd B6 st7.upd (fun q hq=>by have:=O6.fr.lo q hq;omega)
    have X1:=X1.upd st7.upd hb7
    clear b0 b1 b2 b3 c0 c1 c3
    have b0:=X1.c0;have b1:=X1.c1;have b2:=X1.fz;have b3:=X1.lt
    go_wp2_with fail
    refine bodyPost_ret (v:=vTeam v7) (by simp [*,results,Tryz.results11,go_sem]) rfl ?_
    exact ⟨v7,rfl,teamEnd_ B7 O7 _ _⟩
theorem chOf_set {u:Team} {i j a b:Nat} {c:Chan} {row:List Chan} (hi:u.channels[i]? = some row) (hab:¬ (a=i∧b=j)):chOf (setC u i j c) a b=chOf u a b:=by
  unfold chOf rowOf setC
  simp only [rowOf_eq hi]
  by_cases h:a=i
  · subst h
    rw [List.getElem?_set_self (List.getElem?_eq_some_iff.1 hi).1,hi]
    simp only [Option.getD_some]
    rw [List.getElem?_set_ne (by intro e;exact hab ⟨rfl,e.symm⟩)]
  · rw [List.getElem?_set_ne (by intro e;exact h e.symm)]
noncomputable def offJ (r:Nat) (s:ByteArray):Nat→Team→Option Team
  | 0,t=>some t
  | j+1,t=>match offJ r s j t with
    | none=>none
    | some u=>if j=r then some u else if (offer (chOf u r j) s).2=true then some (setC u r j (offer (chOf u r j) s).1) else none
theorem offJ_skip {r:Nat} {s:ByteArray} {t u:Team} (h:offJ r s r t=some u):offJ r s (r+1) t=some u:=by
  rw [offJ,h];simp
theorem offJ_yes {r j:Nat} {s:ByteArray} {t u:Team} {row:List Chan} {c:Chan} (h:offJ r s j t=some u) (hne:¬ j=r) (hi:u.channels[r]? = some row) (hj:row[j]? = some c) (ho:(offer c s).2=true):offJ r s (j+1) t=some (setC u r j (offer c s).1):=by
  rw [offJ,h]
  simp only [if_neg hne]
  rw [chOf_eq hi hj,if_pos ho]
theorem offJ_no {r j:Nat} {s:ByteArray} {t u:Team} {row:List Chan} {c:Chan} (h:offJ r s j t=some u) (hne:¬ j=r) (hi:u.channels[r]? = some row) (hj:row[j]? = some c) (ho:(offer c s).2=false):offJ r s (j+1) t=none:=by
  rw [offJ,h]
  simp only [if_neg hne]
  rw [chOf_eq hi hj,ho];simp
theorem offJ_none {r j:Nat} {s:ByteArray} {t:Team} (h:offJ r s j t=none):∀ k,offJ r s (j+k) t=none
  | 0=>h
  | k+1=>by
    rw [show j+(k+1)=(j+k)+1 from rfl,offJ,offJ_none h k]
noncomputable def measT (t:Team) (r:Int) (f:Factor):Team × Bool :=
  if isTeam t && (isRob t r && decide (robotOf f.id=r)) then
    (if (addF (robOf t r.toNat).factors f).2 && (apE (robOf t r.toNat).journal ⟨false,0,f⟩).2 then
      (match offJ r.toNat (fmtBun ⟨r,[f]⟩) t.robots.length (setR t r.toNat ⟨(addF (robOf t r.toNat).factors f).1,(apE (robOf t r.toNat).journal ⟨false,0,f⟩).1⟩) with
        | some u=>(u,true)
        | none=>(t,false))
     else (t,false))
  else (t,false)
theorem measT_no1 {t:Team} {r:Int} {f:Factor} (h:isTeam t=false):measT t r f=(t,false):=by simp [measT,h]
theorem measT_no2 {t:Team} {r:Int} {f:Factor} (h:isRob t r=false):measT t r f=(t,false):=by simp [measT,h]
theorem measT_no3 {t:Team} {r:Int} {f:Factor} (h:¬ robotOf f.id=r):measT t r f=(t,false):=by simp [measT,h]
theorem measT_eq {t:Team} {r:Nat} {f:Factor} {x:Robot} (h1:isTeam t=true) (h2:isRob t r=true) (h3:robotOf f.id=r) (hx:t.robots[r]? = some x) :
    measT t r f=if (addF x.factors f).2 && (apE x.journal ⟨false,0,f⟩).2 then
      (match offJ r (fmtBun ⟨r,[f]⟩) t.robots.length (setR t r ⟨(addF x.factors f).1,(apE x.journal ⟨false,0,f⟩).1⟩) with
        | some u=>(u,true)
        | none=>(t,false))
     else (t,false):=by
  unfold measT
  rw [Int.toNat_natCast,robOf_eq hx,h1,h2]
  simp only [h3,Bool.true_and,decide_true,if_true]
theorem numT_setC1 {t:Team} {i j:Nat} {c c0:Chan} {row:List Chan} (hi:t.channels[i]? = some row) (hj:row[j]? = some c0) (h:c.num≤c0.num+1):numT (setC t i j c)≤numT t+1:=by
  have h1:=sum_set (c:=numCs) (k:=1) (x:=(rowOf t i).set j c) (l:=t.channels) (i:=i) (fun y hy=>by
    rw [rowOf_eq hy]
    rw [hi] at hy
    obtain rfl:=Option.some.inj hy
    have h2:=sum_set (c:=Chan.num) (k:=1) (x:=c) (l:=row) (i:=j) (fun z hz=>by
      rw [hj] at hz
      obtain rfl:=Option.some.inj hz
      exact h)
    unfold numCs;omega)
  unfold numT setC;simp only;omega
theorem offer_num (c:Chan) (s:ByteArray):(offer c s).1.num≤c.num+1:=by
  unfold offer
  split
  · unfold addQ Chan.num;simp;omega
  · exact Nat.le_succ _
structure OI (t:Team) (n r j:Nat) (u:Team):Prop where
  len:u.robots.length=n
  clen:u.channels.length=n
  row:∀ l∈u.channels,l.length=n
  keep:∀ b,j≤b→chOf u r b=chOf t r b
  num:numT u≤1048576+41+j
theorem OI.start {t:Team} {n r:Nat} {f:Factor} {x:Robot} {J:ByteArray} (h:isTeam t=true) (hm:bulkT t≤1048576) (hn:t.robots.length=n) (hx:t.robots[r]? = some x):OI t n r 0 (setR t r ⟨(addF x.factors f).1,J⟩):=by
  obtain ⟨p1,p2,p3,p4,p5⟩:=isTeam_parts h
  have h1:=p4 x (List.mem_of_getElem? hx)
  refine ⟨by show (t.robots.set r _).length=n;rw [List.length_set,hn],by show t.channels.length=n;omega,fun l hl=>by rw [(p5 l hl).1,hn],fun _ _=>rfl,?_⟩
  have h2:=numT_setR t r ⟨(addF x.factors f).1,J⟩
  have h3:=numT_le hm
  have h4:(addF x.factors f).1.length≤40:=by
    cases ha:(addF x.factors f).2 with
    | true=>exact isFL_len (addF_fl ha)
    | false =>
      have e:(addF x.factors f).1=x.factors:=by
        unfold addF at ha ⊢
        by_cases hc:(isFL x.factors && isFL (insF x.factors f))=true
        · rw [if_pos hc] at ha;cases ha
        · rw [if_neg hc]
      rw [e];exact isFL_len h1
  have h5:Robot.num ⟨(addF x.factors f).1,J⟩=1+(addF x.factors f).1.length:=rfl
  omega
theorem OI.skip {t:Team} {n r j:Nat} {u:Team} (h:OI t n r j u):OI t n r (j+1) u :=
  ⟨h.len,h.clen,h.row,fun b hb=>h.keep b (by omega),by have:=h.num;omega⟩
theorem OI.step {t:Team} {n r j:Nat} {u:Team} {s:ByteArray} {row:List Chan} {c:Chan} (h:OI t n r j u) (hi:u.channels[r]? = some row) (hj:row[j]? = some c):OI t n r (j+1) (setC u r j (offer c s).1):=by
  refine ⟨h.len,?_,?_,?_,?_⟩
  · show (u.channels.set r _).length=n;rw [List.length_set,h.clen]
  · intro l hl
    have hl':l∈u.channels.set r ((rowOf u r).set j (offer c s).1):=hl
    rcases List.mem_or_eq_of_mem_set hl' with h1 | rfl
    · exact h.row l h1
    · rw [List.length_set,rowOf_eq hi,h.row row (List.mem_of_getElem? hi)]
  · intro b hb
    rw [chOf_set hi (by omega)]
    exact h.keep b (by omega)
  · have:=numT_setC1 hi hj (offer_num c s)
    have:=h.num
    omega
theorem OI.parts {t:Team} {n r j:Nat} {u:Team} (h:OI t n r j u) (ht:isTeam t=true) (hm:bulkT t≤1048576) (hok:okT t) (hn:t.robots.length=n) (hi:r < n) (hj:j < n) :
    ∃ row c,u.channels[r]? = some row∧row[j]? = some c∧bulkC c≤1048576∧okC c∧row.length=n:=by
  obtain ⟨p1,p2,p3,p4,p5⟩:=isTeam_parts ht
  obtain ⟨row,hr⟩:∃ row,u.channels[r]? = some row:=⟨_,List.getElem?_eq_getElem (by rw [h.clen];exact hi)⟩
  have hrl:=h.row row (List.mem_of_getElem? hr)
  obtain ⟨c,hc⟩:∃ c,row[j]? = some c:=⟨_,List.getElem?_eq_getElem (by rw [hrl];exact hj)⟩
  obtain ⟨row0,hr0⟩:∃ row,t.channels[r]? = some row:=⟨_,List.getElem?_eq_getElem (by omega)⟩
  have hm0:=List.mem_of_getElem? hr0
  obtain ⟨c0,hc0⟩:∃ c,row0[j]? = some c:=⟨_,List.getElem?_eq_getElem (by have:=(p5 row0 hm0).1;omega)⟩
  have hk:=h.keep j (by omega)
  rw [chOf_eq hr hc,chOf_eq hr0 hc0] at hk
  subst hk
  have hcm:=List.mem_of_getElem? hc0
  exact ⟨row,c,hr,hc,ch_size hm hm0 hcm,hok.2 row0 hm0 c hcm,hrl⟩
theorem facL1_sz {f:Factor} {r:Int} (h:isBundle r [f]=true):(bunT r [f]).size≤600:=by
  obtain ⟨h0,h2,h4,hv⟩:=isBundle_parts h
  have h1:=fmtFac_size f
  have h5:(fmtFac f).data.toList.length=(fmtFac f).size:=by simp
  rw [fmtFac_data (hv f (by simp))] at h5
  have h3:=Lib.itoa_length_le r (by omega) (by omega)
  have e:(bunT r [f]).data.toList.length=(bunT r [f]).size:=by simp
  rw [bun_data] at e
  simp only [facsL,List.length_append,bunL0,List.length_cons,List.length_nil] at e
  omega
theorem fmt1_sz (f:Factor) (r:Int):(fmtBun ⟨r,[f]⟩).size≤600:=by
  unfold fmtBun
  split
  · rename_i h;exact facL1_sz h
  · decide
theorem jrnL_len:∀ (l:List Entry) (p:Int),(∀ e∈l,vldEntry e=true)→inR p 0 65520=true→(jrnL l p).length≤400 * l.length
  | [],p,_,_=>by simp [jrnL]
  | e :: l,p,h,hp=>by
    have h1:=entT_sz (h e (by simp)) hp
    have h2:=jrnL_len l (entSum e p) (fun g hg=>h g (by simp [hg])) (entSum_in e p)
    have h3:=bsize (entT e p)
    simp only [jrnL,List.length_append,List.length_cons]
    omega
theorem rd_of {s:ByteArray} {l:List Entry} (h:∀ e∈l,vldEntry e=true) (hl:l.length≤60) (hs:s.data.toList=jrnL l 1):rdE s=l∧rdN s=s.size∧rdQ s=sumL l 1:=by
  have hr:=rdj_all h hl
  rw [← hs] at hr
  unfold rdE rdN rdQ
  rw [hr]
  exact ⟨rfl,bsize s,rfl⟩
theorem ent_small {e:Entry} (h:vldEntry e=true):entOk e∧Factor.ok e.factor∧wfI e.id∧e.factor.bulk≤16:=by
  have nm:∀ (s:ByteArray) (c:Int),nmWith s c=true→s.size≤8:=fun s c h=>by
    unfold nmWith isNm at h
    simp only [Bool.and_eq_true,decide_eq_true_eq] at h
    exact h.1.1.2
  rcases ent_kinds h with ⟨f,rfl,hv,_⟩ | ⟨n,rfl,hn,_⟩
  · have hs:=vld_sz hv
    have hp:psFac (fmtFac f)=some f:=psFac_some (facOf_iff.2 ⟨hv,rfl⟩)
    have hg:gF (fmtFac f)=f:=by unfold gF;rw [hp];rfl
    have hok:=gF_ok (fmtFac f)
    rw [hg] at hok
    obtain ⟨_,_,_,_,h5,h6,h7⟩:=vld_parts hv
    refine ⟨⟨hs.1,hs.2,by show (-9223372036854775808:Int)≤0;omega,by show (0:Int)≤_;omega⟩,hok,wfz 0 (by omega) (by omega),?_⟩
    have ha:f.frm.size≤8:=by
      by_cases k:f.kind=1
      · have e:=h5 k
        rw [ByteArray.toList_eq] at e
        have:=bsize f.frm
        rw [show f.frm.data.toList=[] by simpa using e] at this
        simp at this;omega
      · exact nm _ _ (h6 k)
    have hb:f.to.size≤8:=by rcases h7 with h | h <;> exact nm _ _ h
    show f.frm.size+f.to.size≤16
    omega
  · have z:=wfz 0 (by omega) (by omega)
    exact ⟨zFac_ok _ (by omega) (by omega),⟨by show (0:Nat)≤maxLen;exact Nat.zero_le _,by show (0:Nat)≤maxLen;exact Nat.zero_le _,z,z,z,z,z,z⟩,wfz n (by omega) (by omega),by show (0:Nat)≤16;omega⟩
theorem same_reflR (f:Factor):f.same f=true:=by simp [Factor.same]
theorem sameL_reflR:∀ l:List Factor,sameL l l=true
  | []=>rfl
  | f :: l=>by simp [sameL,same_reflR,sameL_reflR l]
theorem ap_add {s:ByteArray} {E:List Entry} {e:Entry} (h:∀ e∈E,vldEntry e=true) (hl:E.length < 60) (he:vldEntry e=true) (hs:s.data.toList=jrnL E 1):(apE s e).2=true∧(apE s e).1.data.toList=jrnL (E++[e]) 1:=by
  obtain ⟨h1,h2,h3⟩:=rd_of h (by omega) hs
  have hx:s.extract 0 s.size=s:=by
    apply bext
    rw [ext_list];exact List.take_of_length_le (by simp)
  rw [ap_yes he (by rw [h1];omega),h2,h3,hx]
  refine ⟨rfl,?_⟩
  rw [jrnL_app,← hs]
  simp [jrnL,ByteArray.data_append]
structure RInv (F:List Factor) (x:Robot):Prop where
  fl:isFL x.factors=true
  mem:∀ g∈x.factors,g∈F
  jr:∃ E:List Entry,(∀ e∈E,vldEntry e=true)∧x.journal.data.toList=jrnL E 1∧E.length=x.factors.length∧E.foldl rstep []=x.factors
theorem RInv.nil:RInv [] ⟨[],ByteArray.empty⟩:=⟨by decide,by simp,[],by simp,rfl,rfl,rfl⟩
theorem RInv.mono {F F':List Factor} {x:Robot} (h:RInv F x) (hF:∀ g∈F,g∈F'):RInv F' x:=⟨h.fl,fun g hg=>hF g (h.mem g hg),h.jr⟩
theorem vldE {f:Factor} (h:vldFactor f=true):vldEntry ⟨false,0,f⟩=true:=by simp [vldEntry,h]
theorem RInv.add {F F':List Factor} {x:Robot} {f:Factor} (h:RInv F x) (hF:∀ g∈F,g∈F') (hf:f∈F') (hv:vldFactor f=true) (ha:(addF x.factors f).2=true) :
    (apE x.journal ⟨false,0,f⟩).2=true∧RInv F' ⟨(addF x.factors f).1,(apE x.journal ⟨false,0,f⟩).1⟩:=by
  obtain ⟨E,hE,hj,hl,hr⟩:=h.jr
  have h40:=isFL_len h.fl
  obtain ⟨h1,h2⟩:=ap_add hE (by omega) (vldE hv) hj
  obtain ⟨e1,e2,_⟩:=addF_cases ha
  refine ⟨h1,⟨?_,?_,E++[⟨false,0,f⟩],?_,h2,?_,?_⟩⟩
  · show isFL (addF x.factors f).1=true
    rw [e1];exact e2
  · intro g hg
    replace hg:g∈(addF x.factors f).1:=hg
    rw [e1] at hg
    rcases mem_insF.1 hg with rfl | hg
    · exact hf
    · exact hF g (h.mem g hg)
  · intro e he
    rcases List.mem_append.1 he with he | he
    · exact hE e he
    · simp only [List.mem_singleton] at he;subst he;exact vldE hv
  · show _=(addF x.factors f).1.length
    rw [e1,insF_len,List.length_append,hl];rfl
  · rw [List.foldl_append,hr];rfl
def TxtOf (F:List Factor) (i:Int) (s:ByteArray):Prop:=∃ f∈F,vldFactor f=true∧robotOf f.id=i∧0≤i∧i≤2∧s=fmtBun ⟨i,[f]⟩
theorem TxtOf.mono {F F':List Factor} {i:Int} {s:ByteArray} (h:TxtOf F i s) (hF:∀ g∈F,g∈F'):TxtOf F' i s:=by
  obtain ⟨f,hf,h⟩:=h;exact ⟨f,hF f hf,h⟩
theorem bun1 {f:Factor} {i:Int} (hv:vldFactor f=true) (hr:robotOf f.id=i) (h0:0≤i) (h2:i≤2):isBundle i [f]=true:=by
  unfold isBundle
  have e1:inR i 0 2=true:=inR_iff.2 ⟨h0,h2⟩
  have e2:inR (([f]:List Factor).length:Int) 1 4=true:=inR_iff.2 (by simp)
  rw [e1,e2]
  simp [bunL,hv,hr]
theorem pb_fmt {r:Int} {l:List Factor} (h:isBundle r l=true):pb (fmtBun ⟨r,l⟩)=(⟨r,l⟩,true):=by
  have h1:psBun (fmtBun ⟨r,l⟩)=some ⟨r,l⟩:=psBun_some ⟨h,by unfold fmtBun;rw [if_pos h]⟩
  unfold pb;rw [h1]
theorem TxtOf.sz {F:List Factor} {i:Int} {s:ByteArray} (h:TxtOf F i s):s.size≤300:=by
  obtain ⟨f,_,hv,hr,h0,h2,rfl⟩:=h
  have hb:=bun1 hv hr h0 h2
  have h1:=fmtFac_size f
  have h5:(fmtFac f).data.toList.length=(fmtFac f).size:=by simp
  rw [fmtFac_data hv] at h5
  have h3:=Lib.itoa_length_le i (by omega) (by omega)
  unfold fmtBun
  rw [if_pos hb]
  rw [← bsize]
  unfold bunT
  simp only [facsL,List.length_append,List.length_cons,List.length_nil]
  omega
theorem RInv.recv {F:List Factor} {x:Robot} {i:Int} {s:ByteArray} (h:RInv F x) (hs:TxtOf F i s):RInv F (recvR x s):=by
  obtain ⟨f,hf,hv,hr,h0,h2,rfl⟩:=hs
  have hb:=bun1 hv hr h0 h2
  have hp:=pb_fmt hb
  rw [recvR_yes (by rw [hp]),hp]
  show RInv F ⟨(mergeB x.factors i [f]).1,jadds x.journal (mergeB x.factors i [f]).2⟩
  rw [mergeB_yes h.fl hb]
  cases ha:(addF x.factors f).2 with
  | true =>
    rw [show [f].foldl mergeStep (x.factors,[])=((addF x.factors f).1,[f]) from by simp [mergeStep,ha]]
    exact (h.add (fun g hg=>hg) hf hv ha).2
  | false =>
    rw [show [f].foldl mergeStep (x.factors,[])=(x.factors,[]) from by simp [mergeStep,ha]]
    exact h
theorem RInv.recvs {F:List Factor} {i:Int}:∀ (l:List ByteArray) {x:Robot},RInv F x→(∀ s∈l,TxtOf F i s)→RInv F (recvs x l)
  | [],x,h,_=>h
  | s :: l,x,h,hl=>RInv.recvs l (h.recv (hl s (by simp))) (fun u hu=>hl u (by simp [hu]))
theorem acks_dlv {c:Chan} {p:Packet}:∀ x∈(dlv c p).acks,x∈c.acks∨∃ n,x=newPkt true n ⟨#[]⟩:=by
  have put:∀ n,∀ x∈putK c.acks (newPkt true n ⟨#[]⟩),x∈c.acks∨∃ n,x=newPkt true n ⟨#[]⟩:=fun n=>putK_all (fun x hx=>.inl hx) (.inr ⟨n,rfl⟩)
  unfold dlv
  split
  · split
    · exact put _
    · exact put _
  · exact fun x hx=>.inl hx
theorem acks_move {c:Chan} {m a:Int}:∀ x∈(moveC c m a).acks,x∈c.acks∨∃ n,x=newPkt true n ⟨#[]⟩:=by
  have self:∀ x∈c.acks,x∈c.acks∨∃ n,x=newPkt true n ⟨#[]⟩:=fun x hx=>.inl hx
  unfold moveC
  split
  · exact self
  split
  · split
    · exact self
    · unfold netC
      split
      · exact self
      · split
        · exact self
        split
        · exact self
        split
        · exact self
        · exact acks_dlv
  split
  · split
    · exact self
    · unfold ackC
      split
      · exact self
      · split
        · rw [ackd_acks];exact dropK_all self
        · exact dropK_all self
  · exact self
structure CJ (F:List Factor) (N M:Nat) (i:Int) (c:Chan):Prop where
  inv:∃ want got m,m≤M∧want.length≤N∧ChInv want got m c∧∀ s∈want,TxtOf F i s
  ak:∀ p∈c.acks,p.text.size≤300∧wfI p.sum
theorem CJ.mono {F F':List Factor} {N N' M M':Nat} {i:Int} {c:Chan} (h:CJ F N M i c) (hF:∀ g∈F,g∈F') (hN:N≤N') (hM:M≤M'):CJ F' N' M' i c:=by
  obtain ⟨⟨want,got,m,h1,h2,h3,h4⟩,ha⟩:=h
  exact ⟨⟨want,got,m,by omega,by omega,h3,fun s hs=>(h4 s hs).mono hF⟩,ha⟩
theorem CJ.chan {F:List Factor} {N M:Nat} {i:Int} {c:Chan} (h:CJ F N M i c) (hN:N≤1000):isChan c=true:=by
  obtain ⟨⟨want,got,m,h1,h2,h3,h4⟩,_⟩:=h
  exact h3.isChan (by omega) fun s hs=>(h4 s hs).sz
theorem CJ.offer {F:List Factor} {N M:Nat} {i:Int} {c:Chan} {s:ByteArray} (h:CJ F N M i c) (hN:N≤7) (hs:TxtOf F i s):(offer c s).2=true∧CJ F (N+1) M i (offer c s).1∧(offer c s).1.inbox=c.inbox:=by
  have hc:=h.chan (by omega)
  obtain ⟨⟨want,got,m,h1,h2,h3,h4⟩,ha⟩:=h
  have hb:=h3.bq;have hb0:=h3.b0
  have ho:=h3.offer (by omega) s
  have hC:CJ F (N+1) M i (addQ c s):=⟨⟨want++[s],got,m,h1,by simp;omega,ho,fun u hu=>by
    rcases List.mem_append.1 hu with hu | hu
    · exact h4 u hu
    · simp only [List.mem_singleton] at hu;subst hu;exact hs⟩,ha⟩
  have hd:=hC.chan (by omega)
  have e:Go.Proofs.YtdfemnffpaopfaaGreatDoor.offer c s=(addQ c s,true):=by unfold Go.Proofs.YtdfemnffpaopfaaGreatDoor.offer;rw [hc,hd];rfl
  rw [e]
  exact ⟨rfl,hC,rfl⟩
theorem wf_pkt (n:Int) (t:ByteArray) (a:Bool):wfI (pktSum n t a):=by have:=pktSum_bd n t a;exact wfz _ (by omega) (by omega)
theorem CJ.move {F:List Factor} {N M:Nat} {i:Int} {c:Chan} (h:CJ F N M i c) (hN:N≤1000) (hM:M≤1000) (mv a:Int):CJ F N (M+1) i (stepC c mv a):=by
  have hc:=h.chan hN
  obtain ⟨⟨want,got,m,h1,h2,h3,h4⟩,ha⟩:=h
  unfold stepC
  rw [if_pos hc]
  refine ⟨⟨want,got,m+1,by omega,h2,h3.move (by omega) mv a,h4⟩,fun p hp=>?_⟩
  rcases acks_move p hp with hp | ⟨n,rfl⟩
  · exact ha p hp
  · exact ⟨Nat.zero_le _,wf_pkt n _ _⟩
theorem CJ.take {F:List Factor} {N M:Nat} {i:Int} {c:Chan} (h:CJ F N M i c):CJ F N M i (takeC c)∧∀ s∈c.inbox,TxtOf F i s:=by
  obtain ⟨⟨want,got,m,h1,h2,h3,h4⟩,ha⟩:=h
  refine ⟨⟨⟨want,got++c.inbox,m,h1,h2,h3.take,h4⟩,ha⟩,fun s hs=>h4 s ?_⟩
  have:s∈got++c.inbox:=List.mem_append.2 (.inr hs)
  rw [h3.inb] at this
  exact List.mem_of_mem_take this
theorem sum_le {α:Type} {b:α→Nat} {N:Nat}:∀ {l:List α},(∀ x∈l,b x≤N)→sumBulk b l≤l.length * N
  | [],_=>by simp [sumBulk]
  | x :: l,h=>by
    have h1:=h x (by simp)
    have h2:=sum_le (b:=b) (N:=N) (l:=l) fun y hy=>h y (by simp [hy])
    simp only [sumBulk,List.length_cons,Nat.add_mul]
    omega
theorem CJ.size {F:List Factor} {N M:Nat} {i:Int} {c:Chan} (h:CJ F N M i c) (hi:c.inbox=[]):bulkC c≤20000:=by
  obtain ⟨⟨want,got,m,h1,h2,h3,h4⟩,ha⟩:=h
  have q1:=h3.q8;have q2:=h3.n12;have q3:=h3.a12
  have s1:=sum_le (b:=ByteArray.size) (N:=300) (l:=c.queue) fun s hs=>(h4 s (by rw [h3.q] at hs;exact List.mem_of_mem_drop hs)).sz
  have s2:=sum_le (b:=Packet.bulk) (N:=300) (l:=c.net) fun p hp=>by
    obtain ⟨_,k,hk,_⟩:=h3.net p hp
    exact (h4 _ (List.mem_of_getElem? hk)).sz
  have s3:=sum_le (b:=Packet.bulk) (N:=300) (l:=c.acks) fun p hp=>(ha p hp).1
  unfold bulkC
  rw [hi]
  simp only [List.length_nil,sumBulk]
  omega
theorem CJ.ok {F:List Factor} {N M:Nat} {i:Int} {c:Chan} (h:CJ F N M i c) (hi:c.inbox=[]) (hN:N≤1000) (hM:M≤2000):okC c:=by
  obtain ⟨⟨want,got,m,h1,h2,h3,h4⟩,ha⟩:=h
  have q1:=h3.b0;have q2:=h3.be;have q3:=h3.ew
  have big:∀ {k:Nat},k≤300→k≤maxLen:=fun hk=>Nat.le_trans hk (by unfold maxLen;omega)
  refine ⟨fun s hs=>big (h4 s (by rw [h3.q] at hs;exact List.mem_of_mem_drop hs)).sz,by rw [hi];simp,fun p hp=>?_,fun p hp=>?_,wfz _ (by omega) (by omega),wfz _ (by omega) (by omega)⟩
  · obtain ⟨_,k,hk,hn,j,hj,hs⟩:=h3.net p hp
    have hkl:=(List.getElem?_eq_some_iff.1 hk).1
    have hb:=pktSum_bd p.number p.text p.ack
    exact ⟨big (h4 _ (List.mem_of_getElem? hk)).sz,wfz _ (by omega) (by omega),wfz _ (by omega) (by omega)⟩
  · have h5:=h3.acks p hp
    have h6:=h5.2.1;have h7:=h5.2.2
    exact ⟨big (ha p hp).1,wfz _ (by omega) (by omega),(ha p hp).2⟩
theorem RInv.facs {F:List Factor} {x:Robot} (h:RInv F x):∀ f∈x.factors,f.ok∧f.bulk≤16:=fun f hf=>by
  have:=ent_small (vldE ((fl_rp h.fl).1 f hf))
  exact ⟨this.2.1,this.2.2.2⟩
theorem RInv.jrn {F:List Factor} {x:Robot} (h:RInv F x):x.journal.size≤16000:=by
  obtain ⟨E,hE,hj,hl,_⟩:=h.jr
  have h1:=jrnL_len E 1 hE (by decide)
  have h2:=isFL_len h.fl
  rw [← bsize,hj]
  omega
theorem RInv.size {F:List Factor} {x:Robot} (h:RInv F x):x.bulk≤20000:=by
  have h1:=h.jrn
  have h2:=isFL_len h.fl
  have h3:=sum_le (b:=Factor.bulk) (N:=16) (l:=x.factors) fun f hf=>(h.facs f hf).2
  unfold Robot.bulk bulkF
  omega
theorem RInv.ok {F:List Factor} {x:Robot} (h:RInv F x):x.ok :=
  ⟨fun f hf=>(h.facs f hf).1,Nat.le_trans h.jrn (by unfold maxLen;omega)⟩
structure TI (F:List Factor) (N M n:Nat) (t:Team):Prop where
  n1:1≤n
  n3:n≤3
  rl:t.robots.length=n
  cl:t.channels.length=n
  rob:∀ (j:Nat) (x:Robot),t.robots[j]? = some x→RInv F x
  row:∀ (i:Nat) (row:List Chan),t.channels[i]? = some row→row.length=n
  ch:∀ (i:Nat) (row:List Chan) (j:Nat) (c:Chan),t.channels[i]? = some row→row[j]? = some c→CJ F N M i c∧c.inbox=[]
theorem TI.mono {F F':List Factor} {N N' M M' n:Nat} {t:Team} (h:TI F N M n t) (hF:∀ g∈F,g∈F') (hN:N≤N') (hM:M≤M'):TI F' N' M' n t :=
  ⟨h.n1,h.n3,h.rl,h.cl,fun j x hx=>(h.rob j x hx).mono hF,h.row,fun i row j c h1 h2=>⟨(h.ch i row j c h1 h2).1.mono hF hN hM,(h.ch i row j c h1 h2).2⟩⟩
theorem TI.team {F:List Factor} {N M n:Nat} {t:Team} (h:TI F N M n t) (hN:N≤1000):isTeam t=true:=by
  have h1:=h.n1;have h3:=h.n3
  unfold isTeam
  simp only [Bool.and_eq_true,decide_eq_true_eq,List.all_eq_true]
  refine ⟨inR_iff.2 (by rw [h.rl];omega),by rw [h.rl,h.cl],fun r hr=>?_,fun l hl=>?_⟩
  · obtain ⟨j,hj⟩:=List.mem_iff_getElem?.1 hr
    exact (h.rob j r hj).fl
  · obtain ⟨i,hi⟩:=List.mem_iff_getElem?.1 hl
    refine ⟨by rw [h.row i l hi,h.rl],fun c hc=>?_⟩
    obtain ⟨j,hj⟩:=List.mem_iff_getElem?.1 hc
    exact (h.ch i l j c hi hj).1.chan hN
theorem TI.bulk {F:List Factor} {N M n:Nat} {t:Team} (h:TI F N M n t):bulkT t≤1048576:=by
  have h3:=h.n3
  have s1:=sum_le (b:=Robot.bulk) (N:=20000) (l:=t.robots) fun r hr=>by
    obtain ⟨j,hj⟩:=List.mem_iff_getElem?.1 hr
    exact (h.rob j r hj).size
  have s2:=sum_le (b:=bulkCs) (N:=60010) (l:=t.channels) fun l hl=>by
    obtain ⟨i,hi⟩:=List.mem_iff_getElem?.1 hl
    have s3:=sum_le (b:=bulkC) (N:=20000) (l:=l) fun c hc=>by
      obtain ⟨j,hj⟩:=List.mem_iff_getElem?.1 hc
      have:=h.ch i l j c hi hj
      exact this.1.size this.2
    have h4:=h.row i l hi
    unfold bulkCs
    rw [h4] at s3 ⊢
    have h5:n * 20000≤3 * 20000:=Nat.mul_le_mul_right _ h3
    omega
  have h1:=h.rl;have h2:=h.cl
  unfold bulkT
  rw [h1] at s1 ⊢
  rw [h2] at s2 ⊢
  omega
theorem TI.ok {F:List Factor} {N M n:Nat} {t:Team} (h:TI F N M n t) (hN:N≤1000) (hM:M≤2000):okT t:=by
  refine ⟨fun r hr=>?_,fun l hl c hc=>?_⟩
  · obtain ⟨j,hj⟩:=List.mem_iff_getElem?.1 hr
    exact (h.rob j r hj).ok
  · obtain ⟨i,hi⟩:=List.mem_iff_getElem?.1 hl
    obtain ⟨j,hj⟩:=List.mem_iff_getElem?.1 hc
    have:=h.ch i l j c hi hj
    exact this.1.ok this.2 hN hM
theorem TI.at_ {F:List Factor} {N M n:Nat} {t:Team} (h:TI F N M n t) {i j:Nat} (hi:i < n) (hj:j < n):∃ row c,t.channels[i]? = some row∧row[j]? = some c∧CJ F N M i c∧c.inbox=[]:=by
  have h1:=h.cl
  have e1:t.channels[i]? = some (t.channels[i]'(by omega)):=List.getElem?_eq_getElem _
  have h2:=h.row i _ e1
  have e2:(t.channels[i]'(by omega))[j]? = some ((t.channels[i]'(by omega))[j]'(by omega)):=List.getElem?_eq_getElem _
  exact ⟨_,_,e1,e2,h.ch i _ j _ e1 e2⟩
theorem TI.rob_at {F:List Factor} {N M n:Nat} {t:Team} (h:TI F N M n t) {j:Nat} (hj:j < n):∃ x,t.robots[j]? = some x∧RInv F x:=by
  have h1:=h.rl
  have e1:t.robots[j]? = some (t.robots[j]'(by omega)):=List.getElem?_eq_getElem _
  exact ⟨_,e1,h.rob j _ e1⟩
theorem TI.putR {F:List Factor} {N M n:Nat} {t:Team} (h:TI F N M n t) {j:Nat} {x:Robot} (hx:RInv F x):TI F N M n (setR t j x):=by
  refine ⟨h.n1,h.n3,by show (t.robots.set j x).length=n;rw [List.length_set];exact h.rl,h.cl,fun k y hy=>?_,h.row,h.ch⟩
  replace hy:(t.robots.set j x)[k]? = some y:=hy
  rw [List.getElem?_set] at hy
  split at hy
  · split at hy
    · obtain rfl:=Option.some.inj hy;exact hx
    · cases hy
  · exact h.rob k y hy
theorem TI.putC {F:List Factor} {N M n:Nat} {t:Team} (h:TI F N M n t) {i j:Nat} {c:Chan} (hc:CJ F N M i c) (hi0:c.inbox=[]):TI F N M n (setC t i j c):=by
  have key:∀ (k:Nat) (row:List Chan),(setC t i j c).channels[k]? = some row→∃ row0,t.channels[k]? = some row0∧(row=row0∨(k=i∧row=row0.set j c)):=fun k row hk=>by
    replace hk:(t.channels.set i ((rowOf t i).set j c))[k]? = some row:=hk
    rw [List.getElem?_set] at hk
    split at hk
    · rename_i hik
      split at hk
      · rename_i hlt
        obtain rfl:=Option.some.inj hk
        subst hik
        have e:=List.getElem?_eq_getElem hlt
        exact ⟨_,e,.inr ⟨rfl,by rw [rowOf_eq e]⟩⟩
      · cases hk
    · exact ⟨row,hk,.inl rfl⟩
  refine ⟨h.n1,h.n3,h.rl,by show (t.channels.set i _).length=n;rw [List.length_set];exact h.cl,h.rob,fun k row hk=>?_,fun k row l d hk hl=>?_⟩
  · obtain ⟨row0,h0,rfl | ⟨rfl,rfl⟩⟩:=key k row hk
    · exact h.row k _ h0
    · rw [List.length_set];exact h.row k _ h0
  · obtain ⟨row0,h0,rfl | ⟨rfl,rfl⟩⟩:=key k row hk
    · exact h.ch k _ l d h0 hl
    · rw [List.getElem?_set] at hl
      split at hl
      · split at hl
        · obtain rfl:=Option.some.inj hl;exact ⟨hc,hi0⟩
        · cases hl
      · exact h.ch k _ l d h0 hl
theorem isRob_nat {t:Team} {n i:Nat} (hl:t.robots.length=n) (hi:i < n):isRob t i=true:=by
  unfold isRob;rw [hl];exact inR_iff.2 (by omega)
theorem setC_setC {t:Team} {i j:Nat} {a b:Chan} {row:List Chan} (hi:t.channels[i]? = some row):setC (setC t i j a) i j b=setC t i j b:=by
  have h1:=setC_row (j:=j) (c:=a) hi
  unfold setC at h1 ⊢
  simp only at h1 ⊢
  rw [rowOf_eq (t:=⟨t.robots,_⟩) h1,rowOf_eq hi,List.set_set,List.set_set]
theorem TI.move {F:List Factor} {N M n:Nat} {t:Team} (h:TI F N M n t) {i j:Nat} (hi:i < n) (hj:j < n) (hij:i≠j) (hN:N≤1000) (hM:M≤1000) (mv a:Int):TI F N (M+1) n (moveT t i j mv a):=by
  have hT:=h.team hN
  obtain ⟨row,c,hr,hc,hC,hI⟩:=h.at_ hi hj
  obtain ⟨x,hx,hX⟩:=h.rob_at hj
  have hmv:=hC.move hN hM mv a
  obtain ⟨h1,h2⟩:=hmv.take
  rw [moveT_yes hT (isRob_nat h.rl hi) (isRob_nat h.rl hj) (by omega) hr hc,recvC_eq (t:=setC t i j (stepC c mv a)) (x:=x) hx,setC_setC hr]
  have h0:=h.mono (F':=F) (N':=N) (M':=M+1) (fun g hg=>hg) (Nat.le_refl _) (by omega)
  exact (h0.putC h1 rfl).putR (RInv.recvs _ (hX.mono fun g hg=>hg) h2)
structure New (F:List Factor) (f:Factor):Prop where
  v:vldFactor f=true
  id_:∀ g∈F,g.id≠f.id
  len:F.length≤7
  nm:(namesOf (F++[f])).length < 10
theorem RInv.len {F:List Factor} {x:Robot} (h:RInv F x):x.factors.length≤F.length:=by
  have hp:=asc_pw _ _ (isFL_asc h.fl)
  have hn:(x.factors.map (·.id)).Nodup:=by
    rw [List.nodup_iff_pairwise_ne,List.pairwise_map]
    exact hp.imp fun hab=>by omega
  have h1:=nodup_sub (b:=F.map (·.id)) hn fun k hk=>by
    obtain ⟨g,hg,rfl⟩:=List.mem_map.1 hk
    exact List.mem_map.2 ⟨g,h.mem g hg,rfl⟩
  simpa using h1
theorem RInv.free {F:List Factor} {x:Robot} {f:Factor} (h:RInv F x) (hf:New F f):(addF x.factors f).2=true:=by
  cases ha:(addF x.factors f).2 with
  | true=>rfl
  | false =>
    exfalso
    rcases (rej_iff h.fl hf.v).1 ha with h1 | h1 | h1
    · obtain ⟨g,hg,he⟩:=hasId_iff.1 h1
      exact hf.id_ g (h.mem g hg) he
    · have:=h.len;have:=hf.len;omega
    · have h2:=names_sub (l:=insF x.factors f) (m:=F++[f]) fun g hg=>by
        rcases mem_insF.1 hg with rfl | hg
        · simp
        · simp [h.mem g hg]
      have:=hf.nm;omega
structure OJ (F:List Factor) (N M n r j:Nat) (u0 u:Team):Prop where
  rb:u.robots=u0.robots
  cl:u.channels.length=n
  row:∀ (i:Nat) (row:List Chan),u.channels[i]? = some row→row.length=n
  ch:∀ (i:Nat) (row:List Chan) (k:Nat) (c:Chan),u.channels[i]? = some row→row[k]? = some c→CJ F (if i=r∧k < j then N+1 else N) M i c∧c.inbox=[]
theorem OJ.run {F:List Factor} {N M n r:Nat} {u0:Team} {s:ByteArray} (h0:OJ F N M n r 0 u0 u0) (hN:N≤7) (hs:TxtOf F r s) (hr:r < n):∀ j,j≤n→∃ u,offJ r s j u0=some u∧OJ F N M n r j u0 u
  | 0,_=>⟨u0,rfl,h0⟩
  | j+1,hj=>by
    obtain ⟨u,hu,ho⟩:=OJ.run h0 hN hs hr j (by omega)
    by_cases e:j=r
    · subst e
      refine ⟨u,offJ_skip hu,ho.rb,ho.cl,ho.row,fun i row k c h1 h2=>?_⟩
      obtain ⟨h3,h4⟩:=ho.ch i row k c h1 h2
      refine ⟨h3.mono (fun g hg=>hg) ?_ (Nat.le_refl _),h4⟩
      repeat (first | omega | split)
    · have e1:u.channels[r]? = some (u.channels[r]'(by have:=ho.cl;omega)):=List.getElem?_eq_getElem _
      generalize (u.channels[r]'(by have:=ho.cl;omega))=row at e1
      have hl:=ho.row r row e1
      have e2:row[j]? = some (row[j]'(by omega)):=List.getElem?_eq_getElem _
      generalize (row[j]'(by omega))=c at e2
      obtain ⟨hc,hi⟩:=ho.ch r row j c e1 e2
      rw [if_neg (by omega)] at hc
      obtain ⟨h1,h2,h3⟩:=hc.offer hN hs
      refine ⟨_,offJ_yes hu e e1 e2 h1,ho.rb,?_,?_,?_⟩
      · show (u.channels.set r _).length=n
        rw [List.length_set];exact ho.cl
      · intro i row2 hk
        replace hk:(u.channels.set r ((rowOf u r).set j (Go.Proofs.YtdfemnffpaopfaaGreatDoor.offer c s).1))[i]? = some row2:=hk
        rw [List.getElem?_set] at hk
        split at hk
        · split at hk
          · obtain rfl:=Option.some.inj hk;rw [List.length_set,rowOf_eq e1];exact hl
          · cases hk
        · exact ho.row i row2 hk
      · intro i row2 k d hk hd
        replace hk:(u.channels.set r ((rowOf u r).set j (Go.Proofs.YtdfemnffpaopfaaGreatDoor.offer c s).1))[i]? = some row2:=hk
        rw [List.getElem?_set] at hk
        split at hk
        · rename_i hri
          subst hri
          split at hk
          · obtain rfl:=Option.some.inj hk
            rw [rowOf_eq e1,List.getElem?_set] at hd
            split at hd
            · rename_i hjk
              subst hjk
              split at hd
              · obtain rfl:=Option.some.inj hd
                rw [if_pos ⟨rfl,by omega⟩]
                exact ⟨h2,by rw [h3];exact hi⟩
              · cases hd
            · obtain ⟨h5,h6⟩:=ho.ch r row k d e1 hd
              refine ⟨h5.mono (fun g hg=>hg) ?_ (Nat.le_refl _),h6⟩
              repeat (first | omega | split)
          · cases hk
        · obtain ⟨h5,h6⟩:=ho.ch i row2 k d hk hd
          refine ⟨h5.mono (fun g hg=>hg) ?_ (Nat.le_refl _),h6⟩
          repeat (first | omega | split)
theorem TI.meas {F:List Factor} {N M n:Nat} {t:Team} (h:TI F N M n t) {r:Nat} (hr:r < n) (hN:N≤7) {f:Factor} (hf:New F f) (hrf:robotOf f.id=r) :
    ∃ u,measT t r f=(u,true)∧TI (F++[f]) (N+1) M n u:=by
  have hT:=h.team (by omega)
  have h3:=h.n3
  obtain ⟨x,hx,hX⟩:=h.rob_at hr
  have ha:=hX.free hf
  have hs:∀ g∈F,g∈F++[f]:=fun g hg=>by simp [hg]
  obtain ⟨h1,h2⟩:=hX.add hs (by simp) hf.v ha
  have h0:OJ (F++[f]) N M n r 0 (setR t r ⟨(addF x.factors f).1,(apE x.journal ⟨false,0,f⟩).1⟩) (setR t r ⟨(addF x.factors f).1,(apE x.journal ⟨false,0,f⟩).1⟩) :=
    ⟨rfl,h.cl,h.row,fun i row k c e1 e2=>by
      obtain ⟨h5,h6⟩:=h.ch i row k c e1 e2
      rw [if_neg (by omega)]
      exact ⟨h5.mono hs (Nat.le_refl _) (Nat.le_refl _),h6⟩⟩
  obtain ⟨u,hu,ho⟩:=OJ.run (s:=fmtBun ⟨r,[f]⟩) h0 hN ⟨f,by simp,hf.v,hrf,by omega,by omega,rfl⟩ hr n (Nat.le_refl _)
  refine ⟨u,?_,h.n1,h.n3,?_,ho.cl,?_,ho.row,fun i row k c e1 e2=>?_⟩
  · rw [measT_eq hT (isRob_nat h.rl hr) hrf hx,ha,h1,h.rl,hu];rfl
  · rw [ho.rb]
    show (t.robots.set r _).length=n
    rw [List.length_set];exact h.rl
  · intro k y hy
    rw [ho.rb] at hy
    replace hy:(t.robots.set r ⟨(addF x.factors f).1,(apE x.journal ⟨false,0,f⟩).1⟩)[k]? = some y:=hy
    rw [List.getElem?_set] at hy
    split at hy
    · split at hy
      · obtain rfl:=Option.some.inj hy;exact h2
      · cases hy
    · exact (h.rob k y hy).mono hs
  · obtain ⟨h5,h6⟩:=ho.ch i row k c e1 e2
    refine ⟨h5.mono (fun g hg=>hg) ?_ (Nat.le_refl _),h6⟩
    repeat (first | omega | split)
theorem rep_some {α:Type} {n i:Nat} {a b:α} (h:(List.replicate n a)[i]? = some b):b=a:=by
  rw [List.getElem?_replicate] at h
  split at h
  · exact (Option.some.inj h).symm
  · cases h
theorem CJ.zero (i:Int):CJ [] 0 0 i zChan:=⟨⟨[],[],0,Nat.le_refl _,Nat.le_refl _,⟨by decide,by decide,by decide,rfl,by decide,by decide,rfl,by simp [zChan],by decide,by simp [zChan],by decide⟩,by simp⟩,by simp [zChan]⟩
theorem TI.start {n:Nat} (h1:1≤n) (h3:n≤3):TI [] 0 0 n ⟨List.replicate n zRobot,List.replicate n (zRow n)⟩:=by
  refine ⟨h1,h3,by simp,by simp,fun j x hx=>?_,fun i row hi=>?_,fun i row j c hi hc=>?_⟩
  · obtain rfl:=rep_some hx
    exact RInv.nil
  · obtain rfl:=rep_some hi
    simp [zRow]
  · obtain rfl:=rep_some hi
    obtain rfl:=rep_some hc
    exact ⟨CJ.zero _,rfl⟩
theorem rdj_torn:∀ (l:List Entry) (p:Int) (k:Nat) (r:List UInt8),(∀ e∈l,vldEntry e=true)→inR p 0 65520=true→l.length≤k→(∀ x∈r,isB 10 x=false)→rdj k (jrnL l p++r) p=(l,(jrnL l p).length,sumL l p)
  | [],p,k,r,_,_,_,hr=>rdj_none (no_pfx (q:=0) (by simpa [jrnL] using hr))
  | e :: l,p,k,r,h,hp,hk,hr=>by
    obtain ⟨k,rfl⟩:∃ g,k=g+1:=⟨k - 1,by simp at hk;omega⟩
    have hd:=bsize (entT e p)
    have ih:=rdj_torn l (entSum e p) k r (fun g hg=>h g (by simp [hg])) (entSum_in e p) (by simp at hk;omega) hr
    have e1:jrnL (e :: l) p++r=(entT e p).data.toList++(jrnL l (entSum e p)++r):=by simp [jrnL]
    rw [rdj_some (e:=e) ⟨h e (by simp),hp,_,e1⟩,e1,List.drop_append,List.drop_of_length_le (by omega),hd,Nat.sub_self,List.drop_zero,List.nil_append,ih]
    simp only [jrnL,sumL,List.length_append,hd]
theorem TI.torn {F:List Factor} {N M n:Nat} {t:Team} (h:TI F N M n t) (hN:N≤1000) {r:Nat} (hr:r < n) {s:ByteArray} (hs:∀ x∈s.data.toList,isB 10 x=false):restT t r s=t:=by
  have hT:=h.team hN
  obtain ⟨x,hx,hX⟩:=h.rob_at hr
  obtain ⟨E,hE,hj,hl,hf⟩:=hX.jr
  have h40:=isFL_len hX.fl
  have hd:(x.journal++s).data.toList=jrnL E 1++s.data.toList:=by simp [ByteArray.data_append,hj]
  have hR:=rdj_torn E 1 60 s.data.toList hE (by decide) (by omega) hs
  have hb:x.journal.size=(jrnL E 1).length:=by rw [← bsize,hj]
  have hS:restS t r s=x.journal:=by
    unfold restS rdN
    rw [robOf_eq hx,hd,hR]
    dsimp only
    rw [← hb]
    apply bext
    rw [ext_list,ByteArray.data_append,Array.toList_append,List.drop_zero]
    rw [List.take_append_of_le_length (by rw [bsize];omega)]
    exact List.take_of_length_le (by rw [bsize];omega)
  have hP:rpl x.journal=x.factors:=by
    have:=rdj_torn E 1 60 [] hE (by decide) (by omega) (by simp)
    rw [List.append_nil] at this
    unfold rpl rdE
    rw [hj,this]
    exact hf
  unfold restT
  rw [hT,isRob_nat h.rl hr,Int.toNat_natCast,hS,hP]
  simp only [Bool.and_self,if_true]
  exact setR_self hx
end Go.Proofs.YtdfemnffpaopfaaGreatDoor
