/- Texts of this proof, one behind the other: TmM, TmMS. -/
import Derived.Test.YtdfemnffpaopfaaGreatDoorGmt41
import Derived.Test.YtdfemnffpaopfaaGreatDoorGmt44
import Derived.Test.YtdfemnffpaopfaaGreatDoorGmt47
import Derived.Test.YtdfemnffpaopfaaGreatDoorGmt49
namespace Go.Proofs.YtdfemnffpaopfaaGreatDoor
open Go.RowKit
set_option linter.unusedVariables false
set_option linter.unusedSimpArgs false
set_option maxHeartbeats 8000000
set_option maxRecDepth 100000
theorem inbox_dlv (c:Chan) (p:Packet):(dlv c p).inbox.length≤c.inbox.length + 1:=by
  unfold dlv;split
  · split
    · show (c.inbox ++ [p.text]).length≤_;simp
    · exact Nat.le_succ _
  · exact Nat.le_succ _
theorem inbox_step (c:Chan) (m a:Int):(stepC c m a).inbox.length≤c.inbox.length + 1:=by
  have hn:∀ k,(netC c m k).inbox.length≤c.inbox.length + 1:=fun k=>by
    unfold netC;split
    · exact Nat.le_succ _
    · split
      · exact Nat.le_succ _
      split
      · exact Nat.le_succ _
      split
      · exact Nat.le_succ _
      · exact inbox_dlv _ _
  have ha:∀ k,(ackC c m k).inbox.length≤c.inbox.length + 1:=fun k=>by
    unfold ackC;split
    · exact Nat.le_succ _
    · split
      · unfold ackd;split <;> exact Nat.le_succ _
      · exact Nat.le_succ _
  unfold stepC;split
  · unfold moveC;split
    · exact Nat.le_succ _
    split
    · split
      · exact Nat.le_succ _
      · exact hn _
    split
    · split
      · exact Nat.le_succ _
      · exact ha _
    · exact Nat.le_succ _
  · exact Nat.le_succ _
theorem moveT_no1 {t:Team} {i j m a:Int} (h:isTeam t = false):moveT t i j m a = t:=by simp [moveT,h]
theorem moveT_no2 {t:Team} {i j m a:Int} (h:isRob t i = false):moveT t i j m a = t:=by simp [moveT,h]
theorem moveT_no3 {t:Team} {i j m a:Int} (h:isRob t j = false):moveT t i j m a = t:=by simp [moveT,h]
theorem moveT_no4 {t:Team} {i j m a:Int} (h:i = j):moveT t i j m a = t:=by simp [moveT,h]
theorem moveT_yes {t:Team} {i j:Nat} {m a:Int} {row:List Chan} {c:Chan} (h1:isTeam t = true) (h2:isRob t i = true) (h3:isRob t j = true) (h4:¬ (i:Int) = j) (hi:t.channels[i]? = some row) (hj:row[j]? = some c) :
    moveT t i j m a = recvC (setC t i j (stepC c m a)) i j (stepC c m a):=by
  unfold moveT
  rw [Int.toNat_natCast,Int.toNat_natCast,chOf_eq hi hj]
  have h5:decide ((i:Int)≠j) = true:=by simpa using h4
  rw [h1,h2,h3,h5]
  simp only [Bool.and_true,if_true]
  have h6:chOf (setC t i j (stepC c m a)) i j = stepC c m a:=chOf_eq (setC_row hi) (by rw [List.getElem?_set_self (List.getElem?_eq_some_iff.1 hj).1])
  unfold recv recvC
  rw [h6]
theorem ch_size {t:Team} {l:List Chan} {c:Chan} {N:Nat} (h:bulkT t≤N) (hl:l∈t.channels) (hc:c∈l):bulkC c≤N:=by
  have h1:bulkCs l≤sumBulk bulkCs t.channels:=few_each hl
  have h2:bulkC c≤sumBulk bulkC l:=few_each hc
  have h3:bulkCs l = l.length + sumBulk bulkC l:=rfl
  unfold bulkT at h;omega
theorem robOk_of {t:Team} {r:Robot} (h:bulkT t≤1048576) (hr:r∈t.robots) (hf:isFL r.factors = true):RobOk 1054336 r:=by
  refine ⟨hf,?_⟩
  have:=jrn_size h hr
  omega
theorem numT_le {t:Team} {N:Nat} (hm:bulkT t≤N):numT t≤N:=by
  have:=num_Ro t.robots;have:=num_Cs t.channels
  unfold bulkT at hm;unfold numT;omega
theorem numT_recvS {N:Nat} {t:Team} {i j:Nat} {c:Chan} (hr:RobOk N (robOf t j)) (hs:Short c):numT (recvC t i j c)≤numT t + 80:=numT_recvC hr hs.q hs.n hs.a
theorem chan_num {c:Chan} (hs:Short c) (N:Nat) (hi:c.inbox.length≤N):c.num≤N + 33:=by
  have h1:=hs.q;have h2:=hs.n;have h3:=hs.a
  unfold Chan.num;omega
theorem fewT_move {t:Team} (hm:bulkT t≤1048576) (hok:okT t) (i j m a:Int):fewT (moveT t i j m a):=by
  have h0:=numT_le hm
  by_cases h1:isTeam t = true
  · by_cases h2:isRob t i = true
    · by_cases h3:isRob t j = true
      · by_cases h4:i = j
        · rw [moveT_no4 h4];unfold fewT;omega
        · have g2:=isRob_iff.1 h2;have g3:=isRob_iff.1 h3
          obtain ⟨i,rfl⟩:∃ n:Nat,i = n:=⟨i.toNat,by omega⟩
          obtain ⟨j,rfl⟩:∃ n:Nat,j = n:=⟨j.toNat,by omega⟩
          obtain ⟨p1,p2,p3,p4,p5⟩:=isTeam_parts h1
          have hi:t.channels[i]? = some (t.channels[i]'(by omega)):=List.getElem?_eq_getElem _
          obtain ⟨row,hrow⟩:∃ row,row = t.channels[i]'(by omega):=⟨_,rfl⟩
          rw [← hrow] at hi
          have hrm:=List.mem_of_getElem? hi
          have hj:row[j]? = some (row[j]'(by have:=(p5 row hrm).1;omega)):=List.getElem?_eq_getElem _
          obtain ⟨c,hc⟩:∃ c,c = row[j]'(by have:=(p5 row hrm).1;omega):=⟨_,rfl⟩
          rw [← hc] at hj
          have hcm:=List.mem_of_getElem? hj
          have hbc:=ch_size hm hrm hcm
          have hoc:okC c:=hok.2 row hrm c hcm
          have hic:=(p5 row hrm).2 c hcm
          have hx:t.robots[j]? = some (t.robots[j]'(by omega)):=List.getElem?_eq_getElem _
          obtain ⟨x,hxe⟩:∃ x,x = t.robots[j]'(by omega):=⟨_,rfl⟩
          rw [← hxe] at hx
          have hxm:=List.mem_of_getElem? hx
          rw [moveT_yes h1 h2 h3 h4 hi hj]
          have hs:=short_step hic (Nat.le_trans hbc (by decide)) hoc m a
          have hro:RobOk 1054336 (robOf (setC t i j (stepC c m a)) j):=by
            rw [show robOf (setC t i j (stepC c m a)) j = robOf t j from rfl,robOf_eq hx]
            exact robOk_of hm hxm (p4 x hxm)
          have k1:=numT_recvS (i:=i) hro hs
          have k2:=numT_setC t i j (stepC c m a)
          have hfs:=fewC_step (Nat.le_trans hbc (by decide)) hoc m a
          have k3:(stepC c m a).num≤2097152:=by
            have hin:(stepC c m a).inbox.length≤1048577:=by
              have:=inbox_step c m a
              unfold bulkC at hbc;omega
            have:=chan_num hs _ hin;omega
          unfold fewT;omega
      · rw [moveT_no3 (by simpa using h3)];unfold fewT;omega
    · rw [moveT_no2 (by simpa using h2)];unfold fewT;omega
  · rw [moveT_no1 (by simpa using h1)];unfold fewT;omega
theorem impl_MoveTeam_k (v:TV) (t:Team) (i j m a:Int) (w:World) (hm:bulkT t≤1048576) (hok:okT t) (hr:RdT w v t) (hwi:(Lit.int .i64 i).wf = true) (hwj:(Lit.int .i64 j).wf = true) (hwm:(Lit.int .i64 m).wf = true) (hwa:(Lit.int .i64 a).wf = true) (hT:TabJ w) :
    Calls Tryz.prog 11 #[vTeam v,.int .i64 i,.int .i64 j,.int .i64 m,.int .i64 a] w fun e w'=>∃ v',e = .returned (vTeam v')∧OwT w' v' (moveT t i j m a)∧Fresh w.heap.size w' (fpT v')∧Below w.heap.size w w':=by
  have FT:=Lib.hid (fewT_of (Nat.le_trans hm (show 1048576≤4194304 by decide)))
  have HM:=Lib.hid (Nat.le_trans hm (show 1048576≤4194304 by decide))
  have HMT:=Lib.hid hm
  have HK:=Lib.hid hok
  have HR:=Lib.hid hr
  have HL:Hid (t.robots.length = v.r.n):=hr.r.len
  have HN:Hid (v.r.n≤4194304):=by have h1:=fewT_len FT.out;have:=HL.out;rw [Hid];omega
  have HTb:=Lib.hid hT
  have HWM:=Lib.hid hwm
  have HWA:=Lib.hid hwa
  obtain ⟨⟨Ar,nr,cr⟩,⟨Ac,nc,cc⟩,fr,fc⟩:=v
  generalize hbt:isTeam t = bt
  generalize hbi:isRob t i = bi
  generalize hbj:isRob t j = bj
  have HB:=Lib.hid hbt
  have HI:=Lib.hid hbi
  have HJ:=Lib.hid hbj
  clear hbt hbi hbj hm hok hr hwi hwj hwm hwa hT
  go_enter Tryz.func11,Tryz.ntmps11
  go_wp2_with fail
  refine Calls.mono (impl_copyTeam_k ⟨⟨Ar,nr,cr⟩,⟨Ac,nc,cc⟩,fr,fc⟩ t _ FT.out ?_) ?_
  · exact HR.out.below (bAlloc (bAlloc (Below.refl _ _) _) _)
  rintro e w1 ⟨⟨⟨Ar1,nr1,cr1⟩,⟨Ac1,nc1,cc1⟩,fr1,fc1⟩,rfl,ho1,hf1,hb1⟩
  have B:=bTrans (bAlloc (bAlloc (Below.refl w.heap.size w) _) _) hb1
  have B1:=Lib.hid B
  have X0:Bx2 w1 w.heap.size (.slice Ar nr cr) (.slice Ac nc cc):=Bx2.below ⟨by go_simp,by go_simp,fun o=>by go_simp⟩ hb1
  have X1:Bx2 w1 (w.heap.size + 1) (.slice none 0 0) (.slice none 0 0):=Bx2.below ⟨by go_simp,by go_simp,fun o=>by go_simp⟩ hb1
  have O:OT (w.heap.size + 2) w1 ⟨⟨Ar1,nr1,cr1⟩,⟨Ac1,nc1,cc1⟩,fr1,fc1⟩ t:=⟨ho1,hf1.rebase (by simp)⟩
  have O1:=Lib.hid O
  have a0:=X0.c0;have a1:=X0.c1;have a2:=X0.lt;have b0:=X1.c0;have b1:=X1.c1;have b2:=X1.fz;have b3:=X1.lt
  have hlt1:=O.lt
  have HSZ:Hid (w.heap.size + 2≤w1.heap.size):=by have h9:=X1.lt;rw [Hid];omega
  clear ho1 hf1
  go_wp2_with fail
  refine Calls.mono (impl_IsTeam_k ⟨⟨Ar,nr,cr⟩,⟨Ac,nc,cc⟩,fr,fc⟩ t _ HM.out HK.out ?_) ?_
  · exact HR.out.below (bAlloc B _)
  rintro e w2 ⟨he,hb2⟩
  rw [HB.out] at he
  subst he
  have X2:Bx2 w2 w1.heap.size (.slice Ar1 nr1 cr1) (.slice Ac1 nc1 cc1):=Bx2.below ⟨by go_simp,by go_simp,fun o=>by go_simp⟩ hb2
  have hbb2:Below w1.heap.size w1 w2:=bTrans (bAlloc (Below.refl _ _) _) hb2
  have X0:=X0.below hbb2
  have X1:=X1.below hbb2
  have O:=O.below hbb2
  have B:=bTrans B hbb2
  clear a0 a1 a2 b0 b1 b2 b3
  have a0:=X0.c0;have a1:=X0.c1;have a2:=X0.lt;have b0:=X1.c0;have b1:=X1.c1;have b2:=X1.fz;have b3:=X1.lt;have c0:=X2.c0;have c1:=X2.c1;have c3:=X2.lt
  cases bt
  · have HF:=Lib.hid (moveT_no1 (i:=i) (j:=j) (m:=m) (a:=a) HB.out)
    go_wp2_with fail
    refine bodyPost_ret (v:=vTeam ⟨⟨Ar1,nr1,cr1⟩,⟨Ac1,nc1,cc1⟩,fr1,fc1⟩) (by simp [*,results,Tryz.results11,go_sem]) rfl ?_
    rw [HF.out]
    exact ⟨⟨⟨Ar1,nr1,cr1⟩,⟨Ac1,nc1,cc1⟩,fr1,fc1⟩,rfl,teamEnd_ B O _ _⟩
  go_wp2_with fail
  refine Calls.mono (impl_isRobot_c ⟨⟨Ar,nr,cr⟩,⟨Ac,nc,cc⟩,fr,fc⟩ t i _ HL.out HN.out) ?_
  rintro e w3 ⟨he,hb3⟩
  rw [HI.out] at he
  subst he
  have X0:=X0.below hb3
  have X1:=X1.below hb3
  have X2:=X2.below hb3
  have O:=O.below hb3
  have B:=bTrans B hb3
  clear a0 a1 a2 b0 b1 b2 b3 c0 c1 c3
  have a0:=X0.c0;have a1:=X0.c1;have a2:=X0.lt;have b0:=X1.c0;have b1:=X1.c1;have b2:=X1.fz;have b3:=X1.lt;have c0:=X2.c0;have c1:=X2.c1;have c3:=X2.lt
  cases bi
  · have HF:=Lib.hid (moveT_no2 (j:=j) (m:=m) (a:=a) HI.out)
    go_wp2_with fail
    refine bodyPost_ret (v:=vTeam ⟨⟨Ar1,nr1,cr1⟩,⟨Ac1,nc1,cc1⟩,fr1,fc1⟩) (by simp [*,results,Tryz.results11,go_sem]) rfl ?_
    rw [HF.out]
    exact ⟨⟨⟨Ar1,nr1,cr1⟩,⟨Ac1,nc1,cc1⟩,fr1,fc1⟩,rfl,teamEnd_ B O _ _⟩
  go_wp2_with fail
  refine Calls.mono (impl_isRobot_c ⟨⟨Ar,nr,cr⟩,⟨Ac,nc,cc⟩,fr,fc⟩ t j _ HL.out HN.out) ?_
  rintro e w4 ⟨he,hb4⟩
  rw [HJ.out] at he
  subst he
  have X0:=X0.below hb4
  have X1:=X1.below hb4
  have X2:=X2.below hb4
  have O:=O.below hb4
  have B:=bTrans B hb4
  clear a0 a1 a2 b0 b1 b2 b3 c0 c1 c3
  have a0:=X0.c0;have a1:=X0.c1;have a2:=X0.lt;have b0:=X1.c0;have b1:=X1.c1;have b2:=X1.fz;have b3:=X1.lt;have c0:=X2.c0;have c1:=X2.c1;have c3:=X2.lt
  cases bj
  · have HF:=Lib.hid (moveT_no3 (i:=i) (m:=m) (a:=a) HJ.out)
    go_wp2_with fail
    refine bodyPost_ret (v:=vTeam ⟨⟨Ar1,nr1,cr1⟩,⟨Ac1,nc1,cc1⟩,fr1,fc1⟩) (by simp [*,results,Tryz.results11,go_sem]) rfl ?_
    rw [HF.out]
    exact ⟨⟨⟨Ar1,nr1,cr1⟩,⟨Ac1,nc1,cc1⟩,fr1,fc1⟩,rfl,teamEnd_ B O _ _⟩
  by_cases hij:i = j
  · have hij2:(i == j) = true:=by simpa using hij
    have HF:=Lib.hid (moveT_no4 (t:=t) (m:=m) (a:=a) hij)
    go_wp2_with fail
    refine bodyPost_ret (v:=vTeam ⟨⟨Ar1,nr1,cr1⟩,⟨Ac1,nc1,cc1⟩,fr1,fc1⟩) (by simp [*,results,Tryz.results11,go_sem]) rfl ?_
    rw [HF.out]
    exact ⟨⟨⟨Ar1,nr1,cr1⟩,⟨Ac1,nc1,cc1⟩,fr1,fc1⟩,rfl,teamEnd_ B O _ _⟩
  have g2:=isRob_iff.1 HI.out
  have g3:=isRob_iff.1 HJ.out
  obtain ⟨i,rfl⟩:∃ n:Nat,i = n:=⟨i.toNat,by omega⟩
  obtain ⟨j,rfl⟩:∃ n:Nat,j = n:=⟨j.toNat,by omega⟩
  obtain ⟨p1,p2,p3,p4,p5⟩:=isTeam_parts HB.out
  obtain ⟨row,hi⟩:∃ row,t.channels[i]? = some row:=⟨_,List.getElem?_eq_getElem (by omega)⟩
  have hrm:=List.mem_of_getElem? hi
  have hrl:=(p5 row hrm).1
  obtain ⟨c,hj⟩:∃ c,row[j]? = some c:=⟨_,List.getElem?_eq_getElem (by omega)⟩
  have hcm:=List.mem_of_getElem? hj
  have hbc:=ch_size HMT.out hrm hcm
  have hoc:okC c:=HK.out.2 row hrm c hcm
  have hic:=(p5 row hrm).2 c hcm
  obtain ⟨x,hx⟩:∃ x,t.robots[j]? = some x:=⟨_,List.getElem?_eq_getElem (by omega)⟩
  have hxm:=List.mem_of_getElem? hx
  have hro:=robOk_of HMT.out hxm (p4 x hxm)
  have hbc4:=Nat.le_trans hbc (show 1048576≤4194304 by decide)
  have HF:=Lib.hid (moveT_yes (m:=m) (a:=a) HB.out HI.out HJ.out hij hi hj)
  have hfs:=fewC_step hbc4 hoc m a
  have hts:=((Txt.of hbc4).step m a).i
  obtain ⟨gt,g,vs,vc,hA,p0,hvs,⟨q0,q1,q2,q3,q4,q5⟩,cf,hRd,hln,hg,hgt,hgB,hgtB,hne,hput⟩:=O1.out.ch HSZ.out hi hj
  have HP:=Lib.hid hput
  have hnc1:t.channels.length = nc1:=O.own.c.len.out
  dsimp only at hA
  subst hA
  have hb14:Below w1.heap.size w1 w4:=bTrans (bTrans hbb2 hb3) hb4
  have s4:=hb14.size
  have p0:=bCell hb14 p0
  have q0:=bCell hb14 q0;have q1:=bCell hb14 q1;have q2:=bCell hb14 q2;have q3:=bCell hb14 q3;have q4:=bCell hb14 q4;have q5:=bCell hb14 q5
  have cf:=fun o=>(bBoxF hb14 g hg o).trans (cf o)
  have hRd4:=hRd.below hb14
  have hg4:g < w4.heap.size:=by omega
  have hgt4:gt < w4.heap.size:=by omega
  have hgn1:g≠w1.heap.size:=by omega
  have hgn2:gt≠w1.heap.size:=by omega
  have z0:(0:Int)≤(i:Int):=by omega
  have z1:(i:Int) < (nc1:Int):=by omega
  have z2:(0:Int)≤(j:Int):=by omega
  have z3:(j:Int) < (vs.n:Int):=by omega
  have hijb:((i:Int) == (j:Int)) = false:=by simpa using hij
  clear hput p1 p2 p3 p4 p5 g2 g3 hRd
  go_wp2_with fail
  go_region_law (first | (go_simp;go_at_call 40;refine Calls.mono (impl_StepChannel_k vc c m a _ hbc4 hoc ?_ HWM.out HWA.out ((HTb.out.below (bTrans B (by repeat (first | with_reducible exact (Below.refl _ _) | with_reducible refine bAlloc ?_ _ | with_reducible refine bDrew ?_ | with_reducible refine bDrewN ?_ _)))).1.tab)) ?_;exact hRd4.below (by repeat (first | with_reducible exact (Below.refl _ _) | with_reducible refine bAlloc ?_ _ | with_reducible refine bDrew ?_ | with_reducible refine bDrewN ?_ _));rintro e w5 ⟨v5,rfl,ho5,hf5,hb5⟩;have hW:=bTrans (show Below w4.heap.size w4 _ from (by repeat (first | with_reducible exact (Below.refl _ _) | with_reducible refine bAlloc ?_ _ | with_reducible refine bDrew ?_ | with_reducible refine bDrewN ?_ _))) hb5;have p0:=bCell hW p0;have q0:=bCell hW q0;have q1:=bCell hW q1;have q2:=bCell hW q2;have q3:=bCell hW q3;have q4:=bCell hW q4;have q5:=bCell hW q5;have cf:=fun o=>(bBoxF hW g hg4 o).trans (cf o);have c0:=bCell hW c0;have c1:=bCell hW c1;have s5:=hW.size;have hg5:g < w5.heap.size:=(by omega);have hgt5:gt < w5.heap.size:=(by omega);have c3:w1.heap.size < w5.heap.size:=(by omega)))
  all_goals
    obtain ⟨⟨v6r,v6c,fr6,fc6⟩,O6,st6,ft6⟩:=HP.out w5 (bTrans hb14 hW) v5 _ ho5 (hf5.rebase (by simp;omega))
    have e1:=st6.r
    have e2:=st6.c
    dsimp only at e1 e2
    subst e1 e2
    have uS:=setChan_upd w5 g j v5 (stepC c m a)
    have B6:=bUpd (bTrans B hW) uS (fun q hq=>by simp at hq;omega)
    have X1:=(X1.below hW).upd uS (by simp;omega)
    have X2:=(X2.below hW).upd uS (by simp;omega)
    obtain ⟨W6,hW6⟩:∃ W6,W6 = setChan w5 g j v5 (stepC c m a):=⟨_,rfl⟩
    rw [← hW6] at O6 st6 B6 X1 X2
    unfold setChan at hW6
    rw [← hW6]
    clear hW6
    have hx6:(setC t i j (stepC c m a)).robots[j]? = some x:=hx
    clear a0 a1 a2 b0 b1 b2 b3 c0 c1 c3 p0 q0 q1 q2 q3 q4 q5 cf uS
    have b0:=X1.c0;have b1:=X1.c1;have b2:=X1.fz;have b3:=X1.lt;have c0:=X2.c0;have c1:=X2.c1;have c3:=X2.lt
    go_wp2_with fail
    have hsr:=setC_row (j:=j) (c:=stepC c m a) hi
    have hjr:(row.set j (stepC c m a))[j]? = some (stepC c m a):=List.getElem?_set_self (List.getElem?_eq_some_iff.1 hj).1
    refine Calls.mono (impl_recv_k w (w.heap.size + 2) 1054336 ⟨⟨Ar1,nr1,cr1⟩,⟨some ⟨gt,0,none⟩,nc1,cc1⟩,fr6,fc6⟩ (setC t i j (stepC c m a)) i j (row.set j (stepC c m a)) (stepC c m a) x W6 O6 (by omega) B6 (by omega) hsr hjr hx6 hro (by decide) hfs hts HTb.out) ?_
    rintro e w7 ⟨v7,rfl,O7,st7⟩
    rw [← HF.out] at O7
    have hb7:w.heap.size + 1 ∉ fpT (⟨⟨Ar1,nr1,cr1⟩,⟨some ⟨gt,0,none⟩,nc1,cc1⟩,fr6,fc6⟩:TV):=fun hm=>by have:=O6.fr.lo _ hm;omega
    have B7:=bUpd B6 st7.upd (fun q hq=>by have:=O6.fr.lo q hq;omega)
    have X1:=X1.upd st7.upd hb7
    clear b0 b1 b2 b3 c0 c1 c3
    have b0:=X1.c0;have b1:=X1.c1;have b2:=X1.fz;have b3:=X1.lt
    go_wp2_with fail
    refine bodyPost_ret (v:=vTeam v7) (by simp [*,results,Tryz.results11,go_sem]) rfl ?_
    exact ⟨v7,rfl,teamEnd_ B7 O7 _ _⟩
theorem spec_MoveTeam_k (v:TV) (t:Team) (i j m a:Int) (w:World) (hm:bulkT t≤1048576) (hok:okT t) (hr:RdT w v t) (hwi:(Lit.int .i64 i).wf = true) (hwj:(Lit.int .i64 j).wf = true) (hwm:(Lit.int .i64 m).wf = true) (hwa:(Lit.int .i64 a).wf = true) :
    Calls Tryz.prog 28 #[vTeam v,.int .i64 i,.int .i64 j,.int .i64 m,.int .i64 a] w fun e w'=>∃ v',e = .returned (vTeam v')∧OwT w' v' (moveT t i j m a)∧Fresh w.heap.size w' (fpT v')∧Below w.heap.size w w':=by
  have FT:=Lib.hid (fewT_of (Nat.le_trans hm (show 1048576≤4194304 by decide)))
  have HM:=Lib.hid (Nat.le_trans hm (show 1048576≤4194304 by decide))
  have HMT:=Lib.hid hm
  have HK:=Lib.hid hok
  have HR:=Lib.hid hr
  have HL:Hid (t.robots.length = v.r.n):=hr.r.len
  have HN:Hid (v.r.n≤4194304):=by have h1:=fewT_len FT.out;have:=HL.out;rw [Hid];omega

  have HWM:=Lib.hid hwm
  have HWA:=Lib.hid hwa
  obtain ⟨⟨Ar,nr,cr⟩,⟨Ac,nc,cc⟩,fr,fc⟩:=v
  generalize hbt:isTeam t = bt
  generalize hbi:isRob t i = bi
  generalize hbj:isRob t j = bj
  have HB:=Lib.hid hbt
  have HI:=Lib.hid hbi
  have HJ:=Lib.hid hbj
  clear hbt hbi hbj hm hok hr hwi hwj hwm hwa
  go_enter Tryz.func28,Tryz.ntmps28
  go_wp2_with fail
  refine Calls.mono (spec_l30Copy_k ⟨⟨Ar,nr,cr⟩,⟨Ac,nc,cc⟩,fr,fc⟩ t _ FT.out ?_) ?_
  · exact HR.out.below (bAlloc (bAlloc (Below.refl _ _) _) _)
  rintro e w1 ⟨⟨⟨Ar1,nr1,cr1⟩,⟨Ac1,nc1,cc1⟩,fr1,fc1⟩,rfl,ho1,hf1,hb1⟩
  have B:=bTrans (bAlloc (bAlloc (Below.refl w.heap.size w) _) _) hb1
  have B1:=Lib.hid B
  have X0:Bx2 w1 w.heap.size (.slice Ar nr cr) (.slice Ac nc cc):=Bx2.below ⟨by go_simp,by go_simp,fun o=>by go_simp⟩ hb1
  have X1:Bx2 w1 (w.heap.size + 1) (.slice none 0 0) (.slice none 0 0):=Bx2.below ⟨by go_simp,by go_simp,fun o=>by go_simp⟩ hb1
  have O:OT (w.heap.size + 2) w1 ⟨⟨Ar1,nr1,cr1⟩,⟨Ac1,nc1,cc1⟩,fr1,fc1⟩ t:=⟨ho1,hf1.rebase (by simp)⟩
  have O1:=Lib.hid O
  have a0:=X0.c0;have a1:=X0.c1;have a2:=X0.lt;have b0:=X1.c0;have b1:=X1.c1;have b2:=X1.fz;have b3:=X1.lt
  have hlt1:=O.lt
  have HSZ:Hid (w.heap.size + 2≤w1.heap.size):=by have h9:=X1.lt;rw [Hid];omega
  clear ho1 hf1
  go_wp2_with fail
  refine Calls.mono (spec_IsTeam_k ⟨⟨Ar,nr,cr⟩,⟨Ac,nc,cc⟩,fr,fc⟩ t _ HM.out HK.out ?_) ?_
  · exact HR.out.below (bAlloc B _)
  rintro e w2 ⟨he,hb2⟩
  rw [HB.out] at he
  subst he
  have X2:Bx2 w2 w1.heap.size (.slice Ar1 nr1 cr1) (.slice Ac1 nc1 cc1):=Bx2.below ⟨by go_simp,by go_simp,fun o=>by go_simp⟩ hb2
  have hbb2:Below w1.heap.size w1 w2:=bTrans (bAlloc (Below.refl _ _) _) hb2
  have X0:=X0.below hbb2
  have X1:=X1.below hbb2
  have O:=O.below hbb2
  have B:=bTrans B hbb2
  clear a0 a1 a2 b0 b1 b2 b3
  have a0:=X0.c0;have a1:=X0.c1;have a2:=X0.lt;have b0:=X1.c0;have b1:=X1.c1;have b2:=X1.fz;have b3:=X1.lt;have c0:=X2.c0;have c1:=X2.c1;have c3:=X2.lt
  cases bt
  · have HF:=Lib.hid (moveT_no1 (i:=i) (j:=j) (m:=m) (a:=a) HB.out)
    go_wp2_with fail
    refine bodyPost_ret (v:=vTeam ⟨⟨Ar1,nr1,cr1⟩,⟨Ac1,nc1,cc1⟩,fr1,fc1⟩) (by simp [*,results,Tryz.results28,go_sem]) rfl ?_
    rw [HF.out]
    exact ⟨⟨⟨Ar1,nr1,cr1⟩,⟨Ac1,nc1,cc1⟩,fr1,fc1⟩,rfl,teamEnd_ B O _ _⟩
  go_wp2_with fail
  refine Calls.mono (spec_l30Robot_c ⟨⟨Ar,nr,cr⟩,⟨Ac,nc,cc⟩,fr,fc⟩ t i _ HL.out HN.out) ?_
  rintro e w3 ⟨he,hb3⟩
  rw [HI.out] at he
  subst he
  have X0:=X0.below hb3
  have X1:=X1.below hb3
  have X2:=X2.below hb3
  have O:=O.below hb3
  have B:=bTrans B hb3
  clear a0 a1 a2 b0 b1 b2 b3 c0 c1 c3
  have a0:=X0.c0;have a1:=X0.c1;have a2:=X0.lt;have b0:=X1.c0;have b1:=X1.c1;have b2:=X1.fz;have b3:=X1.lt;have c0:=X2.c0;have c1:=X2.c1;have c3:=X2.lt
  cases bi
  · have HF:=Lib.hid (moveT_no2 (j:=j) (m:=m) (a:=a) HI.out)
    go_wp2_with fail
    refine bodyPost_ret (v:=vTeam ⟨⟨Ar1,nr1,cr1⟩,⟨Ac1,nc1,cc1⟩,fr1,fc1⟩) (by simp [*,results,Tryz.results28,go_sem]) rfl ?_
    rw [HF.out]
    exact ⟨⟨⟨Ar1,nr1,cr1⟩,⟨Ac1,nc1,cc1⟩,fr1,fc1⟩,rfl,teamEnd_ B O _ _⟩
  go_wp2_with fail
  refine Calls.mono (spec_l30Robot_c ⟨⟨Ar,nr,cr⟩,⟨Ac,nc,cc⟩,fr,fc⟩ t j _ HL.out HN.out) ?_
  rintro e w4 ⟨he,hb4⟩
  rw [HJ.out] at he
  subst he
  have X0:=X0.below hb4
  have X1:=X1.below hb4
  have X2:=X2.below hb4
  have O:=O.below hb4
  have B:=bTrans B hb4
  clear a0 a1 a2 b0 b1 b2 b3 c0 c1 c3
  have a0:=X0.c0;have a1:=X0.c1;have a2:=X0.lt;have b0:=X1.c0;have b1:=X1.c1;have b2:=X1.fz;have b3:=X1.lt;have c0:=X2.c0;have c1:=X2.c1;have c3:=X2.lt
  cases bj
  · have HF:=Lib.hid (moveT_no3 (i:=i) (m:=m) (a:=a) HJ.out)
    go_wp2_with fail
    refine bodyPost_ret (v:=vTeam ⟨⟨Ar1,nr1,cr1⟩,⟨Ac1,nc1,cc1⟩,fr1,fc1⟩) (by simp [*,results,Tryz.results28,go_sem]) rfl ?_
    rw [HF.out]
    exact ⟨⟨⟨Ar1,nr1,cr1⟩,⟨Ac1,nc1,cc1⟩,fr1,fc1⟩,rfl,teamEnd_ B O _ _⟩
  by_cases hij:i = j
  · have hij2:(i == j) = true:=by simpa using hij
    have HF:=Lib.hid (moveT_no4 (t:=t) (m:=m) (a:=a) hij)
    go_wp2_with fail
    refine bodyPost_ret (v:=vTeam ⟨⟨Ar1,nr1,cr1⟩,⟨Ac1,nc1,cc1⟩,fr1,fc1⟩) (by simp [*,results,Tryz.results28,go_sem]) rfl ?_
    rw [HF.out]
    exact ⟨⟨⟨Ar1,nr1,cr1⟩,⟨Ac1,nc1,cc1⟩,fr1,fc1⟩,rfl,teamEnd_ B O _ _⟩
  have g2:=isRob_iff.1 HI.out
  have g3:=isRob_iff.1 HJ.out
  obtain ⟨i,rfl⟩:∃ n:Nat,i = n:=⟨i.toNat,by omega⟩
  obtain ⟨j,rfl⟩:∃ n:Nat,j = n:=⟨j.toNat,by omega⟩
  obtain ⟨p1,p2,p3,p4,p5⟩:=isTeam_parts HB.out
  obtain ⟨row,hi⟩:∃ row,t.channels[i]? = some row:=⟨_,List.getElem?_eq_getElem (by omega)⟩
  have hrm:=List.mem_of_getElem? hi
  have hrl:=(p5 row hrm).1
  obtain ⟨c,hj⟩:∃ c,row[j]? = some c:=⟨_,List.getElem?_eq_getElem (by omega)⟩
  have hcm:=List.mem_of_getElem? hj
  have hbc:=ch_size HMT.out hrm hcm
  have hoc:okC c:=HK.out.2 row hrm c hcm
  have hic:=(p5 row hrm).2 c hcm
  obtain ⟨x,hx⟩:∃ x,t.robots[j]? = some x:=⟨_,List.getElem?_eq_getElem (by omega)⟩
  have hxm:=List.mem_of_getElem? hx
  have hro:=robOk_of HMT.out hxm (p4 x hxm)
  have hbc4:=Nat.le_trans hbc (show 1048576≤4194304 by decide)
  have HF:=Lib.hid (moveT_yes (m:=m) (a:=a) HB.out HI.out HJ.out hij hi hj)
  have hfs:=fewC_step hbc4 hoc m a
  have hts:=((Txt.of hbc4).step m a).i
  obtain ⟨gt,g,vs,vc,hA,p0,hvs,⟨q0,q1,q2,q3,q4,q5⟩,cf,hRd,hln,hg,hgt,hgB,hgtB,hne,hput⟩:=O1.out.ch HSZ.out hi hj
  have HP:=Lib.hid hput
  have hnc1:t.channels.length = nc1:=O.own.c.len.out
  dsimp only at hA
  subst hA
  have hb14:Below w1.heap.size w1 w4:=bTrans (bTrans hbb2 hb3) hb4
  have s4:=hb14.size
  have p0:=bCell hb14 p0
  have q0:=bCell hb14 q0;have q1:=bCell hb14 q1;have q2:=bCell hb14 q2;have q3:=bCell hb14 q3;have q4:=bCell hb14 q4;have q5:=bCell hb14 q5
  have cf:=fun o=>(bBoxF hb14 g hg o).trans (cf o)
  have hRd4:=hRd.below hb14
  have hg4:g < w4.heap.size:=by omega
  have hgt4:gt < w4.heap.size:=by omega
  have hgn1:g≠w1.heap.size:=by omega
  have hgn2:gt≠w1.heap.size:=by omega
  have z0:(0:Int)≤(i:Int):=by omega
  have z1:(i:Int) < (nc1:Int):=by omega
  have z2:(0:Int)≤(j:Int):=by omega
  have z3:(j:Int) < (vs.n:Int):=by omega
  have hijb:((i:Int) == (j:Int)) = false:=by simpa using hij
  clear hput p1 p2 p3 p4 p5 g2 g3 hRd
  go_wp2_with fail
  go_region_law (first | (go_simp;go_at_call 74;refine Calls.mono (spec_StepChannel_k vc c m a _ hbc4 hoc ?_ HWM.out HWA.out) ?_;exact hRd4.below (by repeat (first | with_reducible exact (Below.refl _ _) | with_reducible refine bAlloc ?_ _ | with_reducible refine bDrew ?_ | with_reducible refine bDrewN ?_ _));rintro e w5 ⟨v5,rfl,ho5,hf5,hb5⟩;have hW:=bTrans (show Below w4.heap.size w4 _ from (by repeat (first | with_reducible exact (Below.refl _ _) | with_reducible refine bAlloc ?_ _ | with_reducible refine bDrew ?_ | with_reducible refine bDrewN ?_ _))) hb5;have p0:=bCell hW p0;have q0:=bCell hW q0;have q1:=bCell hW q1;have q2:=bCell hW q2;have q3:=bCell hW q3;have q4:=bCell hW q4;have q5:=bCell hW q5;have cf:=fun o=>(bBoxF hW g hg4 o).trans (cf o);have c0:=bCell hW c0;have c1:=bCell hW c1;have s5:=hW.size;have hg5:g < w5.heap.size:=(by omega);have hgt5:gt < w5.heap.size:=(by omega);have c3:w1.heap.size < w5.heap.size:=(by omega)))
  all_goals
    obtain ⟨⟨v6r,v6c,fr6,fc6⟩,O6,st6,ft6⟩:=HP.out w5 (bTrans hb14 hW) v5 _ ho5 (hf5.rebase (by simp;omega))
    have e1:=st6.r
    have e2:=st6.c
    dsimp only at e1 e2
    subst e1 e2
    have uS:=setChan_upd w5 g j v5 (stepC c m a)
    have B6:=bUpd (bTrans B hW) uS (fun q hq=>by simp at hq;omega)
    have X1:=(X1.below hW).upd uS (by simp;omega)
    have X2:=(X2.below hW).upd uS (by simp;omega)
    obtain ⟨W6,hW6⟩:∃ W6,W6 = setChan w5 g j v5 (stepC c m a):=⟨_,rfl⟩
    rw [← hW6] at O6 st6 B6 X1 X2
    unfold setChan at hW6
    rw [← hW6]
    clear hW6
    have hx6:(setC t i j (stepC c m a)).robots[j]? = some x:=hx
    clear a0 a1 a2 b0 b1 b2 b3 c0 c1 c3 p0 q0 q1 q2 q3 q4 q5 cf uS
    have b0:=X1.c0;have b1:=X1.c1;have b2:=X1.fz;have b3:=X1.lt;have c0:=X2.c0;have c1:=X2.c1;have c3:=X2.lt
    go_wp2_with fail
    have hsr:=setC_row (j:=j) (c:=stepC c m a) hi
    have hjr:(row.set j (stepC c m a))[j]? = some (stepC c m a):=List.getElem?_set_self (List.getElem?_eq_some_iff.1 hj).1
    refine Calls.mono (spec_recv_k w (w.heap.size + 2) 1054336 ⟨⟨Ar1,nr1,cr1⟩,⟨some ⟨gt,0,none⟩,nc1,cc1⟩,fr6,fc6⟩ (setC t i j (stepC c m a)) i j (row.set j (stepC c m a)) (stepC c m a) x W6 O6 (by omega) B6 (by omega) hsr hjr hx6 hro (by decide) hfs hts) ?_
    rintro e w7 ⟨v7,rfl,O7,st7⟩
    rw [← HF.out] at O7
    have hb7:w.heap.size + 1 ∉ fpT (⟨⟨Ar1,nr1,cr1⟩,⟨some ⟨gt,0,none⟩,nc1,cc1⟩,fr6,fc6⟩:TV):=fun hm=>by have:=O6.fr.lo _ hm;omega
    have B7:=bUpd B6 st7.upd (fun q hq=>by have:=O6.fr.lo q hq;omega)
    have X1:=X1.upd st7.upd hb7
    clear b0 b1 b2 b3 c0 c1 c3
    have b0:=X1.c0;have b1:=X1.c1;have b2:=X1.fz;have b3:=X1.lt
    have hb8:w1.heap.size ∉ fpT (⟨⟨Ar1,nr1,cr1⟩,⟨some ⟨gt,0,none⟩,nc1,cc1⟩,fr6,fc6⟩:TV):=fun hm=>by
      rcases ft6 _ hm with h3 | h3
      · have:=hlt1 _ h3;omega
      · have:=hf5.lo _ h3;(try simp at this);omega
    have X2:=X2.upd st7.upd hb8
    have c0:=X2.c0;have c1:=X2.c1
    go_wp2_with fail
    refine bodyPost_ret (v:=.agg #[.slice Ar1 nr1 cr1,.slice (some ⟨gt,0,none⟩) nc1 cc1]) (by simp [*,results,Tryz.results28,go_sem]) rfl ?_
    exact ⟨v7,by simp only [vTeam,st7.r,st7.c],teamEnd_ B7 O7 _ _⟩
end Go.Proofs.YtdfemnffpaopfaaGreatDoor
