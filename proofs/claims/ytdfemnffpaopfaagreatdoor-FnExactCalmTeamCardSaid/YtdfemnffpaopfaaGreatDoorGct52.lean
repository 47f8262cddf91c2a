/- Texts of this proof, one behind the other: TmCS, WCalmTeam. -/
import Derived.Test.YtdfemnffpaopfaaGreatDoorGct48
import Derived.Test.YtdfemnffpaopfaaGreatDoorGct49
import Derived.Test.YtdfemnffpaopfaaGreatDoorGct50
import Derived.Test.YtdfemnffpaopfaaGreatDoorGct51
import Derived.Test.YtdfemnffpaopfaaGreatDoorGct53
namespace Go.Proofs.YtdfemnffpaopfaaGreatDoor
open Go.RowKit
set_option linter.unusedVariables false
set_option linter.unusedSimpArgs false
set_option maxHeartbeats 8000000
set_option maxRecDepth 100000
theorem spec_CalmTeam_k (v:TV) (t:Team) (w:World) (hm:bulkT t≤1048576) (hok:okT t) (hr:RdT w v t) :
    Calls Tryz.prog 29 #[vTeam v] w fun e w'=>∃ v',e=.returned (vTeam v')∧OwT w' v' (calmT t)∧Fresh w.heap.size w' (fpT v')∧Below w.heap.size w w':=by
  have FT:=Lib.hid (fewT_of (Nat.le_trans hm (show 1048576≤4194304 by decide)))
  have HM:=Lib.hid (Nat.le_trans hm (show 1048576≤4194304 by decide))
  have HMT:=Lib.hid hm
  have HK:=Lib.hid hok
  have HR:=Lib.hid hr
  have HL:Hid (t.robots.length=v.r.n):=hr.r.len
  have HN:Hid (v.r.n≤4194304):=by have h1:=fewT_len FT.out;have:=HL.out;rw [Hid];omega

  obtain ⟨⟨Ar,nr,cr⟩,⟨Ac,nc,cc⟩,fr,fc⟩:=v
  generalize hbt:isTeam t=bt
  have HB:=Lib.hid hbt
  clear hbt hm hok hr
  go_enter Tryz.func29,Tryz.ntmps29
  go_wp2_with fail
  refine Calls.mono (spec_l30Copy_k ⟨⟨Ar,nr,cr⟩,⟨Ac,nc,cc⟩,fr,fc⟩ t _ FT.out ?_) ?_
  · exact HR.out.below (bAlloc (bAlloc (Below.refl _ _) _) _)
  rintro e w1 ⟨⟨⟨Ar1,nr1,cr1⟩,⟨Ac1,nc1,cc1⟩,fr1,fc1⟩,rfl,ho1,hf1,hb1⟩
  have B:=bTrans (bAlloc (bAlloc (Below.refl w.heap.size w) _) _) hb1
  have B1:=Lib.hid B
  have X0:Bx2 w1 w.heap.size (.slice Ar nr cr) (.slice Ac nc cc):=Bx2.below ⟨by go_simp,by go_simp,fun o=>by go_simp⟩ hb1
  have X1:Bx2 w1 (w.heap.size+1) (.slice none 0 0) (.slice none 0 0):=Bx2.below ⟨by go_simp,by go_simp,fun o=>by go_simp⟩ hb1
  have O:OT (w.heap.size+2) w1 ⟨⟨Ar1,nr1,cr1⟩,⟨Ac1,nc1,cc1⟩,fr1,fc1⟩ t:=⟨ho1,hf1.rebase (by simp)⟩
  have O1:=Lib.hid O
  have a0:=X0.c0;have a1:=X0.c1;have a2:=X0.lt;have b0:=X1.c0;have b1:=X1.c1;have b2:=X1.fz;have b3:=X1.lt
  have hlt1:=O.lt
  have HSZ:Hid (w.heap.size+2≤w1.heap.size):=by have h9:=X1.lt;rw [Hid];omega
  clear ho1 hf1
  go_wp2_with fail
  refine Calls.mono (spec_IsTeam_k ⟨⟨Ar,nr,cr⟩,⟨Ac,nc,cc⟩,fr,fc⟩ t _ HM.out HK.out ?_) ?_
  · exact HR.out.below (bAlloc B _)
  rintro e w2 ⟨he,hb2⟩
  rw [HB.out] at he
  subst he
  have X2:Bx2 w2 w1.heap.size (.slice Ar1 nr1 cr1) (.slice Ac1 nc1 cc1):=Bx2.below ⟨by go_simp,by go_simp,fun o=>by go_simp⟩ hb2
  have hbb2:Below w1.heap.size w1 w2:=bTrans (bAlloc (Below.refl _ _) _) hb2
  have X0:=X0.below hbb2
  have X1:=X1.below hbb2
  have O:=O.below hbb2
  have B:=bTrans B hbb2
  clear a0 a1 a2 b0 b1 b2 b3
  have a0:=X0.c0;have a1:=X0.c1;have a2:=X0.lt;have b0:=X1.c0;have b1:=X1.c1;have b2:=X1.fz;have b3:=X1.lt;have c0:=X2.c0;have c1:=X2.c1;have c3:=X2.lt
  cases bt
  · have HF:=Lib.hid (calmT_no HB.out)
    go_wp2_with fail
    refine bodyPost_ret (v:=vTeam ⟨⟨Ar1,nr1,cr1⟩,⟨Ac1,nc1,cc1⟩,fr1,fc1⟩) (by simp [*,results,Tryz.results29,go_sem]) rfl ?_
    rw [HF.out]
    exact ⟨⟨⟨Ar1,nr1,cr1⟩,⟨Ac1,nc1,cc1⟩,fr1,fc1⟩,rfl,teamEnd_ B O _ _⟩
  have hn1:t.robots.length=nr1:=O.own.r.len.out
  have hnb1:w1.heap.size ∉ fpT ⟨⟨Ar1,nr1,cr1⟩,⟨Ac1,nc1,cc1⟩,fr1,fc1⟩:=fun hm=>by have:=hlt1 _ hm;omega
  have hc0:=CI.start HB.out HMT.out hn1
  have hpos:=(isTeam_parts HB.out).1
  have hpos3:=(isTeam_parts HB.out).2.1
  obtain ⟨row0,c00,x00,m1,m2,_⟩:=hc0.parts HB.out HMT.out HK.out hn1 (show 0 < nr1 by omega) (show 0 < nr1 by omega)
  obtain ⟨gt,_,_,_,hA,_⟩:=O1.out.ch HSZ.out m1 m2
  have hnc1:t.channels.length=nc1:=O.own.c.len.out
  have hncn:nc1=t.robots.length:=by have:=(isTeam_parts HB.out).2.2.1;omega
  have hnle:nr1≤3:=by omega
  have hncr:Hid (nc1=nr1):=by rw [Hid];omega
  dsimp only at hA
  subst hA
  have HN1:=Lib.hid hn1
  have HFIN:=Lib.hid (calmT_yes HB.out hn1)
  have hcw0:CW w w1 w2 (.slice Ar1 nr1 cr1) (.slice (some ⟨gt,0,none⟩) nc1 cc1) ⟨Ar1,nr1,cr1⟩ ⟨some ⟨gt,0,none⟩,nc1,cc1⟩ ⟨⟨Ar1,nr1,cr1⟩,⟨some ⟨gt,0,none⟩,nc1,cc1⟩,fr1,fc1⟩ t:=⟨X1,X2,O,rfl,rfl,hnb1,B⟩
  clear m1 m2 hnc1 hncn hn1 hnb1 hpos hpos3 X0 O1
  go_wp2_with fail
  clear a0 a1 a2 b0 b1 b2 b3 c0 c1 c3 X1 X2
  go_loopw [15,4,5] (fun iv y4 y5 wr=>∃ (i:Nat) (v':TV) (u:Team),i≤nr1∧iv=.int .i64 i∧CW w w1 wr (.slice Ar1 nr1 cr1) (.slice (some ⟨gt,0,none⟩) nc1 cc1) ⟨Ar1,nr1,cr1⟩ ⟨some ⟨gt,0,none⟩,nc1,cc1⟩ v' u∧CI t nr1 i 0 u∧Hid (u=calmA nr1 i t)) (fun iv _ _ _=>nr1 - (intOf iv).toNat)
  case atStart=>exact ⟨0,_,t,by omega,rfl,hcw0,hc0,rfl⟩
  case round =>
    obtain ⟨i,v',u,hi,rfl,hcw,hci,he⟩:=hrel
    have c0:=hcw.x2.c0;have c1:=hcw.x2.c1;have c3:=hcw.x2.lt;have b0:=hcw.x1.c0;have b1:=hcw.x1.c1;have b2:=hcw.x1.fz;have b3:=hcw.x1.lt
    by_cases hlt:i < nr1
    · have z0:(0:Int)≤(i:Int):=by omega
      go_wp2_with fail
      clear c0 c1 c3 b0 b1 b2 b3
      go_loopw [21,5] (fun jv y5 wr=>∃ (j:Nat) (v':TV) (u:Team),j≤nr1∧jv=.int .i64 j∧CW w w1 wr (.slice Ar1 nr1 cr1) (.slice (some ⟨gt,0,none⟩) nc1 cc1) ⟨Ar1,nr1,cr1⟩ ⟨some ⟨gt,0,none⟩,nc1,cc1⟩ v' u∧CI t nr1 i j u∧Hid (u=calmJ i j (calmA nr1 i t))) (fun jv _ _=>nr1 - (intOf jv).toNat)
      case atStart=>exact ⟨0,v',u,by omega,rfl,hcw,hci,he⟩
      case round =>
        clear hcw hci he
        obtain ⟨j,v',u,hj,rfl,hcw,hci,he⟩:=hrel
        obtain ⟨wo,rfl⟩:∃ wo:World,wo=wr:=⟨_,rfl⟩
        have c0:=hcw.x2.c0;have c1:=hcw.x2.c1;have c3:=hcw.x2.lt
        by_cases hjl:j < nr1
        · by_cases hij:i=j
          · subst hij
            go_wp2_with fail
            go_roundw
            case rel=>exact ⟨i+1,v',u,by omega,by go_num,hcw,hci.skip,he.out.trans (calm1_same _ _).symm⟩
            case measure=>simp [intOf];omega
          · obtain ⟨row,c,x,k1,k2,k3,k4,k5,k6,k7,k8⟩:=hci.parts HB.out HMT.out HK.out HN1.out hlt hjl
            have hbc4:=Nat.le_trans k6 (show 1048576≤4194304 by decide)
            have hci2:=hci.step k1 k2 k3 (short_calm k5 hbc4 k7) hij
            have hfc:=fewC_calm hbc4 k7
            have hts:=((Txt.of hbc4).calm).i
            have HRV:=Lib.hid (calm1_ne' hij k1 k2)
            have hszo:w.heap.size+2≤wo.heap.size:=by have:=HSZ.out;omega
            obtain ⟨gt2,g,vs,vc,hA,p0,hvs,⟨q0,q1,q2,q3,q4,q5⟩,cf,hRd,hln,hg,hgt,hgB,hgtB,hne,hput⟩:=hcw.o.ch hszo k1 k2
            have hgm:g∈fpT v':=hcw.o.ch_mem hszo k1 k2 hA p0
            have hgn1:g≠w1.heap.size:=fun e=>hcw.nb (e ▸ hgm)
            rw [hcw.c] at hA
            obtain rfl:gt=gt2:=by simpa using hA
            have HP:=Lib.hid hput
            have hicl:i < nc1:=by have:=hncr.out;omega
            have hijn:¬ (i:Int)=(j:Int):=by omega
            have z1:(i:Int) < (nc1:Int):=by omega
            have z2:(0:Int)≤(j:Int):=by omega
            have z3:(j:Int) < (vs.n:Int):=by omega
            clear hput hA hln
            go_wp2_with fail
            go_region_law (first | (go_simp;go_at_call 76;refine Calls.mono (spec_CalmChannel_k vc c _ hbc4 k7 ?_) ?_;exact hRd.below (by repeat (first | with_reducible exact (Below.refl _ _) | with_reducible refine bAlloc ?_ _ | with_reducible refine bDrew ?_ | with_reducible refine bDrewN ?_ _));rintro e w5 ⟨v5,rfl,ho5,hf5,hb5⟩;have hW:=bTrans (show Below wo.heap.size wo _ from (by repeat (first | with_reducible exact (Below.refl _ _) | with_reducible refine bAlloc ?_ _ | with_reducible refine bDrew ?_ | with_reducible refine bDrewN ?_ _))) hb5;have p0:=bCell hW p0;have q0:=bCell hW q0;have q1:=bCell hW q1;have q2:=bCell hW q2;have q3:=bCell hW q3;have q4:=bCell hW q4;have q5:=bCell hW q5;have cf:=fun o=>(bBoxF hW g hg o).trans (cf o);have c0:=bCell hW c0;have c1:=bCell hW c1;have s5:=hW.size;have hg5:g < w5.heap.size:=(by omega);have hgt5:gt < w5.heap.size:=(by omega);have c4:w1.heap.size < w5.heap.size:=(by omega)))
            all_goals
              obtain ⟨⟨v6r,v6c,fr6,fc6⟩,O6,st6,ft6⟩:=HP.out w5 hW v5 _ ho5 (hf5.rebase (by simp))
              have e1:=st6.r.trans hcw.r
              have e2:=st6.c.trans hcw.c
              dsimp only at e1 e2
              subst e1 e2
              have uS:=setChan_upd w5 g j v5 (calmC c)
              have B6:=bUpd (bTrans hcw.b hW) uS (fun q hq=>by simp at hq;omega)
              have X1:=(hcw.x1.below hW).upd uS (by simp;omega)
              have X2:=(hcw.x2.below hW).upd uS (by simp;omega)
              have hnb6:w1.heap.size ∉ fpT (⟨⟨Ar1,nr1,cr1⟩,⟨some ⟨gt,0,none⟩,nc1,cc1⟩,fr6,fc6⟩:TV):=fun hm=>by
                rcases ft6 _ hm with h3 | h3
                · exact hcw.nb h3
                · have:=hf5.lo _ h3;(try simp at this);omega
              obtain ⟨W6,hW6⟩:∃ W6,W6=setChan w5 g j v5 (calmC c):=⟨_,rfl⟩
              rw [← hW6] at O6 st6 B6 X1 X2
              have s6:w1.heap.size < W6.heap.size:=X2.lt
              unfold setChan at hW6
              rw [← hW6]
              clear hW6 c0 c1 p0 q0 q1 q2 q3 q4 q5 cf uS
              have c0:=X2.c0;have c1:=X2.c1
              have hx6:(setC u i j (calmC c)).robots[j]? = some x:=k3
              have hsr:=setC_row (j:=j) (c:=calmC c) k1
              have hjr:(row.set j (calmC c))[j]? = some (calmC c):=List.getElem?_set_self (List.getElem?_eq_some_iff.1 k2).1
              go_wp2_with fail
              refine Calls.mono (spec_recv_k w (w.heap.size+2) 1054336 ⟨⟨Ar1,nr1,cr1⟩,⟨some ⟨gt,0,none⟩,nc1,cc1⟩,fr6,fc6⟩ (setC u i j (calmC c)) i j (row.set j (calmC c)) (calmC c) x W6 O6 (by have:=HSZ.out;omega) B6 (by omega) hsr hjr hx6 k4 (by decide) hfc hts) ?_
              rintro e w7 ⟨⟨v7r,v7c,fr7,fc7⟩,rfl,O7,st7⟩
              rw [← HRV.out] at O7
              have f1:=st7.r
              have f2:=st7.c
              dsimp only at f1 f2
              subst f1 f2
              have hb7:w.heap.size+1 ∉ fpT (⟨⟨Ar1,nr1,cr1⟩,⟨some ⟨gt,0,none⟩,nc1,cc1⟩,fr6,fc6⟩:TV):=fun hm=>by have:=O6.fr.lo _ hm;omega
              have hnb7:w1.heap.size ∉ fpT (⟨⟨Ar1,nr1,cr1⟩,⟨some ⟨gt,0,none⟩,nc1,cc1⟩,fr7,fc7⟩:TV):=fun hm=>by
                rcases st7.foot _ hm with h3 | h3
                · exact hnb6 h3
                · omega
              have B7:=bUpd B6 st7.upd (fun q hq=>by have:=O6.fr.lo q hq;omega)
              have X1:=X1.upd st7.upd hb7
              have X2:=X2.upd st7.upd hnb6
              have hcw7:CW w w1 w7 (.slice Ar1 nr1 cr1) (.slice (some ⟨gt,0,none⟩) nc1 cc1) ⟨Ar1,nr1,cr1⟩ ⟨some ⟨gt,0,none⟩,nc1,cc1⟩ ⟨⟨Ar1,nr1,cr1⟩,⟨some ⟨gt,0,none⟩,nc1,cc1⟩,fr7,fc7⟩ (calm1T u (i,j)):=⟨X1,X2,O7,rfl,rfl,hnb7,B7⟩
              have heq:calm1T u (i,j)=calmJ i (j+1) (calmA nr1 i t):=by rw [he.out];rfl
              have HEQ:=Lib.hid heq
              clear c0 c1 heq
              have c0:=X2.c0;have c1:=X2.c1;have c2:=X2.fz;have c3':=X2.lt
              go_wp2_with fail
              go_roundw
              case rel=>exact ⟨j+1,_,_,by omega,by go_num,hcw7,hci2,HEQ⟩
              case measure=>simp [intOf];omega
        · obtain rfl:j=nr1:=by omega
          go_wp2_with fail
          go_roundw
          case rel=>exact ⟨i+1,v',u,by omega,by go_num,hcw,hci.next,he⟩
          case measure=>simp [intOf];omega
    · obtain rfl:nr1=i:=by omega
      have he2:=he.out
      go_wp2_with fail
      refine bodyPost_ret (v:=.agg #[.slice Ar1 nr1 cr1,.slice (some ⟨gt,0,none⟩) nc1 cc1]) (by simp [*,results,Tryz.results29,go_sem]) rfl ?_
      rw [HFIN.out,← he2]
      exact ⟨v',by simp only [vTeam,hcw.r,hcw.c],teamEnd_ hcw.b hcw.o _ _⟩
theorem w_FnExactCalmTeam (W:World) (v0:TV) (d0:Team) (hr0:RdT W v0 d0) (hok0:okT d0) (hl0:lenT v0) (hT:TabJ W) :
    Calls Tryz.prog 7 #[vTeam v0] W fun e w'=>e=rBool true∧Below W.heap.size W w':=by
  have HT:=Lib.hid hT
  clear hT
  go_enter Tryz.func7,Tryz.ntmps7
  go_wp2_with fail
  refine Calls.mono (szTeam_k v0 d0 _ _ (by omega) (by omega) hl0 hok0 ?_) ?_
  · exact hr0.below (by repeat (first | with_reducible exact Below.refl _ _ | with_reducible refine bAlloc ?_ _))
  rintro e w1 ⟨⟨r0,rfl,hp⟩,hb1⟩
  have hk1:Below W.heap.size W w1:=bTrans (by repeat (first | with_reducible exact Below.refl _ _ | with_reducible refine bAlloc ?_ _)) hb1
  have hs1:=hk1.size
  have hz1:=hb1.size
  (try simp at hz1)
  have kb1_a0:=bBox hb1 (W.heap.size) (by first | omega | (simp;done) | (simp;omega))
  have hlt1_a0:W.heap.size < w1.heap.size:=by omega
  have H:=bTrans (Below.refl _ W) hk1
  rcases hp with rfl | ⟨hp0,hp1⟩
  · go_wp2_with fail
    go_ret
    exact ⟨rfl,H⟩
  have hrl0:r0≤1048576:=by have:=hp1.out;omega
  have hr00:0≤r0:=hp0
  have hm0:bulkT d0≤1048576:=by have:=hp1.out;omega
  have HM0:=Lib.hid hm0
  have hfw0:=fewT_of (Nat.le_trans hm0 (by decide))
  clear hp0 hp1
  go_wp2_with fail
  refine Calls.mono (toTeam_k v0 d0 _ hfw0 ?_) ?_
  · exact hr0.below (by repeat (first | with_reducible exact H | with_reducible refine bAlloc ?_ _))
  rintro e w2 ⟨v_x1,rfl,ho_x1,hf_x1,hb2⟩
  have hk2:Below w1.heap.size w1 w2:=bTrans (by repeat (first | with_reducible exact Below.refl _ _ | with_reducible refine bAlloc ?_ _)) hb2
  have hs2:=hk2.size
  have hz2:=hb2.size
  (try simp at hz2)
  have kb2_a0:=bBox hk2 (W.heap.size) (by omega)
  have hlt2_a0:W.heap.size < w2.heap.size:=by omega
  have H:=bTrans H hk2
  have hlo_x1:Hid (∀ q∈fpT v_x1,w1.heap.size≤q):=fun q hq=>by have h1:=hf_x1.lo q hq;(try simp at h1);omega
  have hhi_x1:Hid (∀ q∈fpT v_x1,q < w2.heap.size):=hf_x1.hi
  go_wp2_with fail
  refine Calls.mono (spec_CalmTeam_k v_x1 d0 _ HM0.out hok0 ?_) ?_
  · exact (ho_x1.rd.below (by repeat (first | with_reducible exact Below.refl _ _ | with_reducible refine bAlloc ?_ _)))
  rintro e w3 ⟨v_w0,rfl,ho_w0,hf_w0,hb3⟩
  have hk3:Below w2.heap.size w2 w3:=bTrans (by repeat (first | with_reducible exact Below.refl _ _ | with_reducible refine bAlloc ?_ _)) hb3
  have hs3:=hk3.size
  have hz3:=hb3.size
  (try simp at hz3)
  have kb3_a0:=bBox hk3 (W.heap.size) (by omega)
  have hlt3_a0:W.heap.size < w3.heap.size:=by omega
  have ho_x1:=ho_x1.below hk3
  have H:=bTrans H hk3
  have hlo_w0:Hid (∀ q∈fpT v_w0,w2.heap.size≤q):=fun q hq=>by have h1:=hf_w0.lo q hq;(try simp at h1);omega
  have hhi_w0:Hid (∀ q∈fpT v_w0,q < w3.heap.size):=hf_w0.hi
  go_wp2_with fail
  refine Calls.mono (toTeam_k v0 d0 _ hfw0 ?_) ?_
  · exact hr0.below (by repeat (first | with_reducible exact H | with_reducible refine bAlloc ?_ _))
  rintro e w4 ⟨v_x2,rfl,ho_x2,hf_x2,hb4⟩
  have hk4:Below w3.heap.size w3 w4:=bTrans (by repeat (first | with_reducible exact Below.refl _ _ | with_reducible refine bAlloc ?_ _)) hb4
  have hs4:=hk4.size
  have hz4:=hb4.size
  (try simp at hz4)
  have kb4_a0:=bBox hk4 (W.heap.size) (by omega)
  have kb4_w0:=bBox hb4 (w3.heap.size) (by first | omega | (simp;done) | (simp;omega))
  have hlt4_a0:W.heap.size < w4.heap.size:=by omega
  have hlt4_w0:w3.heap.size < w4.heap.size:=by omega
  have ho_x1:=ho_x1.below hk4
  have ho_w0:=ho_w0.below hk4
  have H:=bTrans H hk4
  have hlo_x2:Hid (∀ q∈fpT v_x2,w3.heap.size+1≤q):=fun q hq=>by have h1:=hf_x2.lo q hq;(try simp at h1);omega
  have hhi_x2:Hid (∀ q∈fpT v_x2,q < w4.heap.size):=hf_x2.hi
  go_wp2_with fail
  refine Calls.mono (impl_CalmTeam_k v_x2 d0 _ HM0.out hok0 ?_ ?_) ?_
  · exact (ho_x2.rd.below (by repeat (first | with_reducible exact Below.refl _ _ | with_reducible refine bAlloc ?_ _)))
  · exact HT.out.below (by repeat (first | with_reducible exact H | with_reducible refine bAlloc ?_ _))
  rintro e w5 ⟨v_g0,rfl,ho_g0,hf_g0,hb5⟩
  have hk5:Below w4.heap.size w4 w5:=bTrans (by repeat (first | with_reducible exact Below.refl _ _ | with_reducible refine bAlloc ?_ _)) hb5
  have hs5:=hk5.size
  have hz5:=hb5.size
  (try simp at hz5)
  have kb5_a0:=bBox hk5 (W.heap.size) (by omega)
  have kb5_w0:=bBox hk5 (w3.heap.size) (by omega)
  have kb5_x0v:=bBox hb5 (w4.heap.size) (by first | omega | (simp;done) | (simp;omega))
  have hlt5_a0:W.heap.size < w5.heap.size:=by omega
  have hlt5_w0:w3.heap.size < w5.heap.size:=by omega
  have hlt5_x0v:w4.heap.size < w5.heap.size:=by omega
  have ho_x1:=ho_x1.below hk5
  have ho_w0:=ho_w0.below hk5
  have ho_x2:=ho_x2.below hk5
  have H:=bTrans H hk5
  have hlo_g0:Hid (∀ q∈fpT v_g0,w4.heap.size+1≤q):=fun q hq=>by have h1:=hf_g0.lo q hq;(try simp at h1);omega
  have hhi_g0:Hid (∀ q∈fpT v_g0,q < w5.heap.size):=hf_g0.hi
  go_wp2_with fail
  refine Calls.mono (eqTeam_k v_g0 v_w0 (calmT d0) _ (fewT_calmT HM0.out hok0) ?_ ?_) ?_
  · exact (ho_g0.rd.below (by repeat (first | with_reducible exact Below.refl _ _ | with_reducible refine bAlloc ?_ _)))
  · exact (ho_w0.rd.below (by repeat (first | with_reducible exact Below.refl _ _ | with_reducible refine bAlloc ?_ _)))
  rintro e w6 ⟨rfl,hb6⟩
  have hk6:Below w5.heap.size w5 w6:=bTrans (by repeat (first | with_reducible exact Below.refl _ _ | with_reducible refine bAlloc ?_ _)) hb6
  have hs6:=hk6.size
  have hz6:=hb6.size
  (try simp at hz6)
  have kb6_a0:=bBox hk6 (W.heap.size) (by omega)
  have kb6_w0:=bBox hk6 (w3.heap.size) (by omega)
  have kb6_x0v:=bBox hk6 (w4.heap.size) (by omega)
  have kb6_g0:=bBox hb6 (w5.heap.size) (by first | omega | (simp;done) | (simp;omega))
  have hlt6_a0:W.heap.size < w6.heap.size:=by omega
  have hlt6_w0:w3.heap.size < w6.heap.size:=by omega
  have hlt6_x0v:w4.heap.size < w6.heap.size:=by omega
  have hlt6_g0:w5.heap.size < w6.heap.size:=by omega
  have ho_x1:=ho_x1.below hk6
  have ho_w0:=ho_w0.below hk6
  have ho_x2:=ho_x2.below hk6
  have ho_g0:=ho_g0.below hk6
  have H:=bTrans H hk6
  go_wp2_with fail
  refine region_at fun R6 hW6=>?_
  have hr6r:Below w6.heap.size w6 R6:=by rw [hW6.out];exact (by repeat (first | with_reducible exact Below.refl _ _ | with_reducible refine bAlloc ?_ _))
  have Hr6:=bTrans H hr6r
  have kr6_x0v:=bBox hr6r (w4.heap.size) (by omega)
  have g6_0:R6.cell? ⟨w4.heap.size,0,none⟩=some (.slice v_x2.r.A v_x2.r.n v_x2.r.c):=by rw [kr6_x0v,kb6_x0v,kb5_x0v];simp
  have g6_1:R6.cell? ⟨w4.heap.size,1,none⟩=some (.slice v_x2.c.A v_x2.c.n v_x2.c.c):=by rw [kr6_x0v,kb6_x0v,kb5_x0v];simp
  have kr6_a0:=bBox hr6r (W.heap.size) (by omega)
  have g6_2:R6.cell? ⟨W.heap.size,0,none⟩=some (.slice v0.r.A v0.r.n v0.r.c):=by rw [kr6_a0,kb6_a0,kb5_a0,kb4_a0,kb3_a0,kb2_a0,kb1_a0];simp
  have g6_3:R6.cell? ⟨W.heap.size,1,none⟩=some (.slice v0.c.A v0.c.n v0.c.c):=by rw [kr6_a0,kb6_a0,kb5_a0,kb4_a0,kb3_a0,kb2_a0,kb1_a0];simp
  have hzr6:=hr6r.size
  go_region_held3 (fun w'=>w'.cell? ⟨w4.heap.size,0,none⟩=some (.slice v_x2.r.A v_x2.r.n v_x2.r.c)∧w'.cell? ⟨w4.heap.size,1,none⟩=some (.slice v_x2.c.A v_x2.c.n v_x2.c.c)∧w'.cell? ⟨W.heap.size,0,none⟩=some (.slice v0.r.A v0.r.n v0.r.c)∧w'.cell? ⟨W.heap.size,1,none⟩=some (.slice v0.c.A v0.c.n v0.c.c)) (first | go_keep | ((repeat' apply And.intro) <;> (first | exact bCell hb8 (bCell hb7 (by assumption)) | exact bCell hb7 (by assumption) | exact bCell hb7 (by assumption) | exact bCell hb8 (by assumption)))) ((first | (go_at_call 21;refine (toTeam_k v0 d0 _ hfw0 (hr0.below (bDrew Hr6))).mono ?_;rintro e w7 ⟨v_x3,rfl,ho_x3,hf_x3,hb7⟩) | (go_at_call 22;refine (eqTeam_k v_x2 v_x3 d0 _ hfw0 (ho_x2.rd.below (bTrans (bDrew hr6r) hb7)) ho_x3.rd).mono ?_;rintro e w8 ⟨rfl,hb8⟩)))
  have hk7:Below w6.heap.size w6 w7:=bTrans (bDrew hr6r) hb7
  have hs7:=hk7.size
  have hz7:=hb7.size
  (try simp at hz7)
  have hk8:Below w7.heap.size w7 w8:=hb8
  have hs8:=hk8.size
  have kb8_a0:∀ o,w8.cell? ⟨W.heap.size,o,none⟩=w6.cell? ⟨W.heap.size,o,none⟩:=fun o=>(bBox hk8 (W.heap.size) (by omega) o).trans (bBox hk7 (W.heap.size) (by omega) o)
  have kb8_w0:∀ o,w8.cell? ⟨w3.heap.size,o,none⟩=w6.cell? ⟨w3.heap.size,o,none⟩:=fun o=>(bBox hk8 (w3.heap.size) (by omega) o).trans (bBox hk7 (w3.heap.size) (by omega) o)
  have kb8_x0v:∀ o,w8.cell? ⟨w4.heap.size,o,none⟩=w6.cell? ⟨w4.heap.size,o,none⟩:=fun o=>(bBox hk8 (w4.heap.size) (by omega) o).trans (bBox hk7 (w4.heap.size) (by omega) o)
  have kb8_g0:∀ o,w8.cell? ⟨w5.heap.size,o,none⟩=w6.cell? ⟨w5.heap.size,o,none⟩:=fun o=>(bBox hk8 (w5.heap.size) (by omega) o).trans (bBox hk7 (w5.heap.size) (by omega) o)
  have hlt8_a0:W.heap.size < w8.heap.size:=by omega
  have hlt8_w0:w3.heap.size < w8.heap.size:=by omega
  have hlt8_x0v:w4.heap.size < w8.heap.size:=by omega
  have hlt8_g0:w5.heap.size < w8.heap.size:=by omega
  have ho_x1:=((ho_x1.below hk7).below hk8)
  have ho_w0:=((ho_w0.below hk7).below hk8)
  have ho_x2:=((ho_x2.below hk7).below hk8)
  have ho_g0:=((ho_g0.below hk7).below hk8)
  have hlo_x3:Hid (∀ q∈fpT v_x3,w6.heap.size≤q):=fun q hq=>by have h1:=hf_x3.lo q hq;(try simp at h1);omega
  have hhi_x3:Hid (∀ q∈fpT v_x3,q < w7.heap.size):=hf_x3.hi
  have ho_x3:=(ho_x3.below hk8)
  have H:=(bTrans (bTrans H hk7) hk8)
  go_wp2_with fail
  refine Calls.mono (markTeam_k v_x2 d0 _ _ (by omega) (by omega) hfw0 ?_ hf_x2.nodup) ?_
  · exact (ho_x2.below (by repeat (first | with_reducible exact Below.refl _ _ | with_reducible refine bAlloc ?_ _)))
  rintro e w9 ⟨rfl,ho_x2n,hu9⟩
  have hv9:Upd (fpT v_x2) w8 w9:=(Upd.of_below (by repeat (first | with_reducible exact Below.refl _ _ | with_reducible refine bAlloc ?_ _))).trans hu9
  have hs9:=hv9.size
  have hz9:=hu9.size
  (try simp at hz9)
  have kb9_a0:=uBox hv9 (W.heap.size) (by omega) (fun hm=>by have h1:=hlo_x2.out _ hm;have h2:=hhi_x2.out _ hm;omega)
  have kb9_w0:=uBox hv9 (w3.heap.size) (by omega) (fun hm=>by have h1:=hlo_x2.out _ hm;have h2:=hhi_x2.out _ hm;omega)
  have kb9_x0v:=uBox hv9 (w4.heap.size) (by omega) (fun hm=>by have h1:=hlo_x2.out _ hm;have h2:=hhi_x2.out _ hm;omega)
  have kb9_g0:=uBox hv9 (w5.heap.size) (by omega) (fun hm=>by have h1:=hlo_x2.out _ hm;have h2:=hhi_x2.out _ hm;omega)
  have hlt9_a0:W.heap.size < w9.heap.size:=by omega
  have hlt9_w0:w3.heap.size < w9.heap.size:=by omega
  have hlt9_x0v:w4.heap.size < w9.heap.size:=by omega
  have hlt9_g0:w5.heap.size < w9.heap.size:=by omega
  have ho_x1:=ho_x1.upd hv9 (fun q hq hm=>by have h1:=hlo_x1.out q hq;have h2:=hhi_x1.out q hq;have h3:=hlo_x2.out q hm;have h4:=hhi_x2.out q hm;omega)
  have ho_w0:=ho_w0.upd hv9 (fun q hq hm=>by have h1:=hlo_w0.out q hq;have h2:=hhi_w0.out q hq;have h3:=hlo_x2.out q hm;have h4:=hhi_x2.out q hm;omega)
  have ho_g0:=ho_g0.upd hv9 (fun q hq hm=>by have h1:=hlo_g0.out q hq;have h2:=hhi_g0.out q hq;have h3:=hlo_x2.out q hm;have h4:=hhi_x2.out q hm;omega)
  have ho_x3:=ho_x3.upd hv9 (fun q hq hm=>by have h1:=hlo_x3.out q hq;have h2:=hhi_x3.out q hq;have h3:=hlo_x2.out q hm;have h4:=hhi_x2.out q hm;omega)
  have H:=bUpd H hv9 (fun q hq=>by have h1:=hlo_x2.out q hq;omega)
  have ho_x2:=ho_x2n
  clear ho_x2n
  have hc9:=cntT_few (show fewT d0 from hfw0)
  go_wp2_with fail
  refine Calls.mono (eqTeam_k v_g0 v_w0 (calmT d0) _ (fewT_calmT HM0.out hok0) ?_ ?_) ?_
  · exact (ho_g0.rd.below (by repeat (first | with_reducible exact Below.refl _ _ | with_reducible refine bAlloc ?_ _)))
  · exact (ho_w0.rd.below (by repeat (first | with_reducible exact Below.refl _ _ | with_reducible refine bAlloc ?_ _)))
  rintro e w10 ⟨rfl,hb10⟩
  have hk10:Below w9.heap.size w9 w10:=bTrans (by repeat (first | with_reducible exact Below.refl _ _ | with_reducible refine bAlloc ?_ _)) hb10
  have hs10:=hk10.size
  have hz10:=hb10.size
  (try simp at hz10)
  have kb10_a0:=bBox hk10 (W.heap.size) (by omega)
  have kb10_w0:=bBox hk10 (w3.heap.size) (by omega)
  have kb10_x0v:=bBox hk10 (w4.heap.size) (by omega)
  have kb10_g0:=bBox hk10 (w5.heap.size) (by omega)
  have hlt10_a0:W.heap.size < w10.heap.size:=by omega
  have hlt10_w0:w3.heap.size < w10.heap.size:=by omega
  have hlt10_x0v:w4.heap.size < w10.heap.size:=by omega
  have hlt10_g0:w5.heap.size < w10.heap.size:=by omega
  have ho_x1:=ho_x1.below hk10
  have ho_w0:=ho_w0.below hk10
  have ho_x2:=ho_x2.below hk10
  have ho_g0:=ho_g0.below hk10
  have ho_x3:=ho_x3.below hk10
  have H:=bTrans H hk10
  go_wp2_with fail
  refine Calls.mono (markTeam_k v_g0 (calmT d0) _ _ (by omega) (by omega) (fewT_calmT HM0.out hok0) ?_ hf_g0.nodup) ?_
  · exact (ho_g0.below (by repeat (first | with_reducible exact Below.refl _ _ | with_reducible refine bAlloc ?_ _)))
  rintro e w11 ⟨rfl,ho_g0n,hu11⟩
  have hv11:Upd (fpT v_g0) w10 w11:=(Upd.of_below (by repeat (first | with_reducible exact Below.refl _ _ | with_reducible refine bAlloc ?_ _))).trans hu11
  have hs11:=hv11.size
  have hz11:=hu11.size
  (try simp at hz11)
  have kb11_a0:=uBox hv11 (W.heap.size) (by omega) (fun hm=>by have h1:=hlo_g0.out _ hm;have h2:=hhi_g0.out _ hm;omega)
  have kb11_w0:=uBox hv11 (w3.heap.size) (by omega) (fun hm=>by have h1:=hlo_g0.out _ hm;have h2:=hhi_g0.out _ hm;omega)
  have kb11_x0v:=uBox hv11 (w4.heap.size) (by omega) (fun hm=>by have h1:=hlo_g0.out _ hm;have h2:=hhi_g0.out _ hm;omega)
  have kb11_g0:=uBox hv11 (w5.heap.size) (by omega) (fun hm=>by have h1:=hlo_g0.out _ hm;have h2:=hhi_g0.out _ hm;omega)
  have hlt11_a0:W.heap.size < w11.heap.size:=by omega
  have hlt11_w0:w3.heap.size < w11.heap.size:=by omega
  have hlt11_x0v:w4.heap.size < w11.heap.size:=by omega
  have hlt11_g0:w5.heap.size < w11.heap.size:=by omega
  have ho_x1:=ho_x1.upd hv11 (fun q hq hm=>by have h1:=hlo_x1.out q hq;have h2:=hhi_x1.out q hq;have h3:=hlo_g0.out q hm;have h4:=hhi_g0.out q hm;omega)
  have ho_w0:=ho_w0.upd hv11 (fun q hq hm=>by have h1:=hlo_w0.out q hq;have h2:=hhi_w0.out q hq;have h3:=hlo_g0.out q hm;have h4:=hhi_g0.out q hm;omega)
  have ho_x2:=ho_x2.upd hv11 (fun q hq hm=>by have h1:=hlo_x2.out q hq;have h2:=hhi_x2.out q hq;have h3:=hlo_g0.out q hm;have h4:=hhi_g0.out q hm;omega)
  have ho_x3:=ho_x3.upd hv11 (fun q hq hm=>by have h1:=hlo_x3.out q hq;have h2:=hhi_x3.out q hq;have h3:=hlo_g0.out q hm;have h4:=hhi_g0.out q hm;omega)
  have H:=bUpd H hv11 (fun q hq=>by have h1:=hlo_g0.out q hq;omega)
  have ho_g0:=ho_g0n
  clear ho_g0n
  have hc11:=cntT_few (show fewT (calmT d0) from (fewT_calmT HM0.out hok0))
  go_wp2_with fail
  refine Calls.mono (heldTeam_k v_g0 (calmT d0) _ _ (by omega) (by omega) (fewT_calmT HM0.out hok0) ?_) ?_
  · exact (ho_g0.rd.below (by repeat (first | with_reducible exact Below.refl _ _ | with_reducible refine bAlloc ?_ _)))
  rintro e w12 ⟨rfl,hb12⟩
  have hk12:Below w11.heap.size w11 w12:=bTrans (by repeat (first | with_reducible exact Below.refl _ _ | with_reducible refine bAlloc ?_ _)) hb12
  have hs12:=hk12.size
  have hz12:=hb12.size
  (try simp at hz12)
  have kb12_a0:=bBox hk12 (W.heap.size) (by omega)
  have kb12_w0:=bBox hk12 (w3.heap.size) (by omega)
  have kb12_x0v:=bBox hk12 (w4.heap.size) (by omega)
  have kb12_g0:=bBox hk12 (w5.heap.size) (by omega)
  have hlt12_a0:W.heap.size < w12.heap.size:=by omega
  have hlt12_w0:w3.heap.size < w12.heap.size:=by omega
  have hlt12_x0v:w4.heap.size < w12.heap.size:=by omega
  have hlt12_g0:w5.heap.size < w12.heap.size:=by omega
  have ho_x1:=ho_x1.below hk12
  have ho_w0:=ho_w0.below hk12
  have ho_x2:=ho_x2.below hk12
  have ho_g0:=ho_g0.below hk12
  have ho_x3:=ho_x3.below hk12
  have H:=bTrans H hk12
  go_wp2_with fail
  refine Calls.mono (toTeam_k v0 d0 _ hfw0 ?_) ?_
  · exact hr0.below (by repeat (first | with_reducible exact H | with_reducible refine bAlloc ?_ _))
  rintro e w13 ⟨v_x4,rfl,ho_x4,hf_x4,hb13⟩
  have hk13:Below w12.heap.size w12 w13:=bTrans (by repeat (first | with_reducible exact Below.refl _ _ | with_reducible refine bAlloc ?_ _)) hb13
  have hs13:=hk13.size
  have hz13:=hb13.size
  (try simp at hz13)
  have kb13_a0:=bBox hk13 (W.heap.size) (by omega)
  have kb13_w0:=bBox hk13 (w3.heap.size) (by omega)
  have kb13_x0v:=bBox hk13 (w4.heap.size) (by omega)
  have kb13_g0:=bBox hk13 (w5.heap.size) (by omega)
  have hlt13_a0:W.heap.size < w13.heap.size:=by omega
  have hlt13_w0:w3.heap.size < w13.heap.size:=by omega
  have hlt13_x0v:w4.heap.size < w13.heap.size:=by omega
  have hlt13_g0:w5.heap.size < w13.heap.size:=by omega
  have ho_x1:=ho_x1.below hk13
  have ho_w0:=ho_w0.below hk13
  have ho_x2:=ho_x2.below hk13
  have ho_g0:=ho_g0.below hk13
  have ho_x3:=ho_x3.below hk13
  have H:=bTrans H hk13
  have hlo_x4:Hid (∀ q∈fpT v_x4,w12.heap.size≤q):=fun q hq=>by have h1:=hf_x4.lo q hq;(try simp at h1);omega
  have hhi_x4:Hid (∀ q∈fpT v_x4,q < w13.heap.size):=hf_x4.hi
  go_wp2_with fail
  refine Calls.mono (impl_CalmTeam_k v_x4 d0 _ HM0.out hok0 ?_ ?_) ?_
  · exact (ho_x4.rd.below (by repeat (first | with_reducible exact Below.refl _ _ | with_reducible refine bAlloc ?_ _)))
  · exact HT.out.below (by repeat (first | with_reducible exact H | with_reducible refine bAlloc ?_ _))
  rintro e w14 ⟨v_h0,rfl,ho_h0,hf_h0,hb14⟩
  have hk14:Below w13.heap.size w13 w14:=bTrans (by repeat (first | with_reducible exact Below.refl _ _ | with_reducible refine bAlloc ?_ _)) hb14
  have hs14:=hk14.size
  have hz14:=hb14.size
  (try simp at hz14)
  have kb14_a0:=bBox hk14 (W.heap.size) (by omega)
  have kb14_w0:=bBox hk14 (w3.heap.size) (by omega)
  have kb14_x0v:=bBox hk14 (w4.heap.size) (by omega)
  have kb14_g0:=bBox hk14 (w5.heap.size) (by omega)
  have hlt14_a0:W.heap.size < w14.heap.size:=by omega
  have hlt14_w0:w3.heap.size < w14.heap.size:=by omega
  have hlt14_x0v:w4.heap.size < w14.heap.size:=by omega
  have hlt14_g0:w5.heap.size < w14.heap.size:=by omega
  have ho_x1:=ho_x1.below hk14
  have ho_w0:=ho_w0.below hk14
  have ho_x2:=ho_x2.below hk14
  have ho_g0:=ho_g0.below hk14
  have ho_x3:=ho_x3.below hk14
  have ho_x4:=ho_x4.below hk14
  have H:=bTrans H hk14
  have hlo_h0:Hid (∀ q∈fpT v_h0,w13.heap.size≤q):=fun q hq=>by have h1:=hf_h0.lo q hq;(try simp at h1);omega
  have hhi_h0:Hid (∀ q∈fpT v_h0,q < w14.heap.size):=hf_h0.hi
  go_wp2_with fail
  refine Calls.mono (eqTeam_k v_h0 v_w0 (calmT d0) _ (fewT_calmT HM0.out hok0) ?_ ?_) ?_
  · exact (ho_h0.rd.below (by repeat (first | with_reducible exact Below.refl _ _ | with_reducible refine bAlloc ?_ _)))
  · exact (ho_w0.rd.below (by repeat (first | with_reducible exact Below.refl _ _ | with_reducible refine bAlloc ?_ _)))
  rintro e w15 ⟨rfl,hb15⟩
  have hk15:Below w14.heap.size w14 w15:=bTrans (by repeat (first | with_reducible exact Below.refl _ _ | with_reducible refine bAlloc ?_ _)) hb15
  have hs15:=hk15.size
  have hz15:=hb15.size
  (try simp at hz15)
  have kb15_a0:=bBox hk15 (W.heap.size) (by omega)
  have kb15_w0:=bBox hk15 (w3.heap.size) (by omega)
  have kb15_x0v:=bBox hk15 (w4.heap.size) (by omega)
  have kb15_g0:=bBox hk15 (w5.heap.size) (by omega)
  have kb15_h0:=bBox hb15 (w14.heap.size) (by first | omega | (simp;done) | (simp;omega))
  have hlt15_a0:W.heap.size < w15.heap.size:=by omega
  have hlt15_w0:w3.heap.size < w15.heap.size:=by omega
  have hlt15_x0v:w4.heap.size < w15.heap.size:=by omega
  have hlt15_g0:w5.heap.size < w15.heap.size:=by omega
  have hlt15_h0:w14.heap.size < w15.heap.size:=by omega
  have ho_x1:=ho_x1.below hk15
  have ho_w0:=ho_w0.below hk15
  have ho_x2:=ho_x2.below hk15
  have ho_g0:=ho_g0.below hk15
  have ho_x3:=ho_x3.below hk15
  have ho_x4:=ho_x4.below hk15
  have ho_h0:=ho_h0.below hk15
  have H:=bTrans H hk15
  go_wp2_with fail
  refine Calls.mono (heldTeam_k v_g0 (calmT d0) _ _ (by omega) (by omega) (fewT_calmT HM0.out hok0) ?_) ?_
  · exact (ho_g0.rd.below (by repeat (first | with_reducible exact Below.refl _ _ | with_reducible refine bAlloc ?_ _)))
  rintro e w16 ⟨rfl,hb16⟩
  have hk16:Below w15.heap.size w15 w16:=bTrans (by repeat (first | with_reducible exact Below.refl _ _ | with_reducible refine bAlloc ?_ _)) hb16
  have hs16:=hk16.size
  have hz16:=hb16.size
  (try simp at hz16)
  have kb16_a0:=bBox hk16 (W.heap.size) (by omega)
  have kb16_w0:=bBox hk16 (w3.heap.size) (by omega)
  have kb16_x0v:=bBox hk16 (w4.heap.size) (by omega)
  have kb16_g0:=bBox hk16 (w5.heap.size) (by omega)
  have kb16_h0:=bBox hk16 (w14.heap.size) (by omega)
  have hlt16_a0:W.heap.size < w16.heap.size:=by omega
  have hlt16_w0:w3.heap.size < w16.heap.size:=by omega
  have hlt16_x0v:w4.heap.size < w16.heap.size:=by omega
  have hlt16_g0:w5.heap.size < w16.heap.size:=by omega
  have hlt16_h0:w14.heap.size < w16.heap.size:=by omega
  have ho_x1:=ho_x1.below hk16
  have ho_w0:=ho_w0.below hk16
  have ho_x2:=ho_x2.below hk16
  have ho_g0:=ho_g0.below hk16
  have ho_x3:=ho_x3.below hk16
  have ho_x4:=ho_x4.below hk16
  have ho_h0:=ho_h0.below hk16
  have H:=bTrans H hk16
  go_wp2_with fail
  go_ret
  exact ⟨rfl,H⟩
end Go.Proofs.YtdfemnffpaopfaaGreatDoor
