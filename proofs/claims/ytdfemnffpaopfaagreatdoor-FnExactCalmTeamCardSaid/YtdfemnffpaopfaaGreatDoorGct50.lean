/- Texts of this proof, one behind the other: TmC. -/
import Derived.Test.YtdfemnffpaopfaaGreatDoorGct48
import Derived.Test.YtdfemnffpaopfaaGreatDoorGct49
namespace Go.Proofs.YtdfemnffpaopfaaGreatDoor
open Go.RowKit
set_option linter.unusedVariables false
set_option linter.unusedSimpArgs false
set_option maxHeartbeats 8000000
set_option maxRecDepth 100000
structure CW (w w1 wr:World) (a1 a2:Value) (r1 c1:Sv) (v':TV) (u:Team):Prop where
  x1:Bx2 wr (w.heap.size+1) (.slice none 0 0) (.slice none 0 0)
  x2:Bx2 wr w1.heap.size a1 a2
  o:OT (w.heap.size+2) wr v' u
  r:v'.r=r1
  c:v'.c=c1
  nb:w1.heap.size ∉ fpT v'
  b:Below w.heap.size w wr
theorem OT.ch_mem {B:Nat} {w:World} {v:TV} {t:Team} {i j:Nat} {row:List Chan} {c:Chan} (h:OT B w v t) (hB:B≤w.heap.size) (hi:t.channels[i]? = some row) (hj:row[j]? = some c) {gt g n k:Nat} (hA:v.c.A=some ⟨gt,0,none⟩)
    (hc:w.cell? ⟨gt,i,none⟩=some (.slice (some ⟨g,0,none⟩) n k)):g∈fpT v:=by
  obtain ⟨cst,gt2,vs,css,g2,vc,h1,h2,h3,h4,h5,k1,k2,k3,k4,k5,k6,k7,k8,k9⟩:=h.chan hB hi hj
  rw [h3] at h1 hA
  obtain rfl:gt2=gt:=by simpa using hA
  have e:=own_cells h1 h2 0 _ rfl
  simp only [Nat.mul_one,Nat.add_zero] at e
  rw [hc] at e
  obtain rfl:g=g2:=by simp at e;exact e.1
  exact k7 _ (List.mem_cons_of_mem _ List.mem_cons_self)
theorem CW.box {w w1 wr:World} {a1 a2:Value} {r1 c1:Sv} {v':TV} {u:Team} (h:CW w w1 wr a1 a2 r1 c1 v' u) (hw:w.heap.size+2≤w1.heap.size):CW w w1 ((wr.setCell ⟨w1.heap.size,0,none⟩ a1).setCell ⟨w1.heap.size,1,none⟩ a2) a1 a2 r1 c1 v' u:=by
  have uE:Upd [w1.heap.size] wr ((wr.setCell ⟨w1.heap.size,0,none⟩ a1).setCell ⟨w1.heap.size,1,none⟩ a2):=((Upd.refl _ _).set_in (by simp) _).set_in (by simp) _
  refine ⟨h.x1.upd uE (by simp;omega),(h.x2.set0 _).set1 _,⟨h.o.own.upd uE (fun q hq hm=>?_),h.o.fr.grow uE.size⟩,h.r,h.c,h.nb,bUpd h.b uE (fun q hq=>by simp at hq;omega)⟩
  simp at hm;subst hm;exact h.nb hq
theorem impl_CalmTeam_k (v:TV) (t:Team) (w:World) (hm:bulkT t≤1048576) (hok:okT t) (hr:RdT w v t) (hT:TabJ w) :
    Calls Tryz.prog 30 #[vTeam v] w fun e w'=>∃ v',e=.returned (vTeam v')∧OwT w' v' (calmT t)∧Fresh w.heap.size w' (fpT v')∧Below w.heap.size w w':=by
  have FT:=Lib.hid (fewT_of (Nat.le_trans hm (show 1048576≤4194304 by decide)))
  have HM:=Lib.hid (Nat.le_trans hm (show 1048576≤4194304 by decide))
  have HMT:=Lib.hid hm
  have HK:=Lib.hid hok
  have HR:=Lib.hid hr
  have HL:Hid (t.robots.length=v.r.n):=hr.r.len
  have HN:Hid (v.r.n≤4194304):=by have h1:=fewT_len FT.out;have:=HL.out;rw [Hid];omega
  have HTb:=Lib.hid hT
  obtain ⟨⟨Ar,nr,cr⟩,⟨Ac,nc,cc⟩,fr,fc⟩:=v
  generalize hbt:isTeam t=bt
  have HB:=Lib.hid hbt
  clear hbt hm hok hr hT
  go_enter Tryz.func30,Tryz.ntmps30
  go_wp2_with fail
  refine Calls.mono (impl_copyTeam_k ⟨⟨Ar,nr,cr⟩,⟨Ac,nc,cc⟩,fr,fc⟩ t _ FT.out ?_) ?_
  · exact HR.out.below (bAlloc (bAlloc (Below.refl _ _) _) _)
  rintro e w1 ⟨⟨⟨Ar1,nr1,cr1⟩,⟨Ac1,nc1,cc1⟩,fr1,fc1⟩,rfl,ho1,hf1,hb1⟩
  have B:=bTrans (bAlloc (bAlloc (Below.refl w.heap.size w) _) _) hb1
  have B1:=Lib.hid B
  have X0:Bx2 w1 w.heap.size (.slice Ar nr cr) (.slice Ac nc cc):=Bx2.below ⟨by go_simp,by go_simp,fun o=>by go_simp⟩ hb1
  have X1:Bx2 w1 (w.heap.size+1) (.slice none 0 0) (.slice none 0 0):=Bx2.below ⟨by go_simp,by go_simp,fun o=>by go_simp⟩ hb1
  have O:OT (w.heap.size+2) w1 ⟨⟨Ar1,nr1,cr1⟩,⟨Ac1,nc1,cc1⟩,fr1,fc1⟩ t:=⟨ho1,hf1.rebase (by simp)⟩
  have O1:=Lib.hid O
  have a0:=X0.c0;have a1:=X0.c1;have a2:=X0.lt;have b0:=X1.c0;have b1:=X1.c1;have b2:=X1.fz;have b3:=X1.lt
  have hlt1:=O.lt
  have HSZ:Hid (w.heap.size+2≤w1.heap.size):=by have h9:=X1.lt;rw [Hid];omega
  clear ho1 hf1
  go_wp2_with fail
  refine Calls.mono (impl_IsTeam_k ⟨⟨Ar,nr,cr⟩,⟨Ac,nc,cc⟩,fr,fc⟩ t _ HM.out HK.out ?_) ?_
  · exact HR.out.below (bAlloc B _)
  rintro e w2 ⟨he,hb2⟩
  rw [HB.out] at he
  subst he
  have X2:Bx2 w2 w1.heap.size (.slice Ar1 nr1 cr1) (.slice Ac1 nc1 cc1):=Bx2.below ⟨by go_simp,by go_simp,fun o=>by go_simp⟩ hb2
  have hbb2:Below w1.heap.size w1 w2:=bTrans (bAlloc (Below.refl _ _) _) hb2
  have X0:=X0.below hbb2
  have X1:=X1.below hbb2
  have O:=O.below hbb2
  have B:=bTrans B hbb2
  clear a0 a1 a2 b0 b1 b2 b3
  have a0:=X0.c0;have a1:=X0.c1;have a2:=X0.lt;have b0:=X1.c0;have b1:=X1.c1;have b2:=X1.fz;have b3:=X1.lt;have c0:=X2.c0;have c1:=X2.c1;have c3:=X2.lt
  cases bt
  · have HF:=Lib.hid (calmT_no HB.out)
    go_wp2_with fail
    refine bodyPost_ret (v:=vTeam ⟨⟨Ar1,nr1,cr1⟩,⟨Ac1,nc1,cc1⟩,fr1,fc1⟩) (by simp [*,results,Tryz.results30,go_sem]) rfl ?_
    rw [HF.out]
    exact ⟨⟨⟨Ar1,nr1,cr1⟩,⟨Ac1,nc1,cc1⟩,fr1,fc1⟩,rfl,teamEnd_ B O _ _⟩
  have hn1:t.robots.length=nr1:=O.own.r.len.out
  have hnb1:w1.heap.size ∉ fpT ⟨⟨Ar1,nr1,cr1⟩,⟨Ac1,nc1,cc1⟩,fr1,fc1⟩:=fun hm=>by have:=hlt1 _ hm;omega
  have hc0:=CI.start HB.out HMT.out hn1
  have hpos:=(isTeam_parts HB.out).1
  have hpos3:=(isTeam_parts HB.out).2.1
  obtain ⟨row0,c00,x00,m1,m2,_⟩:=hc0.parts HB.out HMT.out HK.out hn1 (show 0 < nr1 by omega) (show 0 < nr1 by omega)
  obtain ⟨gt,_,_,_,hA,_⟩:=O1.out.ch HSZ.out m1 m2
  have hnc1:t.channels.length=nc1:=O.own.c.len.out
  have hncn:nc1=t.robots.length:=by have:=(isTeam_parts HB.out).2.2.1;omega
  have hnle:nr1≤3:=by omega
  have hncr:Hid (nc1=nr1):=by rw [Hid];omega
  dsimp only at hA
  subst hA
  have HN1:=Lib.hid hn1
  have HFIN:=Lib.hid (calmT_yes HB.out hn1)
  have hcw0:CW w w1 w2 (.slice Ar1 nr1 cr1) (.slice (some ⟨gt,0,none⟩) nc1 cc1) ⟨Ar1,nr1,cr1⟩ ⟨some ⟨gt,0,none⟩,nc1,cc1⟩ ⟨⟨Ar1,nr1,cr1⟩,⟨some ⟨gt,0,none⟩,nc1,cc1⟩,fr1,fc1⟩ t:=⟨X1,X2,O,rfl,rfl,hnb1,B⟩
  clear m1 m2 hnc1 hncn hn1 hnb1 hpos hpos3 X0 O1
  go_wp2_with fail
  clear a0 a1 a2 b0 b1 b2 b3 c0 c1 c3 X1 X2
  go_loopw [15,4,5] (fun iv y4 y5 wr=>∃ (i:Nat) (v':TV) (u:Team),i≤nr1∧iv=.int .i64 i∧CW w w1 wr (.slice Ar1 nr1 cr1) (.slice (some ⟨gt,0,none⟩) nc1 cc1) ⟨Ar1,nr1,cr1⟩ ⟨some ⟨gt,0,none⟩,nc1,cc1⟩ v' u∧CI t nr1 i 0 u∧Hid (u=calmA nr1 i t)) (fun iv _ _ _=>nr1 - (intOf iv).toNat)
  case atStart=>exact ⟨0,_,t,by omega,rfl,hcw0,hc0,rfl⟩
  case round =>
    obtain ⟨i,v',u,hi,rfl,hcw,hci,he⟩:=hrel
    have c0:=hcw.x2.c0;have c1:=hcw.x2.c1;have c3:=hcw.x2.lt;have b0:=hcw.x1.c0;have b1:=hcw.x1.c1;have b2:=hcw.x1.fz;have b3:=hcw.x1.lt
    by_cases hlt:i < nr1
    · have z0:(0:Int)≤(i:Int):=by omega
      go_wp2_with fail
      clear c0 c1 c3 b0 b1 b2 b3
      go_loopw [21,5] (fun jv y5 wr=>∃ (j:Nat) (v':TV) (u:Team),j≤nr1∧jv=.int .i64 j∧CW w w1 wr (.slice Ar1 nr1 cr1) (.slice (some ⟨gt,0,none⟩) nc1 cc1) ⟨Ar1,nr1,cr1⟩ ⟨some ⟨gt,0,none⟩,nc1,cc1⟩ v' u∧CI t nr1 i j u∧Hid (u=calmJ i j (calmA nr1 i t))) (fun jv _ _=>nr1 - (intOf jv).toNat)
      case atStart=>exact ⟨0,v',u,by omega,rfl,hcw,hci,he⟩
      case round =>
        clear hcw hci he
        obtain ⟨j,v',u,hj,rfl,hcw,hci,he⟩:=hrel
        obtain ⟨wo,rfl⟩:∃ wo:World,wo=wr:=⟨_,rfl⟩
        have c0:=hcw.x2.c0;have c1:=hcw.x2.c1;have c3:=hcw.x2.lt
        by_cases hjl:j < nr1
        · by_cases hij:i=j
          · subst hij
            go_wp2_with fail
            go_roundw
            case rel=>exact ⟨i+1,v',u,by omega,by go_num,hcw,hci.skip,he.out.trans (calm1_same _ _).symm⟩
            case measure=>simp [intOf];omega
          · obtain ⟨row,c,x,k1,k2,k3,k4,k5,k6,k7,k8⟩:=hci.parts HB.out HMT.out HK.out HN1.out hlt hjl
            have hbc4:=Nat.le_trans k6 (show 1048576≤4194304 by decide)
            have hci2:=hci.step k1 k2 k3 (short_calm k5 hbc4 k7) hij
            have hfc:=fewC_calm hbc4 k7
            have hts:=((Txt.of hbc4).calm).i
            have HRV:=Lib.hid (calm1_ne' hij k1 k2)
            have hszo:w.heap.size+2≤wo.heap.size:=by have:=HSZ.out;omega
            obtain ⟨gt2,g,vs,vc,hA,p0,hvs,⟨q0,q1,q2,q3,q4,q5⟩,cf,hRd,hln,hg,hgt,hgB,hgtB,hne,hput⟩:=hcw.o.ch hszo k1 k2
            have hgm:g∈fpT v':=hcw.o.ch_mem hszo k1 k2 hA p0
            have hgn1:g≠w1.heap.size:=fun e=>hcw.nb (e ▸ hgm)
            rw [hcw.c] at hA
            obtain rfl:gt=gt2:=by simpa using hA
            have HP:=Lib.hid hput
            have hicl:i < nc1:=by have:=hncr.out;omega
            have hijn:¬ (i:Int)=(j:Int):=by omega
            have z1:(i:Int) < (nc1:Int):=by omega
            have z2:(0:Int)≤(j:Int):=by omega
            have z3:(j:Int) < (vs.n:Int):=by omega
            clear hput hA hln
            go_wp2_with fail
            go_region_law (first | (go_simp;go_at_call 77;refine Calls.mono (impl_CalmChannel_k vc c _ hbc4 k7 ?_ ((HTb.out.below (bTrans hcw.b (by repeat (first | with_reducible exact (Below.refl _ _) | with_reducible refine bAlloc ?_ _ | with_reducible refine bDrew ?_ | with_reducible refine bDrewN ?_ _)))).1.tab)) ?_;exact hRd.below (by repeat (first | with_reducible exact (Below.refl _ _) | with_reducible refine bAlloc ?_ _ | with_reducible refine bDrew ?_ | with_reducible refine bDrewN ?_ _));rintro e w5 ⟨v5,rfl,ho5,hf5,hb5⟩;have hW:=bTrans (show Below wo.heap.size wo _ from (by repeat (first | with_reducible exact (Below.refl _ _) | with_reducible refine bAlloc ?_ _ | with_reducible refine bDrew ?_ | with_reducible refine bDrewN ?_ _))) hb5;have p0:=bCell hW p0;have q0:=bCell hW q0;have q1:=bCell hW q1;have q2:=bCell hW q2;have q3:=bCell hW q3;have q4:=bCell hW q4;have q5:=bCell hW q5;have cf:=fun o=>(bBoxF hW g hg o).trans (cf o);have c0:=bCell hW c0;have c1:=bCell hW c1;have s5:=hW.size;have hg5:g < w5.heap.size:=(by omega);have hgt5:gt < w5.heap.size:=(by omega);have c4:w1.heap.size < w5.heap.size:=(by omega)))
            all_goals
              obtain ⟨⟨v6r,v6c,fr6,fc6⟩,O6,st6,ft6⟩:=HP.out w5 hW v5 _ ho5 (hf5.rebase (by simp))
              have e1:=st6.r.trans hcw.r
              have e2:=st6.c.trans hcw.c
              dsimp only at e1 e2
              subst e1 e2
              have uS:=setChan_upd w5 g j v5 (calmC c)
              have B6:=bUpd (bTrans hcw.b hW) uS (fun q hq=>by simp at hq;omega)
              have X1:=(hcw.x1.below hW).upd uS (by simp;omega)
              have X2:=(hcw.x2.below hW).upd uS (by simp;omega)
              have hnb6:w1.heap.size ∉ fpT (⟨⟨Ar1,nr1,cr1⟩,⟨some ⟨gt,0,none⟩,nc1,cc1⟩,fr6,fc6⟩:TV):=fun hm=>by
                rcases ft6 _ hm with h3 | h3
                · exact hcw.nb h3
                · have:=hf5.lo _ h3;(try simp at this);omega
              obtain ⟨W6,hW6⟩:∃ W6,W6=setChan w5 g j v5 (calmC c):=⟨_,rfl⟩
              rw [← hW6] at O6 st6 B6 X1 X2
              have s6:w1.heap.size < W6.heap.size:=X2.lt
              unfold setChan at hW6
              rw [← hW6]
              clear hW6 c0 c1 p0 q0 q1 q2 q3 q4 q5 cf uS
              have c0:=X2.c0;have c1:=X2.c1
              have hx6:(setC u i j (calmC c)).robots[j]? = some x:=k3
              have hsr:=setC_row (j:=j) (c:=calmC c) k1
              have hjr:(row.set j (calmC c))[j]? = some (calmC c):=List.getElem?_set_self (List.getElem?_eq_some_iff.1 k2).1
              go_wp2_with fail
              refine Calls.mono (impl_recv_k w (w.heap.size+2) 1054336 ⟨⟨Ar1,nr1,cr1⟩,⟨some ⟨gt,0,none⟩,nc1,cc1⟩,fr6,fc6⟩ (setC u i j (calmC c)) i j (row.set j (calmC c)) (calmC c) x W6 O6 (by have:=HSZ.out;omega) B6 (by omega) hsr hjr hx6 k4 (by decide) hfc hts HTb.out) ?_
              rintro e w7 ⟨⟨v7r,v7c,fr7,fc7⟩,rfl,O7,st7⟩
              rw [← HRV.out] at O7
              have f1:=st7.r
              have f2:=st7.c
              dsimp only at f1 f2
              subst f1 f2
              have hb7:w.heap.size+1 ∉ fpT (⟨⟨Ar1,nr1,cr1⟩,⟨some ⟨gt,0,none⟩,nc1,cc1⟩,fr6,fc6⟩:TV):=fun hm=>by have:=O6.fr.lo _ hm;omega
              have hnb7:w1.heap.size ∉ fpT (⟨⟨Ar1,nr1,cr1⟩,⟨some ⟨gt,0,none⟩,nc1,cc1⟩,fr7,fc7⟩:TV):=fun hm=>by
                rcases st7.foot _ hm with h3 | h3
                · exact hnb6 h3
                · omega
              have B7:=bUpd B6 st7.upd (fun q hq=>by have:=O6.fr.lo q hq;omega)
              have X1:=X1.upd st7.upd hb7
              have X2:=X2.upd st7.upd hnb6
              have hcw7:CW w w1 w7 (.slice Ar1 nr1 cr1) (.slice (some ⟨gt,0,none⟩) nc1 cc1) ⟨Ar1,nr1,cr1⟩ ⟨some ⟨gt,0,none⟩,nc1,cc1⟩ ⟨⟨Ar1,nr1,cr1⟩,⟨some ⟨gt,0,none⟩,nc1,cc1⟩,fr7,fc7⟩ (calm1T u (i,j)):=⟨X1,X2,O7,rfl,rfl,hnb7,B7⟩
              have heq:calm1T u (i,j)=calmJ i (j+1) (calmA nr1 i t):=by rw [he.out];rfl
              have HEQ:=Lib.hid heq
              clear c0 c1 heq
              have c0:=X2.c0;have c1:=X2.c1;have c2:=X2.fz;have c3':=X2.lt
              have hcw8:=hcw7.box HSZ.out
              go_wp2_with fail
              go_roundw
              case rel=>exact ⟨j+1,_,_,by omega,by go_num,hcw8,hci2,HEQ⟩
              case measure=>simp [intOf];omega
        · obtain rfl:j=nr1:=by omega
          go_wp2_with fail
          go_roundw
          case rel=>exact ⟨i+1,v',u,by omega,by go_num,hcw,hci.next,he⟩
          case measure=>simp [intOf];omega
    · obtain rfl:nr1=i:=by omega
      have he2:=he.out
      go_wp2_with fail
      refine bodyPost_ret (v:=.agg #[.slice Ar1 nr1 cr1,.slice (some ⟨gt,0,none⟩) nc1 cc1]) (by simp [*,results,Tryz.results30,go_sem]) rfl ?_
      rw [HFIN.out,← he2]
      exact ⟨v',by simp only [vTeam,hcw.r,hcw.c],teamEnd_ hcw.b hcw.o _ _⟩
end Go.Proofs.YtdfemnffpaopfaaGreatDoor
