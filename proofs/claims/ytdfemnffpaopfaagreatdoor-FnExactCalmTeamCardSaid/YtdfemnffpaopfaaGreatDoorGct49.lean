/- Texts of this proof, one behind the other: ChnKI, ChnK. -/
import Derived.Maps.RangeWalk
import Derived.Test.YtdfemnffpaopfaaGreatDoorGct39
import Derived.Test.YtdfemnffpaopfaaGreatDoorGct47
namespace Go.Proofs.YtdfemnffpaopfaaGreatDoor
open Go.RowKit
set_option linter.unusedVariables false
set_option linter.unusedSimpArgs false
set_option maxHeartbeats 4000000
set_option maxRecDepth 100000
def netLen (b:Nat) (w:World):Nat:=match w.cell? ⟨b,4,none⟩ with | some (.slice _ n _)=>n | _=>0
def ackLen (b:Nat) (w:World):Nat:=match w.cell? ⟨b,5,none⟩ with | some (.slice _ n _)=>n | _=>0
structure IB (w:World) (v:CV) (c:Chan) (wr:World):Prop where
  bx:Own wr 0 84 6 (some ⟨w.heap.size,0,none⟩) 1 1 [cChan v c.base c.expected]
  rx:Own wr 0 84 6 (some ⟨w.heap.size+1,0,none⟩) 1 1 [zC]
  rd:RdC wr v c
  bl:Below w.heap.size w wr
  sz:w.heap.size+2≤wr.heap.size
theorem IB.at6 {w wr:World} {v:CV} {c:Chan} (h:IB w v c wr):wr.cell? ⟨w.heap.size,0,none⟩=some (.slice v.q.A v.q.n v.q.c)∧wr.cell? ⟨w.heap.size,1,none⟩=some (.int .i64 c.base)∧wr.cell? ⟨w.heap.size,2,none⟩=some (.int .i64 c.expected)∧wr.cell? ⟨w.heap.size,3,none⟩=some (.slice v.i.A v.i.n v.i.c)∧wr.cell? ⟨w.heap.size,4,none⟩=some (.slice v.n.A v.n.n v.n.c)∧wr.cell? ⟨w.heap.size,5,none⟩=some (.slice v.a.A v.a.n v.a.c)∧(∀ o,wr.frozen? ⟨w.heap.size,o,none⟩=false)∧w.heap.size < wr.heap.size :=
  ⟨h.bx.bcell 0 _ rfl,h.bx.bcell 1 _ rfl,h.bx.bcell 2 _ rfl,h.bx.bcell 3 _ rfl,h.bx.bcell 4 _ rfl,h.bx.bcell 5 _ rfl,h.bx.frozen rfl,h.bx.lt1⟩
theorem IB.res6 {w wr:World} {v:CV} {c:Chan} (h:IB w v c wr):wr.cell? ⟨w.heap.size+1,0,none⟩=some (.slice none 0 0)∧wr.cell? ⟨w.heap.size+1,1,none⟩=some (.int .i64 0)∧wr.cell? ⟨w.heap.size+1,2,none⟩=some (.int .i64 0)∧wr.cell? ⟨w.heap.size+1,3,none⟩=some (.slice none 0 0)∧wr.cell? ⟨w.heap.size+1,4,none⟩=some (.slice none 0 0)∧wr.cell? ⟨w.heap.size+1,5,none⟩=some (.slice none 0 0)∧(∀ o,wr.frozen? ⟨w.heap.size+1,o,none⟩=false)∧w.heap.size+1 < wr.heap.size :=
  ⟨h.rx.bcell 0 _ rfl,h.rx.bcell 1 _ rfl,h.rx.bcell 2 _ rfl,h.rx.bcell 3 _ rfl,h.rx.bcell 4 _ rfl,h.rx.bcell 5 _ rfl,h.rx.frozen rfl,h.rx.lt1⟩
theorem IB.below {w wr wr':World} {v:CV} {c:Chan} (h:IB w v c wr) (hb:Below wr.heap.size wr wr'):IB w v c wr':=⟨h.bx.below hb,h.rx.below hb,h.rd.below hb,bTrans h.bl hb,Nat.le_trans h.sz hb.size⟩
theorem SPost.fin {w W X:World} {v:CV} {c:Chan} {b1 B:Nat} (ho:OwC W v c) (hf:Fresh B W (fpC v)) (hB:b1 < B) (h1:w.heap.size≤b1) (hb:Below w.heap.size w W) (hu:Upd [b1] W X):SPost w c (.returned (vChan v c.base c.expected)) X :=
  ⟨v,rfl,ho.upd hu (fun q hq hm=>by simp only [List.mem_singleton] at hm;have:=hf.lo q hq;omega),(hf.rebase (by omega)).grow hu.size,bUpd hb hu (fun q hq=>by simp at hq;omega)⟩
theorem IB.next {w W W' w5:World} {v v':CV} {c c':Chan} (h:IB w v c W) (ho:OwC W' v' c') (hf:Fresh W.heap.size W' (fpC v')) (hb:Below W.heap.size W W') (hx:Own w5 0 84 6 (some ⟨w.heap.size,0,none⟩) 1 1 [cChan v' c'.base c'.expected]) (hg:W'.grownBy w5 (some w.heap.size)) :
    IB w v' c' w5∧OwC w5 v' c'∧Fresh (w.heap.size+2) w5 (fpC v'):=by
  have hu:=upd1 hg
  have hs:=h.sz
  have ho5:OwC w5 v' c':=ho.upd hu (fun q hq hm=>by simp only [List.mem_singleton] at hm;have:=hf.lo q hq;omega)
  refine ⟨⟨hx,(h.rx.below hb).upd hu (fun q hq hm=>by simp [obl,ob] at hq;simp at hm;omega),ho5.rd,bUpd (bTrans h.bl hb) hu (fun q hq=>by simp at hq;omega),Nat.le_trans (Nat.le_trans hs hb.size) hu.size⟩,ho5,(hf.rebase hs).grow hu.size⟩
theorem impl_CalmChannel_k (v:CV) (c:Chan) (w:World) (hm:bulkC c≤4194304) (hok:okC c) (hr:RdC w v c) (hT:Tab w) :
    Calls Tryz.prog 77 #[vChan v c.base c.expected] w fun e w'=>SPost w (calmC c) e w':=by
  have hfw:=fewC_of hm
  have hwb:=hok.2.2.2.2.1
  have HM:=Lib.hid hm
  have HOK:=Lib.hid hok
  have HT:=Lib.hid hT
  have HFW:=Lib.hid hfw
  generalize hb1:isChan c=b1
  have HB1:=Lib.hid hb1
  clear hm hok hb1 hT hfw
  go_enter Tryz.func77,Tryz.ntmps77
  go_wp2_with fail
  refine Calls.mono (impl_IsChannel_c v c _ hwb ?_) ?_
  · exact hr.below (bAlloc (bAlloc (Below.refl _ _) _) _)
  rw [HB1.out]
  rintro e w1 ⟨rfl,hb1⟩
  have H1:=bTrans (bAlloc (bAlloc (Below.refl w.heap.size w) _) _) hb1
  have ib1:IB w v c w1:=⟨Own.below (Own.box (t:=84) (cs:=cChan v c.base c.expected) (sz:=6) (box2 w _ _) rfl) hb1,Own.below (Own.box (t:=84) (cs:=zC) (sz:=6) (box_new2 w _ _) rfl) hb1,hr.below H1,H1,bsz2 hb1⟩
  have IB1:=Lib.hid ib1
  obtain ⟨x0,x1,x2,x3,x4,x5,xf,xz⟩:=IB1.out.at6
  obtain ⟨r0,r1,r2,r3,r4,r5,rf,rz⟩:=IB1.out.res6
  clear hb1 H1 ib1
  cases b1
  · have hE:Hid (calmC c=c):=by unfold Hid calmC;rw [if_neg (by rw [HB1.out];decide)]
    go_wp2_with fail
    refine Calls.mono (copyChannel_k v c _ HFW.out ?_) ?_
    · exact IB1.out.rd
    rintro e w2 ⟨v2,rfl,ho,hf,hb2⟩
    obtain ⟨r0,r1,r2,r3,r4,r5,rf,rz⟩:=(IB1.out.below hb2).res6
    have hs:=IB1.out.sz
    have HO:=Lib.hid ho
    have HF:=Lib.hid hf
    have H2:=Lib.hid (bTrans IB1.out.bl hb2)
    clear ho hf hb2
    go_wp2_with fail
    refine bodyPost_ret (v:=vChan v2 c.base c.expected) (by simp [*,results,Tryz.results77,go_sem]) rfl ?_
    rw [hE.out]
    exact SPost.fin (b1:=w.heap.size+1) HO.out HF.out (by omega) (by omega) H2.out (((((((Upd.refl _ _).set_in (by simp) _).set_in (by simp) _).set_in (by simp) _).set_in (by simp) _).set_in (by simp) _).set_in (by simp) _)
  have KI0:=Lib.hid (KI.start HB1.out HM.out HOK.out)
  have HD:Hid (calmC c=calmN 9 c):=by unfold Hid calmC;rw [if_pos HB1.out]
  obtain ⟨D,hD⟩:∃ D,D=calmN 9 c:=⟨_,rfl⟩
  obtain ⟨t,ht⟩:∃ t,t=top c:=⟨_,rfl⟩
  have HDD:Hid (calmN 9 c=D):=hD.symm
  rw [← hD] at HD
  rw [← ht] at KI0
  clear hD ht
  go_wp2_with fail
  go_loopw [3] (fun i wr=>∃ (k:Nat) (v':CV) (c':Chan),i=.int .i64 (k:Int)∧k≤9∧IB w v' c' wr∧KI t (12 * (k:Int)) c'∧calmN (9 - k) c'=D∧(k=0∨(OwC wr v' c'∧Fresh (w.heap.size+2) wr (fpC v')))) (fun i _=>9 - (intOf i).toNat)
  case atStart=>exact ⟨0,v,c,rfl,by omega,IB1.out,KI0.out,HDD.out,.inl rfl⟩
  case round =>
    obtain ⟨k,v',c',rfl,hk,hib,hki,hcn,hown⟩:=hrel
    have IBW:=Lib.hid hib
    have KIW:=Lib.hid hki
    have HCN:=Lib.hid hcn
    clear x0 x1 x2 x3 x4 x5 xf xz r0 r1 r2 r3 r4 r5 rf rz
    obtain ⟨x0,x1,x2,x3,x4,x5,xf,xz⟩:=IBW.out.at6
    obtain ⟨r0,r1,r2,r3,r4,r5,rf,rz⟩:=IBW.out.res6
    clear hib hki hcn IB1
    by_cases hlt:k < 9
    · have hk9:(k:Int) < 9:=by omega
      clear hown
      go_wp2_with fail
      have hstep:Calls Tryz.prog 89 #[vChan v' c'.base c'.expected,.int .i64 1,.int .i64 0] wr (SPost wr (sendC c')):=impl_step_k v' c' 1 0 wr KIW.out.ok KIW.out.few IBW.out.rd ⟨by omega,by omega⟩ (HT.out.below IBW.out.bl)
      have KIS:=Lib.hid KIW.out.send
      have HCS:Hid (calmN (9 - (k+1)) (ackAll (netAll (sendC c').net (sendC c')).acks (netAll (sendC c').net (sendC c')))=D):=by
        have e:9 - k=(9 - (k+1))+1:=by omega
        have h1:=HCN.out
        rw [e] at h1
        exact h1
      obtain ⟨S,hS⟩:∃ S,S=sendC c':=⟨_,rfl⟩
      rw [← hS] at KIS HCS hstep
      refine Calls.mono hstep ?_
      clear hS
      rintro e w4 ⟨v4,rfl,ho4,hf4,hb4⟩
      have tok:True:=trivial
      clear hstep
      go_wp2_with (have _t:=tok;refine wpList_store_elem rfl 84 (.tmp 1) (.tmp 14) rfl 0 84 6 1 1 w.heap.size 0 0 rfl _ rfl _ (cChan v4 S.base S.expected) rfl rfl rfl (one_of rfl) sz_Chan (IBW.out.below hb4).bx (by omega) ?_;clear tok _t;intro w5 hx5 hg5;obtain ⟨ib5,ow5,fr5⟩:=IB.next IBW.out ho4 hf4 hb4 hx5 hg5;have IB5:=Lib.hid ib5;have OW5:=Lib.hid ow5;have FR5:=Lib.hid fr5;clear x0 x1 x2 x3 x4 x5 xf xz r0 r1 r2 r3 r4 r5 rf rz;obtain ⟨x0,x1,x2,x3,x4,x5,xf,xz⟩:=IB5.out.at6;obtain ⟨r0,r1,r2,r3,r4,r5,rf,rz⟩:=IB5.out.res6;clear hx5 hg5 ib5 ow5 fr5)
      go_frame
      obtain ⟨E,hEE⟩:∃ E,E=netAll S.net S:=⟨_,rfl⟩
      have HE:Hid (netAll S.net S=E):=hEE.symm
      rw [← hEE] at HCS
      clear hEE
      obtain ⟨wo,hwo⟩:∃ wo:World,wo=wr:=⟨_,rfl⟩
      clear hwo
      go_loopw [15] (fun _ wr2=>∃ (v2:CV) (c2:Chan),IB w v2 c2 wr2∧KI t (12 * (k:Int)+12 - c2.net.length) c2∧netAll c2.net c2=E∧OwC wr2 v2 c2∧Fresh (w.heap.size+2) wr2 (fpC v2)) (fun _ wr2=>netLen w.heap.size wr2)
      case atStart=>exact ⟨v4,S,IB5.out,KIS.out.up (by have:=KIS.out.ok.ln;omega) (by omega),HE.out,OW5.out,FR5.out⟩
      case round =>
        obtain ⟨v2,c2,hib,hki,hna,how,hfr⟩:=hrel
        have IB2:=Lib.hid hib
        have KI2:=Lib.hid hki
        have NA2:=Lib.hid hna
        have OW2:=Lib.hid how
        have FR2:=Lib.hid hfr
        clear x0 x1 x2 x3 x4 x5 xf xz r0 r1 r2 r3 r4 r5 rf rz
        obtain ⟨x0,x1,x2,x3,x4,x5,xf,xz⟩:=IB2.out.at6
        obtain ⟨r0,r1,r2,r3,r4,r5,rf,rz⟩:=IB2.out.res6
        have hnl:Hid (c2.net.length=v2.n.n):=by have h1:=OW2.out.n.len;rw [List.length_map] at h1;exact h1
        clear hib hki hna how hfr IB5 OW5 FR5 KIS HE
        by_cases hn0:c2.net=[]
        · have hz:¬ (0:Int) < (v2.n.n:Int):=by have:=hnl.out;rw [hn0] at this;simp at this;omega
          have hz':¬ 0 < v2.n.n:=by omega
          have hE2:Hid (c2=E):=by have:=NA2.out;rw [hn0] at this;exact this
          have KI3:=Lib.hid (KI2.out.up (m':=12 * (k:Int)+12) (by omega) (by omega))
          clear hn0 NA2 KI2
          go_wp2_with fail
          go_loopw [21] (fun _ wr3=>∃ (v3:CV) (c3:Chan),IB w v3 c3 wr3∧KI t (12 * (k:Int)+12) c3∧ackAll c3.acks c3=ackAll E.acks E∧OwC wr3 v3 c3∧Fresh (w.heap.size+2) wr3 (fpC v3)) (fun _ wr3=>ackLen w.heap.size wr3)
          case atStart=>exact ⟨v2,c2,IB2.out,KI3.out,by rw [hE2.out],OW2.out,FR2.out⟩
          case round =>
            obtain ⟨v3,c3,hib,hki,hna,how,hfr⟩:=hrel
            have IB3:=Lib.hid hib
            have KI4:=Lib.hid hki
            have NA3:=Lib.hid hna
            have OW3:=Lib.hid how
            have FR3:=Lib.hid hfr
            clear x0 x1 x2 x3 x4 x5 xf xz r0 r1 r2 r3 r4 r5 rf rz
            obtain ⟨x0,x1,x2,x3,x4,x5,xf,xz⟩:=IB3.out.at6
            obtain ⟨r0,r1,r2,r3,r4,r5,rf,rz⟩:=IB3.out.res6
            have hal:Hid (c3.acks.length=v3.a.n):=by have h1:=OW3.out.a.len;rw [List.length_map] at h1;exact h1
            clear hib hki hna how hfr IB2 OW2 FR2 KI3 hE2 hnl
            by_cases ha0:c3.acks=[]
            · have hz:¬ (0:Int) < (v3.a.n:Int):=by have:=hal.out;rw [ha0] at this;simp at this;omega
              have hz':¬ 0 < v3.a.n:=by omega
              have hE3:Hid (c3=ackAll E.acks E):=by have:=NA3.out;rw [ha0] at this;exact this
              clear ha0 NA3
              go_wp2_with fail
              exact ⟨⟨k+1,v3,c3,by simp,by omega,IB3.out,KI4.out.up (by push_cast;omega) (by push_cast;omega),by rw [hE3.out];exact HCS.out,.inr ⟨OW3.out,FR3.out⟩⟩,by simp only [intOf];omega⟩
            · have hz:(0:Int) < (v3.a.n:Int):=by
                have:=hal.out
                cases hc:c3.acks with
                | nil=>exact absurd hc ha0
                | cons p l=>rw [hc] at this;simp at this;omega
              have hz':0 < v3.a.n:=by omega
              obtain ⟨_,s2,s3,_⟩:=ack_step ha0
              have S2:=Lib.hid s2;have S3:=Lib.hid s3
              have KI5:=Lib.hid (KI4.out.ack ha0)
              clear s2 s3 ha0
              go_wp2_with fail
              have hstep:=impl_step_k v3 c3 6 0 _ KI4.out.ok KI4.out.few IB3.out.rd ⟨by omega,by omega⟩ (HT.out.below IB3.out.bl)
              obtain ⟨S',hS⟩:∃ S',S'=moveC c3 6 0:=⟨_,rfl⟩
              rw [← hS] at S2 S3 KI5 hstep
              clear hS
              refine Calls.mono hstep ?_
              rintro e w4 ⟨v4,rfl,ho4,hf4,hb4⟩
              have tok:True:=trivial
              clear hstep
              go_wp2_with (have _t:=tok;refine wpList_store_elem rfl 84 (.tmp 1) (.tmp 26) rfl 0 84 6 1 1 w.heap.size 0 0 rfl _ rfl _ (cChan v4 S'.base S'.expected) rfl rfl rfl (one_of rfl) sz_Chan (IB3.out.below hb4).bx (by omega) ?_;clear tok _t;intro w5 hx5 hg5;obtain ⟨ib5,ow5,fr5⟩:=IB.next IB3.out ho4 hf4 hb4 hx5 hg5;have IB5:=Lib.hid ib5;have OW5:=Lib.hid ow5;have FR5:=Lib.hid fr5;clear x0 x1 x2 x3 x4 x5 xf xz r0 r1 r2 r3 r4 r5 rf rz;obtain ⟨x0,x1,x2,x3,x4,x5,xf,xz⟩:=IB5.out.at6;obtain ⟨r0,r1,r2,r3,r4,r5,rf,rz⟩:=IB5.out.res6;clear hx5 hg5 ib5 ow5 fr5)
              go_frame
              have hal5:S'.acks.length=v4.a.n:=by have h1:=OW5.out.a.len;rw [List.length_map] at h1;exact h1
              go_roundw
              case rel=>exact ⟨v4,S',IB5.out,KI5.out,S2.out.trans NA3.out,OW5.out,FR5.out⟩
              case measure =>
                have h1:=hal.out
                have h2:=S3.out
                have g1:=IB3.out.at6.2.2.2.2.2.1
                have g2:=IB5.out.at6.2.2.2.2.2.1
                unfold ackLen
                rw [g1,g2]
                show v4.a.n < v3.a.n
                omega
        · have hz:(0:Int) < (v2.n.n:Int):=by
            have:=hnl.out
            cases hc:c2.net with
            | nil=>exact absurd hc hn0
            | cons p l=>rw [hc] at this;simp at this;omega
          have hz':0 < v2.n.n:=by omega
          obtain ⟨_,s2,s3⟩:=net_step hn0
          have S2:=Lib.hid s2;have S3:=Lib.hid s3
          have KI5:=Lib.hid (KI2.out.net (by omega) hn0)
          clear s2 s3 hn0
          go_wp2_with fail
          have hstep:=impl_step_k v2 c2 2 0 _ KI2.out.ok KI2.out.few IB2.out.rd ⟨by omega,by omega⟩ (HT.out.below IB2.out.bl)
          obtain ⟨S',hS⟩:∃ S',S'=moveC c2 2 0:=⟨_,rfl⟩
          rw [← hS] at S2 S3 KI5 hstep
          clear hS
          refine Calls.mono hstep ?_
          rintro e w4 ⟨v4,rfl,ho4,hf4,hb4⟩
          have tok:True:=trivial
          clear hstep
          go_wp2_with (have _t:=tok;refine wpList_store_elem rfl 84 (.tmp 1) (.tmp 20) rfl 0 84 6 1 1 w.heap.size 0 0 rfl _ rfl _ (cChan v4 S'.base S'.expected) rfl rfl rfl (one_of rfl) sz_Chan (IB2.out.below hb4).bx (by omega) ?_;clear tok _t;intro w5 hx5 hg5;obtain ⟨ib5,ow5,fr5⟩:=IB.next IB2.out ho4 hf4 hb4 hx5 hg5;have IB5:=Lib.hid ib5;have OW5:=Lib.hid ow5;have FR5:=Lib.hid fr5;clear x0 x1 x2 x3 x4 x5 xf xz r0 r1 r2 r3 r4 r5 rf rz;obtain ⟨x0,x1,x2,x3,x4,x5,xf,xz⟩:=IB5.out.at6;obtain ⟨r0,r1,r2,r3,r4,r5,rf,rz⟩:=IB5.out.res6;clear hx5 hg5 ib5 ow5 fr5)
          go_frame
          have hnl5:S'.net.length=v4.n.n:=by have h1:=OW5.out.n.len;rw [List.length_map] at h1;exact h1
          have h2:=S3.out
          go_roundw
          case rel=>exact ⟨v4,S',IB5.out,KI5.out.up (by omega) (by have:=KI5.out.ok.ln;omega),S2.out.trans NA2.out,OW5.out,FR5.out⟩
          case measure =>
            have h1:=hnl.out
            have g1:=IB2.out.at6.2.2.2.2.1
            have g2:=IB5.out.at6.2.2.2.2.1
            unfold netLen
            rw [g1,g2]
            show v4.n.n < v2.n.n
            omega
    · obtain rfl:k=9:=by omega
      rcases hown with h0 | ⟨how,hfr⟩
      · omega
      have hcD:Hid (c'=D):=HCN.out
      have hs:=IBW.out.sz
      have HO:=Lib.hid how
      have HF:=Lib.hid hfr
      clear how hfr
      go_wp2_with fail
      refine bodyPost_ret (v:=vChan v' c'.base c'.expected) (by simp [*,results,Tryz.results77,go_sem]) rfl ?_
      rw [HD.out,← hcD.out]
      exact SPost.fin (b1:=w.heap.size+1) HO.out HF.out (by omega) (by omega) IBW.out.bl (((((((Upd.refl _ _).set_in (by simp) _).set_in (by simp) _).set_in (by simp) _).set_in (by simp) _).set_in (by simp) _).set_in (by simp) _)
theorem CB.next {w0 W W' w5:World} {fs:List Nat} {B b0:Nat} {v v':CV} {c c':Chan} {sd:List Side} (h:CB w0 fs B b0 v c sd W) (ho:OwC W' v' c') (hf:Fresh B W' (fpC v')) (hm:∀ q∈fpC v',q∈fpC v∨W.heap.size≤q) (hu:Upd (fpC v) W W') (hx:Own w5 0 84 6 (some ⟨b0,0,none⟩) 1 1 [cChan v' c'.base c'.expected]) (hg:W'.grownBy w5 (some b0)):CB w0 fs B b0 v' c' sd w5:=by
  have hs:=upd1 hg
  have hlt:=h.lt
  have hsz:=h.up.size
  have hn:b0 ∉ fpC v':=fun hq=>(hm _ hq).elim h.nb (fun e=>by omega)
  have u1:Upd fs w0 W':=⟨hu.os.trans h.up.os,hu.tape.trans h.up.tape,hu.output.trans h.up.output,Nat.le_trans h.up.size hu.size,fun i hi hn=>(hu.block i (Nat.lt_of_lt_of_le hi h.up.size) (fun hm=>(h.mv i hm).elim hn (fun hh=>by omega))).trans (h.up.block i hi hn)⟩
  refine ⟨ho.upd hs (fun q hq hx=>by simp only [List.mem_singleton] at hx;exact hn (hx ▸ hq)),⟨hf.nodup,hf.lo,fun q hq=>Nat.lt_of_lt_of_le (hf.hi q hq) hs.size⟩,fun q hq=>(hm q hq).elim (h.mv q) (fun e=>.inr (by omega)),hn,hx,h.lo,h.hB,fun s hss=>?_,?_⟩
  · have H:=h.sid s hss
    have hslt:=h.slt hss
    exact ⟨(H.1.upd hu (fun q hq hm=>by simp [obl,ob] at hq;exact H.2.1 (hq ▸ hm))).upd hs (fun q hq hm=>by simp [obl,ob] at hq;simp only [List.mem_singleton] at hm;exact H.2.2.1 (hq ▸ hm)),fun hq=>(hm _ hq).elim H.2.1 (fun e=>by omega),H.2.2⟩
  · exact ⟨hs.os.trans u1.os,hs.tape.trans u1.tape,hs.output.trans u1.output,Nat.le_trans u1.size hs.size,fun i hi hn=>(hs.block i (Nat.lt_of_lt_of_le hi u1.size) (fun hm=>by simp only [List.mem_singleton] at hm;have:=h.lo;omega)).trans (u1.block i hi hn)⟩
theorem spec_CalmChannel_k (v:CV) (c:Chan) (w:World) (hm:bulkC c≤4194304) (hok:okC c) (hr:RdC w v c) :
    Calls Tryz.prog 76 #[vChan v c.base c.expected] w fun e w'=>SPost w (calmC c) e w':=by
  have hfw:=fewC_of hm
  have m0:v.q.n≤4194304:=by have:=hr.q.len.out;unfold fewC at hfw;omega
  have HM:=Lib.hid hm
  have HOK:=Lib.hid hok
  generalize hb1:isChan c=b1
  have HB1:=Lib.hid hb1
  clear hm hok hb1
  go_enter Tryz.func76,Tryz.ntmps76
  go_wp2_with fail
  refine Calls.mono (l29Copy_k v c _ hfw ?_) ?_
  · exact hr.below (bAlloc (bAlloc (Below.refl _ _) _) _)
  rintro e w1 ⟨v1,rfl,ho,hf,hb1⟩
  have H1:=bTrans (bAlloc (bAlloc (Below.refl w.heap.size w) _) _) hb1
  have CB1:Hid (CB w [] w.heap.size w1.heap.size v1 c [⟨w.heap.size,84,cChan v c.base c.expected⟩,⟨w.heap.size+1,84,zC⟩] (w1.alloc (.cells #[.slice v1.q.A v1.q.n v1.q.c,.int .i64 c.base,.int .i64 c.expected,.slice v1.i.A v1.i.n v1.i.c,.slice v1.n.A v1.n.n v1.n.c,.slice v1.a.A v1.a.n v1.a.c] 84))):=(CB.start2 (sd:=[⟨w.heap.size,84,cChan v c.base c.expected⟩,⟨w.heap.size+1,84,zC⟩]) ho hf H1 (by simp;omega) (by
    intro s hs
    simp only [List.mem_cons,List.not_mem_nil,or_false] at hs
    rcases hs with rfl | rfl
    · exact ⟨Side.below (w:=_) (Own.box (box2 w _ _) rfl) hb1,by simp;omega,Nat.le_refl _⟩
    · exact ⟨Side.below (w:=_) (Own.box (box_new2 w _ _) rfl) hb1,by simp,by simp⟩))
  obtain ⟨x0,x1,x2,x3,x4,x5,xf,xz⟩:=CB.at6 CB1.out
  obtain ⟨a0,a1,a2,a3,a4,a5,af,az⟩:=CB.chan6 CB1.out (Upd.refl [] _) (fun q hq=>by cases hq) (b:=w.heap.size) (t:=84) (v2:=v) (b2:=c.base) (e2:=c.expected) (by simp)
  obtain ⟨r0,r1,r2,r3,r4,r5,rf,rz⟩:=CB.res6 CB1.out (Upd.refl [] _) (fun q hq=>by cases hq) (b:=w.heap.size+1) (t:=84) (by simp)
  have RD1:=Lib.hid (hr.below (bAlloc H1 (.cells #[.slice v1.q.A v1.q.n v1.q.c,.int .i64 c.base,.int .i64 c.expected,.slice v1.i.A v1.i.n v1.i.c,.slice v1.n.A v1.n.n v1.n.c,.slice v1.a.A v1.a.n v1.a.c] 84)))
  clear ho hf hb1 H1
  go_wp2_with fail
  refine Calls.mono (spec_IsChannel_c v c _ m0 ?_) ?_
  · exact RD1.out
  rw [HB1.out]
  rintro e w2 ⟨rfl,hb2⟩
  have CB2:=Lib.hid (CB.below CB1.out hb2)
  obtain ⟨x0,x1,x2,x3,x4,x5,xf,xz⟩:=CB.at6 CB2.out
  obtain ⟨a0,a1,a2,a3,a4,a5,af,az⟩:=CB.chan6 CB2.out (Upd.refl [] _) (fun q hq=>by cases hq) (b:=w.heap.size) (t:=84) (v2:=v) (b2:=c.base) (e2:=c.expected) (by simp)
  obtain ⟨r0,r1,r2,r3,r4,r5,rf,rz⟩:=CB.res6 CB2.out (Upd.refl [] _) (fun q hq=>by cases hq) (b:=w.heap.size+1) (t:=84) (by simp)
  clear hb2 CB1
  cases b1
  · have hE:Hid (calmC c=c):=by unfold Hid calmC;rw [if_neg (by rw [HB1.out];decide)]
    go_wp2_with fail
    refine bodyPost_ret (v:=vChan v1 c.base c.expected) (by simp [*,results,Tryz.results76,go_sem]) rfl ?_
    rw [hE.out]
    exact SPost.mk (b0:=0) (CB.fin CB2.out (s:=⟨w.heap.size+1,84,zC⟩) (by simp) (((((((Upd.refl _ _).set_in (by simp) _).set_in (by simp) _).set_in (by simp) _).set_in (by simp) _).set_in (by simp) _).set_in (by simp) _))
  have KI0:=Lib.hid (KI.start HB1.out HM.out HOK.out)
  have HD:Hid (calmC c=calmN 9 c):=by unfold Hid calmC;rw [if_pos HB1.out]
  obtain ⟨D,hD⟩:∃ D,D=calmN 9 c:=⟨_,rfl⟩
  obtain ⟨t,ht⟩:∃ t,t=top c:=⟨_,rfl⟩
  have HDD:Hid (calmN 9 c=D):=hD.symm
  rw [← hD] at HD
  rw [← ht] at KI0
  clear hD ht
  clear a0 a1 a2 a3 a4 a5 af az
  have hba:¬ w1.heap.size=w.heap.size+1:=by have:=CB2.out.sid ⟨w.heap.size+1,84,zC⟩ (by simp);have:=this.2.2.1;simp at this;omega
  generalize hbb:w1.heap.size=b0 at *
  clear hbb
  go_wp2_with fail
  go_loopw [4] (fun i wr=>∃ (k:Nat) (v':CV) (c':Chan),i=.int .i64 (k:Int)∧k≤9∧CB w [] w.heap.size b0 v' c' [⟨w.heap.size,84,cChan v c.base c.expected⟩,⟨w.heap.size+1,84,zC⟩] wr∧KI t (12 * (k:Int)) c'∧calmN (9 - k) c'=D) (fun i _=>9 - (intOf i).toNat)
  case atStart=>exact ⟨0,v1,c,rfl,by omega,CB2.out,KI0.out,HDD.out⟩
  case round =>
    obtain ⟨k,v',c',rfl,hk,hcb,hki,hcn⟩:=hrel
    have CBW:=Lib.hid hcb
    have KIW:=Lib.hid hki
    have HCN:=Lib.hid hcn
    clear x0 x1 x2 x3 x4 x5 xf xz r0 r1 r2 r3 r4 r5 rf rz
    obtain ⟨x0,x1,x2,x3,x4,x5,xf,xz⟩:=CB.at6 CBW.out
    obtain ⟨r0,r1,r2,r3,r4,r5,rf,rz⟩:=CB.res6 CBW.out (Upd.refl [] _) (fun q hq=>by cases hq) (b:=w.heap.size+1) (t:=84) (by simp)
    clear hcb hki hcn CB2
    by_cases hlt:k < 9
    · have hk9:(k:Int)≤8:=by omega
      have hk9':k≤8:=by omega
      go_wp2_with fail
      have hstep:=spec_send_k v' c' w.heap.size wr KIW.out.ok CBW.out.ow CBW.out.fr CBW.out.up.size
      have KIS:=Lib.hid KIW.out.send
      have HCS:Hid (calmN (9 - (k+1)) (ackAll (netAll (sendC c').net (sendC c')).acks (netAll (sendC c').net (sendC c')))=D):=by
        have e:9 - k=(9 - (k+1))+1:=by omega
        have h1:=HCN.out
        rw [e] at h1
        exact h1
      obtain ⟨S,hS⟩:∃ S,S=sendC c':=⟨_,rfl⟩
      rw [← hS] at KIS HCS hstep
      refine Calls.mono hstep ?_
      clear hS
      rintro e w4 ⟨v4,rfl,ho4,hf4,hm4,hu4⟩
      have tok:True:=trivial
      clear hstep
      go_wp2_with (have _t:=tok;refine wpList_store_elem rfl 84 (.tmp 3) (.tmp 16) rfl 0 84 6 1 1 b0 0 0 rfl _ rfl _ (cChan v4 S.base S.expected) rfl rfl rfl (one_of rfl) sz_Chan (CBW.out.bx.upd hu4 (fun q hq hm=>by simp [obl,ob] at hq;exact CBW.out.nb (hq ▸ hm))) (by omega) ?_;clear tok _t;intro w5 hx5 hg5;have CB5:=Lib.hid (CB.next CBW.out ho4 hf4 hm4 hu4 hx5 hg5);clear x0 x1 x2 x3 x4 x5 xf xz r0 r1 r2 r3 r4 r5 rf rz;obtain ⟨x0,x1,x2,x3,x4,x5,xf,xz⟩:=CB.at6 CB5.out;obtain ⟨r0,r1,r2,r3,r4,r5,rf,rz⟩:=CB.res6 CB5.out (Upd.refl [] _) (fun q hq=>by cases hq) (b:=w.heap.size+1) (t:=84) (by simp);clear hx5 hg5)
      go_frame
      obtain ⟨E,hEE⟩:∃ E,E=netAll S.net S:=⟨_,rfl⟩
      have HE:Hid (netAll S.net S=E):=hEE.symm
      rw [← hEE] at HCS
      clear hEE
      obtain ⟨wo,hwo⟩:∃ wo:World,wo=wr:=⟨_,rfl⟩
      clear hwo
      go_loopw [17] (fun _ wr2=>∃ (v2:CV) (c2:Chan),CB w [] w.heap.size b0 v2 c2 [⟨w.heap.size,84,cChan v c.base c.expected⟩,⟨w.heap.size+1,84,zC⟩] wr2∧KI t (12 * (k:Int)+12 - c2.net.length) c2∧netAll c2.net c2=E) (fun _ wr2=>netLen b0 wr2)
      case atStart=>exact ⟨v4,S,CB5.out,KIS.out.up (by have:=KIS.out.ok.ln;omega) (by omega),HE.out⟩
      case round =>
        obtain ⟨v2,c2,hib,hki,hna⟩:=hrel
        have IB2:=Lib.hid hib
        have KI2:=Lib.hid hki
        have NA2:=Lib.hid hna
        clear x0 x1 x2 x3 x4 x5 xf xz r0 r1 r2 r3 r4 r5 rf rz
        obtain ⟨x0,x1,x2,x3,x4,x5,xf,xz⟩:=CB.at6 IB2.out
        obtain ⟨r0,r1,r2,r3,r4,r5,rf,rz⟩:=CB.res6 IB2.out (Upd.refl [] _) (fun q hq=>by cases hq) (b:=w.heap.size+1) (t:=84) (by simp)
        have hnl:Hid (c2.net.length=v2.n.n):=by have h1:=IB2.out.ow.n.len;rw [List.length_map] at h1;exact h1
        clear hib hki hna CB5 KIS HE
        by_cases hn0:c2.net=[]
        · have hz:¬ (0:Int) < (v2.n.n:Int):=by have:=hnl.out;rw [hn0] at this;simp at this;omega
          have hz':¬ 0 < v2.n.n:=by omega
          have hE2:Hid (c2=E):=by have:=NA2.out;rw [hn0] at this;exact this
          have KI3:=Lib.hid (KI2.out.up (m':=12 * (k:Int)+12) (by omega) (by omega))
          clear hn0 NA2 KI2
          go_wp2_with fail
          go_loopw [23] (fun _ wr3=>∃ (v3:CV) (c3:Chan),CB w [] w.heap.size b0 v3 c3 [⟨w.heap.size,84,cChan v c.base c.expected⟩,⟨w.heap.size+1,84,zC⟩] wr3∧KI t (12 * (k:Int)+12) c3∧ackAll c3.acks c3=ackAll E.acks E) (fun _ wr3=>ackLen b0 wr3)
          case atStart=>exact ⟨v2,c2,IB2.out,KI3.out,by rw [hE2.out]⟩
          case round =>
            obtain ⟨v3,c3,hib,hki,hna⟩:=hrel
            have IB3:=Lib.hid hib
            have KI4:=Lib.hid hki
            have NA3:=Lib.hid hna
            clear x0 x1 x2 x3 x4 x5 xf xz r0 r1 r2 r3 r4 r5 rf rz
            obtain ⟨x0,x1,x2,x3,x4,x5,xf,xz⟩:=CB.at6 IB3.out
            obtain ⟨r0,r1,r2,r3,r4,r5,rf,rz⟩:=CB.res6 IB3.out (Upd.refl [] _) (fun q hq=>by cases hq) (b:=w.heap.size+1) (t:=84) (by simp)
            have hal:Hid (c3.acks.length=v3.a.n):=by have h1:=IB3.out.ow.a.len;rw [List.length_map] at h1;exact h1
            clear hib hki hna IB2 KI3 hE2 hnl
            by_cases ha0:c3.acks=[]
            · have hz:¬ (0:Int) < (v3.a.n:Int):=by have:=hal.out;rw [ha0] at this;simp at this;omega
              have hz':¬ 0 < v3.a.n:=by omega
              have hE3:Hid (c3=ackAll E.acks E):=by have:=NA3.out;rw [ha0] at this;exact this
              clear ha0 NA3
              go_wp2_with fail
              exact ⟨⟨k+1,v3,c3,by simp,by omega,IB3.out,KI4.out.up (by push_cast;omega) (by push_cast;omega),by rw [hE3.out];exact HCS.out⟩,by simp only [intOf];omega⟩
            · have hz:(0:Int) < (v3.a.n:Int):=by
                have:=hal.out
                cases hc:c3.acks with
                | nil=>exact absurd hc ha0
                | cons p l=>rw [hc] at this;simp at this;omega
              have hz':0 < v3.a.n:=by omega
              obtain ⟨s1,s2,s3,_⟩:=ack_step ha0
              have S2:=Lib.hid s2;have S3:=Lib.hid s3
              have KI5:=Lib.hid (KI4.out.ack ha0)
              have hstep:=fun W ho hf hB=>spec_ack_6 v3 c3 0 w.heap.size W KI4.out.ok ha0 ⟨by omega,by omega⟩ ho hf hB
              rw [← s1] at hstep
              clear s1 s2 s3 ha0
              go_wp2_with fail
              obtain ⟨S',hS⟩:∃ S',S'=moveC c3 6 0:=⟨_,rfl⟩
              rw [← hS] at S2 S3 KI5 hstep
              clear hS
              refine Calls.mono (hstep _ IB3.out.ow IB3.out.fr IB3.out.up.size) ?_
              rintro e w4 ⟨v4,rfl,ho4,hf4,hm4,hu4⟩
              have tok:True:=trivial
              clear hstep
              go_wp2_with (have _t:=tok;refine wpList_store_elem rfl 84 (.tmp 3) (.tmp 28) rfl 0 84 6 1 1 b0 0 0 rfl _ rfl _ (cChan v4 S'.base S'.expected) rfl rfl rfl (one_of rfl) sz_Chan (IB3.out.bx.upd hu4 (fun q hq hm=>by simp [obl,ob] at hq;exact IB3.out.nb (hq ▸ hm))) (by omega) ?_;clear tok _t;intro w5 hx5 hg5;have CB5:=Lib.hid (CB.next IB3.out ho4 hf4 hm4 hu4 hx5 hg5);clear x0 x1 x2 x3 x4 x5 xf xz r0 r1 r2 r3 r4 r5 rf rz;obtain ⟨x0,x1,x2,x3,x4,x5,xf,xz⟩:=CB.at6 CB5.out;obtain ⟨r0,r1,r2,r3,r4,r5,rf,rz⟩:=CB.res6 CB5.out (Upd.refl [] _) (fun q hq=>by cases hq) (b:=w.heap.size+1) (t:=84) (by simp);clear hx5 hg5)
              go_frame
              have hal5:S'.acks.length=v4.a.n:=by have h1:=CB5.out.ow.a.len;rw [List.length_map] at h1;exact h1
              go_roundw
              case rel=>exact ⟨v4,S',CB5.out,KI5.out,S2.out.trans NA3.out⟩
              case measure =>
                have h1:=hal.out
                have h2:=S3.out
                have g1:=IB3.out.c5
                have g2:=CB5.out.c5
                unfold ackLen
                rw [g1,g2]
                show v4.a.n < v3.a.n
                omega
        · have hz:(0:Int) < (v2.n.n:Int):=by
            have:=hnl.out
            cases hc:c2.net with
            | nil=>exact absurd hc hn0
            | cons p l=>rw [hc] at this;simp at this;omega
          have hz':0 < v2.n.n:=by omega
          obtain ⟨s1,s2,s3⟩:=net_step hn0
          have S2:=Lib.hid s2;have S3:=Lib.hid s3
          have KI5:=Lib.hid (KI2.out.net (by omega) hn0)
          have hstep:=fun W ho hf hB=>spec_net_2 v2 c2 0 w.heap.size W KI2.out.ok hn0 ⟨by omega,by omega⟩ ho hf hB
          rw [← s1] at hstep
          clear s1 s2 s3 hn0
          go_wp2_with fail
          obtain ⟨S',hS⟩:∃ S',S'=moveC c2 2 0:=⟨_,rfl⟩
          rw [← hS] at S2 S3 KI5 hstep
          clear hS
          refine Calls.mono (hstep _ IB2.out.ow IB2.out.fr IB2.out.up.size) ?_
          rintro e w4 ⟨v4,rfl,ho4,hf4,hm4,hu4⟩
          have tok:True:=trivial
          clear hstep
          go_wp2_with (have _t:=tok;refine wpList_store_elem rfl 84 (.tmp 3) (.tmp 22) rfl 0 84 6 1 1 b0 0 0 rfl _ rfl _ (cChan v4 S'.base S'.expected) rfl rfl rfl (one_of rfl) sz_Chan (IB2.out.bx.upd hu4 (fun q hq hm=>by simp [obl,ob] at hq;exact IB2.out.nb (hq ▸ hm))) (by omega) ?_;clear tok _t;intro w5 hx5 hg5;have CB5:=Lib.hid (CB.next IB2.out ho4 hf4 hm4 hu4 hx5 hg5);clear x0 x1 x2 x3 x4 x5 xf xz r0 r1 r2 r3 r4 r5 rf rz;obtain ⟨x0,x1,x2,x3,x4,x5,xf,xz⟩:=CB.at6 CB5.out;obtain ⟨r0,r1,r2,r3,r4,r5,rf,rz⟩:=CB.res6 CB5.out (Upd.refl [] _) (fun q hq=>by cases hq) (b:=w.heap.size+1) (t:=84) (by simp);clear hx5 hg5)
          go_frame
          have hnl5:S'.net.length=v4.n.n:=by have h1:=CB5.out.ow.n.len;rw [List.length_map] at h1;exact h1
          have h2:=S3.out
          go_roundw
          case rel=>exact ⟨v4,S',CB5.out,KI5.out.up (by omega) (by have:=KI5.out.ok.ln;omega),S2.out.trans NA2.out⟩
          case measure =>
            have h1:=hnl.out
            have g1:=IB2.out.c4
            have g2:=CB5.out.c4
            unfold netLen
            rw [g1,g2]
            show v4.n.n < v2.n.n
            omega
    · obtain rfl:k=9:=by omega
      have hcD:Hid (c'=D):=HCN.out
      go_wp2_with fail
      refine bodyPost_ret (v:=vChan v' c'.base c'.expected) (by simp [*,results,Tryz.results76,go_sem]) rfl ?_
      rw [HD.out,← hcD.out]
      exact SPost.mk (b0:=0) (CB.fin CBW.out (s:=⟨w.heap.size+1,84,zC⟩) (by simp) (((((((Upd.refl _ _).set_in (by simp) _).set_in (by simp) _).set_in (by simp) _).set_in (by simp) _).set_in (by simp) _).set_in (by simp) _))
end Go.Proofs.YtdfemnffpaopfaaGreatDoor
