/- Texts of this proof, one behind the other: ChnA. -/
import Derived.Test.YtdfemnffpaopfaaGreatDoorGrs36
namespace Go.Proofs.YtdfemnffpaopfaaGreatDoor
open Go.RowKit
set_option linter.unusedVariables false
set_option linter.unusedSimpArgs false
set_option maxHeartbeats 2000000
set_option maxRecDepth 100000
theorem spec_ack_7 (v:CV) (c:Chan) (at_:Int) (B:Nat) (w:World) {m:Int} (hok:OKC m c) (hn0:c.acks≠[]) (ha:-9223372036854775808≤at_∧at_≤9223372036854775807) (ho:OwC w v c) (hf:Fresh B w (fpC v)) (hB:B≤w.heap.size) :
    Calls Tryz.prog 123 #[vChan v c.base c.expected,.int .i64 7,.int .i64 at_] w fun e w'=>CPost w (fpC v) B (ackC c 7 (selK at_ c.acks.length)) e w':=by
  obtain ⟨vq,vi,vn,⟨nA,nn,nc⟩⟩:=v
  have hln:c.acks.length=nn:=by have:=ho.a.len;simpa using this
  have hpos:0 < nn:=by
    rw [← hln];cases hc:c.acks with
    | nil=>exact absurd hc hn0
    | cons=>simp
  have hlt:=selK_lt (a:=at_) hpos
  have hnz:¬ (nn:Int)=0:=by omega
  have hn12:nn≤4194304:=by have:=hok.la;omega
  have hS:=fun W=>spec_sel_k at_ nn W hpos hn12 ha
  have hkk:selK at_ c.acks.length < c.acks.length:=by rw [hln];exact hlt
  generalize hK:selK at_ c.acks.length=kk at *
  rw [hln] at hK
  rw [hK] at hS
  clear hK hlt hn0
  have hpi:(0:Int)≤(kk:Int):=by omega
  have hpl:(kk:Int) < (nn:Int):=by omega
  obtain ⟨g,rfl,hgw⟩:∃ g,nA=some ⟨g,0,none⟩∧g < w.heap.size:=by
    rcases ho.a.cases with ⟨_,h0,_⟩ | ⟨g,h1,_,h2,_⟩
    · exact absurd (show nn=0 from h0) (by omega)
    · exact ⟨g,h1,h2⟩
  obtain ⟨p,g',off',hp,hA,y0,y1,y2,y3⟩:=RowK.at_ ho.a.row (k:=kk) (by rw [← hln];exact hkk)
  simp only [Option.some.injEq,Addr.mk.injEq,and_true] at hA
  obtain ⟨rfl,rfl⟩:=hA
  simp only [Nat.zero_add] at y0 y1 y2 y3
  have hpm:p∈c.acks:=List.mem_of_getElem? hp.out
  obtain ⟨hp1,hp2,hp3⟩:=hok.acks p hpm
  have HOK:=Lib.hid hok
  clear hok hpm
  have hE:Hid (ackC c 7 kk = { c with acks:=dropK c.acks kk }):=by
    unfold Hid ackC;rw [hp.out];rfl
  rw [hE.out]
  clear hE
  have CB1:=Lib.hid (CB.side (CB.start ho hf hB) 84 zC)
  have CB2:=Lib.hid (CB.side CB1.out 164 p.cells)
  clear ho hf CB1 hln
  go_enter Tryz.func123,Tryz.ntmps123
  go_wp2_with fail
  refine Calls.mono (hS _) ?_
  rintro e w1 ⟨rfl,rfl⟩
  clear hS
  go_wp2_with fail
  refine Calls.mono (spec_drop_k ⟨some ⟨g,0,none⟩,nn,nc⟩ c.acks kk _ (by have:=HOK.out.la;omega) hkk ?_) ?_
  · exact CB2.out.ow.a
  rintro e w1 ⟨v',rfl,ho1,hb1⟩
  have CB3:=Lib.hid (CB.turn_a CB2.out ho1.zero (updBelow hb1 _) (Moved.of_below ho1))
  obtain ⟨x0,x1,x2,x3,x4,x5,xf,xz⟩:=CB.kept6 CB2.out (updBelow hb1 _) (fun q hq=>fpC_mem.2 (.inr (.inr (.inr hq))))
  obtain ⟨r0,r1,r2,r3,r4,r5,rf,rz⟩:=CB.res6 CB2.out (updBelow hb1 _) (fun q hq=>fpC_mem.2 (.inr (.inr (.inr hq)))) (b:=w.heap.size+1) (t:=84) (by simp)
  obtain ⟨p0,p1,p2,p3,pf,pz⟩:=CB.pkt4 CB2.out (updBelow hb1 _) (fun q hq=>fpC_mem.2 (.inr (.inr (.inr hq)))) (b:=w.heap.size+1+1) (t:=164) (p:=p) (by simp)
  clear ho1 hb1 CB2 y0 y1 y2 y3
  go_wp2_with fail
  refine bodyPost_ret (v:=vChan ⟨vq,vi,vn,v'⟩ c.base c.expected) (by simp [*,results,Tryz.results123,go_sem]) rfl ?_
  refine ⟨_,rfl,?_⟩
  exact CB.fin CB3.out (s:=⟨w.heap.size+1,84,zC⟩) (by simp) (((((((Upd.refl _ _).set_in (by simp) _).set_in (by simp) _).set_in (by simp) _).set_in (by simp) _).set_in (by simp) _).set_in (by simp) _)
theorem impl_ack_7 (v:CV) (c:Chan) (kk:Nat) (Wb:World) (w:World) {m:Int} (hok:OKC m c) (hkk:kk < c.acks.length) (ho:OwC w v c) (hf:Fresh Wb.heap.size w (fpC v)) (hB:Wb.heap.size≤w.heap.size) (hT:Tab Wb) (hWb:Below Wb.heap.size Wb w) :
    Calls Tryz.prog 138 #[vChan v c.base c.expected,.int .i64 7,.int .i64 (kk:Int)] w fun e w'=>CPost w (fpC v) Wb.heap.size (ackC c 7 kk) e w':=by
  have hTT:∀ (b0:Nat) (v2:CV) (c2:Chan) (sd:List Side) (w':World),CB w (fpC v) Wb.heap.size b0 v2 c2 sd w'→Tab w':=fun _ _ _ _ _ h=>hT.below (bUpd hWb h.up hf.lo)
  have HT:=Lib.hid hTT
  clear hTT hT hWb
  obtain ⟨vq,vi,vn,⟨nA,nn,nc⟩⟩:=v
  have hln:c.acks.length=nn:=by have:=ho.a.len;simpa using this
  have hpi:(0:Int)≤(kk:Int):=by omega
  have hpl:(kk:Int) < (nn:Int):=by omega
  obtain ⟨g,rfl,hgw⟩:∃ g,nA=some ⟨g,0,none⟩∧g < w.heap.size:=by
    rcases ho.a.cases with ⟨_,h0,_⟩ | ⟨g,h1,_,h2,_⟩
    · exact absurd (show nn=0 from h0) (by omega)
    · exact ⟨g,h1,h2⟩
  obtain ⟨p,g',off',hp,hA,y0,y1,y2,y3⟩:=RowK.at_ ho.a.row (k:=kk) (by rw [← hln];exact hkk)
  simp only [Option.some.injEq,Addr.mk.injEq,and_true] at hA
  obtain ⟨rfl,rfl⟩:=hA
  simp only [Nat.zero_add] at y0 y1 y2 y3
  have hpm:p∈c.acks:=List.mem_of_getElem? hp.out
  obtain ⟨hp1,hp2,hp3⟩:=hok.acks p hpm
  have HOK:=Lib.hid hok
  clear hok hpm
  have hE:Hid (ackC c 7 kk = { c with acks:=dropK c.acks kk }):=by
    unfold Hid ackC;rw [hp.out];rfl
  rw [hE.out]
  clear hE
  have CB1:=Lib.hid (CB.side (CB.start ho hf hB) 84 zC)
  have CB2:=Lib.hid (CB.side CB1.out 164 p.cells)
  clear ho hf CB1 hln
  go_enter Tryz.func138,Tryz.ntmps138
  go_wp2_with fail
  refine Calls.mono (impl_drop_k ⟨some ⟨g,0,none⟩,nn,nc⟩ c.acks kk _ (by have:=HOK.out.la;omega) hkk ?_) ?_
  · exact CB2.out.ow.a
  rintro e w1 ⟨v',rfl,ho1,hb1⟩
  have CB3:=Lib.hid (CB.turn_a CB2.out ho1.zero (updBelow hb1 _) (Moved.of_below ho1))
  obtain ⟨x0,x1,x2,x3,x4,x5,xf,xz⟩:=CB.kept6 CB2.out (updBelow hb1 _) (fun q hq=>fpC_mem.2 (.inr (.inr (.inr hq))))
  obtain ⟨r0,r1,r2,r3,r4,r5,rf,rz⟩:=CB.res6 CB2.out (updBelow hb1 _) (fun q hq=>fpC_mem.2 (.inr (.inr (.inr hq)))) (b:=w.heap.size+1) (t:=84) (by simp)
  obtain ⟨p0,p1,p2,p3,pf,pz⟩:=CB.pkt4 CB2.out (updBelow hb1 _) (fun q hq=>fpC_mem.2 (.inr (.inr (.inr hq)))) (b:=w.heap.size+1+1) (t:=164) (p:=p) (by simp)
  clear ho1 hb1 CB2 y0 y1 y2 y3
  go_wp2_with fail
  refine bodyPost_ret (v:=vChan ⟨vq,vi,vn,v'⟩ c.base c.expected) (by simp [*,results,Tryz.results138,go_sem]) rfl ?_
  refine ⟨_,rfl,?_⟩
  exact CB.fin CB3.out (s:=⟨w.heap.size+1,84,zC⟩) (by simp) (((((((Upd.refl _ _).set_in (by simp) _).set_in (by simp) _).set_in (by simp) _).set_in (by simp) _).set_in (by simp) _).set_in (by simp) _)
theorem impl_ack_6 (v:CV) (c:Chan) (kk:Nat) (Wb:World) (w:World) {m:Int} (hok:OKC m c) (hkk:kk < c.acks.length) (ho:OwC w v c) (hf:Fresh Wb.heap.size w (fpC v)) (hB:Wb.heap.size≤w.heap.size) (hT:Tab Wb) (hWb:Below Wb.heap.size Wb w) :
    Calls Tryz.prog 138 #[vChan v c.base c.expected,.int .i64 6,.int .i64 (kk:Int)] w fun e w'=>CPost w (fpC v) Wb.heap.size (ackC c 6 kk) e w':=by
  have hTT:∀ (b0:Nat) (v2:CV) (c2:Chan) (sd:List Side) (w':World),CB w (fpC v) Wb.heap.size b0 v2 c2 sd w'→Tab w':=fun _ _ _ _ _ h=>hT.below (bUpd hWb h.up hf.lo)
  have HT:=Lib.hid hTT
  clear hTT hT hWb
  obtain ⟨vq,vi,vn,⟨nA,nn,nc⟩⟩:=v
  have hln:c.acks.length=nn:=by have:=ho.a.len;simpa using this
  have hpi:(0:Int)≤(kk:Int):=by omega
  have hpl:(kk:Int) < (nn:Int):=by omega
  obtain ⟨g,rfl,hgw⟩:∃ g,nA=some ⟨g,0,none⟩∧g < w.heap.size:=by
    rcases ho.a.cases with ⟨_,h0,_⟩ | ⟨g,h1,_,h2,_⟩
    · exact absurd (show nn=0 from h0) (by omega)
    · exact ⟨g,h1,h2⟩
  obtain ⟨p,g',off',hp,hA,y0,y1,y2,y3⟩:=RowK.at_ ho.a.row (k:=kk) (by rw [← hln];exact hkk)
  simp only [Option.some.injEq,Addr.mk.injEq,and_true] at hA
  obtain ⟨rfl,rfl⟩:=hA
  simp only [Nat.zero_add] at y0 y1 y2 y3
  have hpm:p∈c.acks:=List.mem_of_getElem? hp.out
  obtain ⟨hp1,hp2,hp3⟩:=hok.acks p hpm
  have HOK:=Lib.hid hok
  clear hok hpm
  have hE:Hid (ackC c 6 kk=ackd { c with acks:=dropK c.acks kk } p):=by
    unfold Hid ackC;rw [hp.out];rfl
  rw [hE.out]
  clear hE
  generalize hin:intact p=bi
  have HIN:Hid ((p.sum == pktSum p.number p.text p.ack)=bi):=hin
  clear hin
  have CB1:=Lib.hid (CB.side (CB.start ho hf hB) 84 zC)
  have CB2:=Lib.hid (CB.side CB1.out 164 p.cells)
  clear ho hf CB1 hln
  go_enter Tryz.func138,Tryz.ntmps138
  go_wp2_with fail
  refine Calls.mono (impl_drop_k ⟨some ⟨g,0,none⟩,nn,nc⟩ c.acks kk _ (by have:=HOK.out.la;omega) hkk ?_) ?_
  · exact CB2.out.ow.a
  rintro e w1 ⟨v',rfl,ho1,hb1⟩
  have CB3:=Lib.hid (CB.turn_a CB2.out ho1.zero (updBelow hb1 _) (Moved.of_below ho1))
  obtain ⟨x0,x1,x2,x3,x4,x5,xf,xz⟩:=CB.kept6 CB2.out (updBelow hb1 _) (fun q hq=>fpC_mem.2 (.inr (.inr (.inr hq))))
  obtain ⟨r0,r1,r2,r3,r4,r5,rf,rz⟩:=CB.res6 CB2.out (updBelow hb1 _) (fun q hq=>fpC_mem.2 (.inr (.inr (.inr hq)))) (b:=w.heap.size+1) (t:=84) (by simp)
  obtain ⟨p0,p1,p2,p3,pf,pz⟩:=CB.pkt4 CB2.out (updBelow hb1 _) (fun q hq=>fpC_mem.2 (.inr (.inr (.inr hq)))) (b:=w.heap.size+1+1) (t:=164) (p:=p) (by simp)
  clear ho1 hb1 CB2 y0 y1 y2 y3
  have hvq:Hid (vq.n=c.queue.length):=by have h1:=CB3.out.ow.q.len;simp at h1;exact h1.symm
  have hlq:c.queue.length≤8:=HOK.out.lq
  have hba:=HOK.out.b0
  have hbb:=HOK.out.b1
  go_wp2_with fail
  refine Calls.mono (impl_IsIntact_c p.ack p.number p.text p.sum _ hp2 hp3 hp1 (HT.out _ _ _ _ _ CB3.out)) ?_
  rw [HIN.out]
  rintro e w2 ⟨rfl,hb2⟩
  have CB4:=Lib.hid (CB.below CB3.out hb2)
  obtain ⟨x0,x1,x2,x3,x4,x5,xf,xz⟩:=CB.at6 CB4.out
  obtain ⟨r0,r1,r2,r3,r4,r5,rf,rz⟩:=CB.res6 CB4.out (Upd.refl [] _) (fun q hq=>by cases hq) (b:=w.heap.size+1) (t:=84) (by simp)
  obtain ⟨p0,p1,p2,p3,pf,pz⟩:=CB.pkt4 CB4.out (Upd.refl [] _) (fun q hq=>by cases hq) (b:=w.heap.size+1+1) (t:=164) (p:=p) (by simp)
  clear hb2 CB3
  have hno:∀ (h:¬ (bi=true∧p.ack=true∧c.base < p.number∧p.number≤c.base+c.queue.length)),Hid (ackd { c with acks:=dropK c.acks kk } p = { c with acks:=dropK c.acks kk }):=fun h=>by
    unfold Hid ackd;rw [if_neg];rintro ⟨h1,h2,h3,h4⟩;exact h ⟨HIN.out.symm.trans h1,h2,h3,h4⟩
  have HNO:=Lib.hid hno
  clear hno
  cases bi with
  | false =>
    have hE2:=HNO.out (by simp)
    go_wp2_with fail
    refine bodyPost_ret (v:=vChan ⟨vq,vi,vn,v'⟩ c.base c.expected) (by simp [*,results,Tryz.results138,go_sem]) rfl ?_
    rw [hE2.out]
    refine ⟨_,rfl,?_⟩
    exact CB.fin CB4.out (s:=⟨w.heap.size+1,84,zC⟩) (by simp) (((((((Upd.refl _ _).set_in (by simp) _).set_in (by simp) _).set_in (by simp) _).set_in (by simp) _).set_in (by simp) _).set_in (by simp) _)
  | true =>
    cases hack:p.ack with
    | false =>
      have hE2:=HNO.out (by rw [hack];simp)
      rw [hack] at p0
      go_wp2_with fail
      refine bodyPost_ret (v:=vChan ⟨vq,vi,vn,v'⟩ c.base c.expected) (by simp [*,results,Tryz.results138,go_sem]) rfl ?_
      rw [hE2.out]
      refine ⟨_,rfl,?_⟩
      exact CB.fin CB4.out (s:=⟨w.heap.size+1,84,zC⟩) (by simp) (((((((Upd.refl _ _).set_in (by simp) _).set_in (by simp) _).set_in (by simp) _).set_in (by simp) _).set_in (by simp) _).set_in (by simp) _)
    | true =>
      rw [hack] at p0
      have hw1:IntKind.i64.wrap (c.base+1)=c.base+1:=by rw [IntKind.wrap_i64];omega
      have hw2:IntKind.i64.wrap (c.base+(vq.n:Int))=c.base+(vq.n:Int):=by have:=hvq.out;rw [IntKind.wrap_i64];omega
      by_cases hrn:c.base < p.number∧p.number≤c.base+c.queue.length
      rotate_left
      · have hE2:=HNO.out (by rintro ⟨_,_,h3,h4⟩;exact hrn ⟨h3,h4⟩)
        have hrx:¬ (c.base < p.number∧p.number≤c.base+(vq.n:Int)):=by rw [hvq.out];exact hrn
        by_cases hr1:c.base < p.number
        · have hr2:¬ p.number≤c.base+(vq.n:Int):=fun h=>hrx ⟨hr1,h⟩
          clear hrx
          go_wp2_with fail
          refine bodyPost_ret (v:=vChan ⟨vq,vi,vn,v'⟩ c.base c.expected) (by simp [*,results,Tryz.results138,go_sem]) rfl ?_
          rw [hE2.out]
          refine ⟨_,rfl,?_⟩
          exact CB.fin CB4.out (s:=⟨w.heap.size+1,84,zC⟩) (by simp) (((((((Upd.refl _ _).set_in (by simp) _).set_in (by simp) _).set_in (by simp) _).set_in (by simp) _).set_in (by simp) _).set_in (by simp) _)
        · clear hrx
          go_wp2_with fail
          refine bodyPost_ret (v:=vChan ⟨vq,vi,vn,v'⟩ c.base c.expected) (by simp [*,results,Tryz.results138,go_sem]) rfl ?_
          rw [hE2.out]
          refine ⟨_,rfl,?_⟩
          exact CB.fin CB4.out (s:=⟨w.heap.size+1,84,zC⟩) (by simp) (((((((Upd.refl _ _).set_in (by simp) _).set_in (by simp) _).set_in (by simp) _).set_in (by simp) _).set_in (by simp) _).set_in (by simp) _)
      · obtain ⟨hr1,hr2⟩:=hrn
        obtain ⟨k0,hk0⟩:∃ k0:Nat,p.number=c.base+(k0:Int):=⟨(p.number - c.base).toNat,by omega⟩
        have hE2:Hid (ackd { c with acks:=dropK c.acks kk } p = { c with acks:=dropK c.acks kk,queue:=c.queue.drop k0,base:=c.base+(k0:Int) }):=by
          unfold Hid ackd
          rw [if_pos ⟨HIN.out,hack,hr1,hr2⟩,hk0]
          have e:(c.base+(k0:Int) - c.base).toNat=k0:=by omega
          simp only [e]
        have hk1:0 < k0:=by omega
        have hk8:(k0:Int)≤8:=by omega
        have hk2:k0≤vq.n:=by have:=hvq.out;omega
        rw [hk0] at p1
        have HK:=Lib.hid hk0
        clear hr1 hr2 hk0 HNO
        have hk3:(0:Int)≤(k0:Int):=by omega
        have hk4:(k0:Int)≤(vq.n:Int):=by omega
        have hr1:c.base < c.base+(k0:Int):=by omega
        have hr2:c.base+(k0:Int)≤c.base+(vq.n:Int):=by omega
        have hw3:IntKind.i64.wrap (c.base+(k0:Int) - c.base)=(k0:Int):=by rw [IntKind.wrap_i64];omega
        have hw4:IntKind.i64.wrap (k0:Int)=(k0:Int):=by rw [IntKind.wrap_i64];omega
        obtain ⟨qA,qn,qc⟩:=vq
        dsimp only at *
        obtain ⟨gq,rfl⟩:∃ gq,qA=some ⟨gq,0,none⟩:=by
          rcases CB4.out.ow.q.cases with ⟨_,h0,_⟩ | ⟨g,h1,_⟩
          · exact absurd (show qn=0 from h0) (by omega)
          · exact ⟨g,h1⟩
        obtain ⟨hqc,hqm⟩:=CB4.out.ow.q.nc
        dsimp only at hqc hqm
        unfold maxLen at hqm
        have hrow:=Lib.hid CB4.out.ow.q.row
        have hqi:(qn:Int)≤(qc:Int):=by omega
        have hq8:qn≤8:=by have:=hvq.out;omega
        have hql:Hid (c.queue.length=qn):=hvq.out.symm
        clear hvq
        by_cases hkc:k0=qc
        · subst hkc
          obtain rfl:qn=k0:=by omega
          have hdn:c.queue.drop qn=[]:=List.drop_of_length_le (by have:=hql.out;omega)
          have HDN:=Lib.hid hdn
          clear hdn
          go_wp2_with fail
          refine Calls.mono (copyStrings_k ⟨some ⟨gq,0,none⟩,0,0⟩ [] _ (by dsimp only;omega) ?_) ?_
          · exact Row.nilC _ _ _
          rintro e w5 ⟨A5,c5,rfl,ho5,hb5⟩
          obtain ⟨x0,x1,x2,x3,x4,x5,xf,xz⟩:=CB.kept6 CB4.out (updBelow hb5 []) (fun q hq=>by cases hq);obtain ⟨r0,r1,r2,r3,r4,r5,rf,rz⟩:=CB.res6 CB4.out (updBelow hb5 []) (fun q hq=>by cases hq) (b:=w.heap.size+1) (t:=84) (by simp);obtain ⟨p0,p1,p2,p3,pf,pz⟩:=CB.pkt4 CB4.out (updBelow hb5 []) (fun q hq=>by cases hq) (b:=w.heap.size+1+1) (t:=164) (p:=p) (by simp);rw [HK.out] at p1
          have CB6:=Lib.hid (CB.base (CB.turn_q CB4.out (v':=⟨A5,0,c5⟩) (l:=c.queue.drop qn) (by rw [HDN.out];exact ho5.zero) (updBelow hb5 _) (Moved.of_below ho5)) (c.base+(qn:Int)))
          clear CB4 ho5
          go_wp2_with fail
          refine bodyPost_ret (v:=vChan ⟨⟨A5,0,c5⟩,vi,vn,v'⟩ (c.base+(qn:Int)) c.expected) (by simp [*,results,Tryz.results138,go_sem]) rfl ?_
          rw [hE2.out]
          refine ⟨_,rfl,?_⟩
          exact CB.fin CB6.out (s:=⟨w.heap.size+1,84,zC⟩) (by simp) (((((((Upd.refl _ _).set_in (by simp) _).set_in (by simp) _).set_in (by simp) _).set_in (by simp) _).set_in (by simp) _).set_in (by simp) _)
        · have hkc2:¬ qc=k0:=fun e=>hkc e.symm
          go_wp2_with fail
          refine Calls.mono (copyStrings_k ⟨some ⟨gq,k0,none⟩,qn - k0,qc - k0⟩ (c.queue.drop k0) _ (by dsimp only;omega) ?_) ?_
          · have h9:=Row.dropC (k:=k0) hrow.out (by omega);rw [Nat.mul_one,Nat.zero_add] at h9;exact h9
          rintro e w5 ⟨A5,c5,rfl,ho5,hb5⟩
          obtain ⟨x0,x1,x2,x3,x4,x5,xf,xz⟩:=CB.kept6 CB4.out (updBelow hb5 []) (fun q hq=>by cases hq);obtain ⟨r0,r1,r2,r3,r4,r5,rf,rz⟩:=CB.res6 CB4.out (updBelow hb5 []) (fun q hq=>by cases hq) (b:=w.heap.size+1) (t:=84) (by simp);obtain ⟨p0,p1,p2,p3,pf,pz⟩:=CB.pkt4 CB4.out (updBelow hb5 []) (fun q hq=>by cases hq) (b:=w.heap.size+1+1) (t:=164) (p:=p) (by simp);rw [HK.out] at p1
          have CB6:=Lib.hid (CB.base (CB.turn_q CB4.out (v':=⟨A5,qn - k0,c5⟩) (l:=c.queue.drop k0) ho5.zero (updBelow hb5 _) (Moved.of_below ho5)) (c.base+(k0:Int)))
          clear CB4 ho5
          go_wp2_with fail
          refine bodyPost_ret (v:=vChan ⟨⟨A5,qn - k0,c5⟩,vi,vn,v'⟩ (c.base+(k0:Int)) c.expected) (by simp [*,results,Tryz.results138,go_sem]) rfl ?_
          rw [hE2.out]
          refine ⟨_,rfl,?_⟩
          exact CB.fin CB6.out (s:=⟨w.heap.size+1,84,zC⟩) (by simp) (((((((Upd.refl _ _).set_in (by simp) _).set_in (by simp) _).set_in (by simp) _).set_in (by simp) _).set_in (by simp) _).set_in (by simp) _)
end Go.Proofs.YtdfemnffpaopfaaGreatDoor
