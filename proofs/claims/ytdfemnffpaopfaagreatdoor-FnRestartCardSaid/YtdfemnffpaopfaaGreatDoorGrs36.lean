/- Texts of this proof, one behind the other: ChnV. -/
import Derived.Deep.RegionHeld3
import Derived.Test.YtdfemnffpaopfaaGreatDoorGrs35
namespace Go.Proofs.YtdfemnffpaopfaaGreatDoor
open Go.RowKit
set_option linter.unusedVariables false
set_option linter.unusedSimpArgs false
set_option maxHeartbeats 2000000
set_option maxRecDepth 100000
theorem CB.at_ {w0 w R:World} {fs:List Nat} {B b0:Nat} {v:CV} {c:Chan} {sd:List Side} (h:CB w0 fs B b0 v c sd w) (e:Hid (R=w)):CB w0 fs B b0 v c sd R:=by rw [e.out];exact h
structure OKC (m:Int) (c:Chan):Prop where
  m0:0≤m
  m1:m≤1000000
  q:∀ s∈c.queue,s.size≤4194304
  net:∀ p∈c.net,p.text.size≤4194304∧-9223372036854775808≤p.number∧p.number≤9223372036854775807
  acks:∀ p∈c.acks,p.text.size≤4194304∧-9223372036854775808≤p.number∧p.number≤9223372036854775807
  lq:c.queue.length≤8
  li:(c.inbox.length:Int)≤4194304+m
  ln:c.net.length≤12
  la:c.acks.length≤12
  b0:0≤c.base
  b1:c.base+c.queue.length≤1000008
  e0:0≤c.expected
  e1:c.expected≤1000008+m
theorem impl_net_4 (v:CV) (c:Chan) (kk:Nat) (Wb:World) (w:World) {m:Int} (hok:OKC m c) (hkk:kk < c.net.length) (ho:OwC w v c) (hf:Fresh Wb.heap.size w (fpC v)) (hB:Wb.heap.size≤w.heap.size) (hT:Tab Wb) (hWb:Below Wb.heap.size Wb w) :
    Calls Tryz.prog 136 #[vChan v c.base c.expected,.int .i64 4,.int .i64 (kk:Int)] w fun e w'=>CPost w (fpC v) Wb.heap.size (netC c 4 kk) e w':=by
  have hTT:∀ (b0:Nat) (v2:CV) (c2:Chan) (sd:List Side) (w':World),CB w (fpC v) Wb.heap.size b0 v2 c2 sd w'→Tab w':=fun _ _ _ _ _ h=>hT.below (bUpd hWb h.up hf.lo)
  have HT:=Lib.hid hTT
  clear hTT hT hWb
  obtain ⟨vq,vi,⟨nA,nn,nc⟩,va⟩:=v
  have hln:c.net.length=nn:=by have:=ho.n.len;simpa using this
  have hpi:(0:Int)≤(kk:Int):=by omega
  have hpl:(kk:Int) < (nn:Int):=by omega
  obtain ⟨g,rfl,hgw⟩:∃ g,nA=some ⟨g,0,none⟩∧g < w.heap.size:=by
    rcases ho.n.cases with ⟨_,h0,_⟩ | ⟨g,h1,_,h2,_⟩
    · exact absurd (show nn=0 from h0) (by omega)
    · exact ⟨g,h1,h2⟩
  obtain ⟨p,g',off',hp,hA,y0,y1,y2,y3⟩:=RowK.at_ ho.n.row (k:=kk) (by rw [← hln];exact hkk)
  simp only [Option.some.injEq,Addr.mk.injEq,and_true] at hA
  obtain ⟨rfl,rfl⟩:=hA
  simp only [Nat.zero_add] at y0 y1 y2 y3
  have hpm:p∈c.net:=List.mem_of_getElem? hp.out
  obtain ⟨hp1,hp2,hp3⟩:=hok.net p hpm
  have HOK:=Lib.hid hok
  clear hok hpm
  have hE:Hid (netC c 4 kk = { c with net:=putK c.net p }):=by
    unfold Hid netC;rw [hp.out];rfl
  rw [hE.out]
  clear hE
  have CB1:=Lib.hid (CB.side (CB.start ho hf hB) 84 zC)
  have CB2:=Lib.hid (CB.side CB1.out 164 p.cells)
  have hyf:∀ o,w.frozen? ⟨g,o,none⟩=false:=ho.n.frozen rfl
  clear ho hf CB1 hln
  go_enter Tryz.func136,Tryz.ntmps136
  go_wp2_with fail
  refine Calls.mono (impl_put_k ⟨some ⟨g,0,none⟩,nn,nc⟩ c.net p _ (by have:=HOK.out.ln;omega) ?_) ?_
  · exact CB2.out.ow.n
  rintro e w1 ⟨v',rfl,ho1,hu1,hv1⟩
  have CB3:=Lib.hid (CB.turn_n CB2.out ho1 hu1 hv1)
  obtain ⟨x0,x1,x2,x3,x4,x5,xf,xz⟩:=CB.kept6 CB2.out hu1 (fun q hq=>fpC_mem.2 (.inr (.inr (.inl hq))))
  obtain ⟨r0,r1,r2,r3,r4,r5,rf,rz⟩:=CB.res6 CB2.out hu1 (fun q hq=>fpC_mem.2 (.inr (.inr (.inl hq)))) (b:=w.heap.size+1) (t:=84) (by simp)
  clear ho1 hu1 hv1
  go_wp2_with fail
  refine bodyPost_ret (v:=vChan ⟨vq,vi,v',va⟩ c.base c.expected) (by simp [*,results,Tryz.results136,go_sem]) rfl ?_
  refine ⟨_,rfl,?_⟩
  exact CB.fin CB3.out (s:=⟨w.heap.size+1,84,zC⟩) (by simp) (((((((Upd.refl _ _).set_in (by simp) _).set_in (by simp) _).set_in (by simp) _).set_in (by simp) _).set_in (by simp) _).set_in (by simp) _)
theorem impl_net_5 (v:CV) (c:Chan) (kk:Nat) (Wb:World) (w:World) {m:Int} (hok:OKC m c) (hkk:kk < c.net.length) (ho:OwC w v c) (hf:Fresh Wb.heap.size w (fpC v)) (hB:Wb.heap.size≤w.heap.size) (hT:Tab Wb) (hWb:Below Wb.heap.size Wb w) :
    Calls Tryz.prog 136 #[vChan v c.base c.expected,.int .i64 5,.int .i64 (kk:Int)] w fun e w'=>CPost w (fpC v) Wb.heap.size (netC c 5 kk) e w':=by
  have hTT:∀ (b0:Nat) (v2:CV) (c2:Chan) (sd:List Side) (w':World),CB w (fpC v) Wb.heap.size b0 v2 c2 sd w'→Tab w':=fun _ _ _ _ _ h=>hT.below (bUpd hWb h.up hf.lo)
  have HT:=Lib.hid hTT
  clear hTT hT hWb
  obtain ⟨vq,vi,⟨nA,nn,nc⟩,va⟩:=v
  have hln:c.net.length=nn:=by have:=ho.n.len;simpa using this
  have hpi:(0:Int)≤(kk:Int):=by omega
  have hpl:(kk:Int) < (nn:Int):=by omega
  obtain ⟨g,rfl,hgw⟩:∃ g,nA=some ⟨g,0,none⟩∧g < w.heap.size:=by
    rcases ho.n.cases with ⟨_,h0,_⟩ | ⟨g,h1,_,h2,_⟩
    · exact absurd (show nn=0 from h0) (by omega)
    · exact ⟨g,h1,h2⟩
  obtain ⟨p,g',off',hp,hA,y0,y1,y2,y3⟩:=RowK.at_ ho.n.row (k:=kk) (by rw [← hln];exact hkk)
  simp only [Option.some.injEq,Addr.mk.injEq,and_true] at hA
  obtain ⟨rfl,rfl⟩:=hA
  simp only [Nat.zero_add] at y0 y1 y2 y3
  have hpm:p∈c.net:=List.mem_of_getElem? hp.out
  obtain ⟨hp1,hp2,hp3⟩:=hok.net p hpm
  have HOK:=Lib.hid hok
  clear hok hpm
  have hE:Hid (netC c 5 kk = { c with net:=spoilK c.net kk }):=by
    unfold Hid netC;rw [hp.out];rfl
  rw [hE.out]
  clear hE
  rw [spoilK_eq hp.out]
  generalize hW:IntKind.i64.wrap (p.sum+1)=SU
  have CB1:=Lib.hid (CB.side (CB.start ho hf hB) 84 zC)
  have CB2:=Lib.hid (CB.side CB1.out 164 p.cells)
  have hyf:∀ o,w.frozen? ⟨g,o,none⟩=false:=ho.n.frozen rfl
  clear ho hf CB1 hln
  go_enter Tryz.func136,Tryz.ntmps136
  have hb3:Below w.heap.size w (((w.alloc (.cells #[.slice vq.A vq.n vq.c,.int .i64 c.base,.int .i64 c.expected,.slice vi.A vi.n vi.c,.slice (some ⟨g,0,none⟩) nn nc,.slice va.A va.n va.c] 84)).alloc (.cells #[.slice none 0 0,.int .i64 0,.int .i64 0,.slice none 0 0,.slice none 0 0,.slice none 0 0] 84)).alloc (.cells #[.bool p.ack,.int .i64 p.number,.string p.text,.int .i64 p.sum] 164)):=bAlloc (bAlloc (bAlloc (Below.refl _ _) _) _) _
  have y33:=bCell hb3 y3
  have yf3:=fun o=>(bBoxF hb3 g hgw o).trans (hyf o)
  clear hb3
  have CB3:=Lib.hid (CB.spoil CB2.out rfl hp.out SU)
  go_wp2_with fail
  refine bodyPost_ret (v:=vChan ⟨vq,vi,⟨some ⟨g,0,none⟩,nn,nc⟩,va⟩ c.base c.expected) (by simp [*,results,Tryz.results136,go_sem]) rfl ?_
  refine ⟨_,rfl,?_⟩
  exact CB.fin CB3.out (s:=⟨w.heap.size+1,84,zC⟩) (by simp) (((((((Upd.refl _ _).set_in (by simp) _).set_in (by simp) _).set_in (by simp) _).set_in (by simp) _).set_in (by simp) _).set_in (by simp) _)
theorem impl_net_3 (v:CV) (c:Chan) (kk:Nat) (Wb:World) (w:World) {m:Int} (hok:OKC m c) (hkk:kk < c.net.length) (ho:OwC w v c) (hf:Fresh Wb.heap.size w (fpC v)) (hB:Wb.heap.size≤w.heap.size) (hT:Tab Wb) (hWb:Below Wb.heap.size Wb w) :
    Calls Tryz.prog 136 #[vChan v c.base c.expected,.int .i64 3,.int .i64 (kk:Int)] w fun e w'=>CPost w (fpC v) Wb.heap.size (netC c 3 kk) e w':=by
  have hTT:∀ (b0:Nat) (v2:CV) (c2:Chan) (sd:List Side) (w':World),CB w (fpC v) Wb.heap.size b0 v2 c2 sd w'→Tab w':=fun _ _ _ _ _ h=>hT.below (bUpd hWb h.up hf.lo)
  have HT:=Lib.hid hTT
  clear hTT hT hWb
  obtain ⟨vq,vi,⟨nA,nn,nc⟩,va⟩:=v
  have hln:c.net.length=nn:=by have:=ho.n.len;simpa using this
  have hpi:(0:Int)≤(kk:Int):=by omega
  have hpl:(kk:Int) < (nn:Int):=by omega
  obtain ⟨g,rfl,hgw⟩:∃ g,nA=some ⟨g,0,none⟩∧g < w.heap.size:=by
    rcases ho.n.cases with ⟨_,h0,_⟩ | ⟨g,h1,_,h2,_⟩
    · exact absurd (show nn=0 from h0) (by omega)
    · exact ⟨g,h1,h2⟩
  obtain ⟨p,g',off',hp,hA,y0,y1,y2,y3⟩:=RowK.at_ ho.n.row (k:=kk) (by rw [← hln];exact hkk)
  simp only [Option.some.injEq,Addr.mk.injEq,and_true] at hA
  obtain ⟨rfl,rfl⟩:=hA
  simp only [Nat.zero_add] at y0 y1 y2 y3
  have hpm:p∈c.net:=List.mem_of_getElem? hp.out
  obtain ⟨hp1,hp2,hp3⟩:=hok.net p hpm
  have HOK:=Lib.hid hok
  clear hok hpm
  have hE:Hid (netC c 3 kk = { c with net:=dropK c.net kk }):=by
    unfold Hid netC;rw [hp.out];rfl
  rw [hE.out]
  clear hE
  have CB1:=Lib.hid (CB.side (CB.start ho hf hB) 84 zC)
  have CB2:=Lib.hid (CB.side CB1.out 164 p.cells)
  have hyf:∀ o,w.frozen? ⟨g,o,none⟩=false:=ho.n.frozen rfl
  clear ho hf CB1 hln
  go_enter Tryz.func136,Tryz.ntmps136
  go_wp2_with fail
  refine Calls.mono (impl_drop_k ⟨some ⟨g,0,none⟩,nn,nc⟩ c.net kk _ (by have:=HOK.out.ln;omega) hkk ?_) ?_
  · exact CB2.out.ow.n
  rintro e w1 ⟨v',rfl,ho1,hb1⟩
  have CB3:=Lib.hid (CB.turn_n CB2.out ho1.zero (updBelow hb1 _) (Moved.of_below ho1))
  obtain ⟨x0,x1,x2,x3,x4,x5,xf,xz⟩:=CB.kept6 CB2.out (updBelow hb1 _) (fun q hq=>fpC_mem.2 (.inr (.inr (.inl hq))))
  obtain ⟨r0,r1,r2,r3,r4,r5,rf,rz⟩:=CB.res6 CB2.out (updBelow hb1 _) (fun q hq=>fpC_mem.2 (.inr (.inr (.inl hq)))) (b:=w.heap.size+1) (t:=84) (by simp)
  obtain ⟨p0,p1,p2,p3,pf,pz⟩:=CB.pkt4 CB2.out (updBelow hb1 _) (fun q hq=>fpC_mem.2 (.inr (.inr (.inl hq)))) (b:=w.heap.size+1+1) (t:=164) (p:=p) (by simp)
  clear ho1 hb1 CB2 y0 y1 y2 y3 hyf
  go_wp2_with fail
  refine bodyPost_ret (v:=vChan ⟨vq,vi,v',va⟩ c.base c.expected) (by simp [*,results,Tryz.results136,go_sem]) rfl ?_
  refine ⟨_,rfl,?_⟩
  exact CB.fin CB3.out (s:=⟨w.heap.size+1,84,zC⟩) (by simp) (((((((Upd.refl _ _).set_in (by simp) _).set_in (by simp) _).set_in (by simp) _).set_in (by simp) _).set_in (by simp) _).set_in (by simp) _)
theorem impl_net_2 (v:CV) (c:Chan) (kk:Nat) (Wb:World) (w:World) {m:Int} (hok:OKC m c) (hkk:kk < c.net.length) (ho:OwC w v c) (hf:Fresh Wb.heap.size w (fpC v)) (hB:Wb.heap.size≤w.heap.size) (hT:Tab Wb) (hWb:Below Wb.heap.size Wb w) :
    Calls Tryz.prog 136 #[vChan v c.base c.expected,.int .i64 2,.int .i64 (kk:Int)] w fun e w'=>CPost w (fpC v) Wb.heap.size (netC c 2 kk) e w':=by
  have hTT:∀ (b0:Nat) (v2:CV) (c2:Chan) (sd:List Side) (w':World),CB w (fpC v) Wb.heap.size b0 v2 c2 sd w'→Tab w':=fun _ _ _ _ _ h=>hT.below (bUpd hWb h.up hf.lo)
  have HT:=Lib.hid hTT
  clear hTT hT hWb
  obtain ⟨vq,vi,⟨nA,nn,nc⟩,va⟩:=v
  have hln:c.net.length=nn:=by have:=ho.n.len;simpa using this
  have hpi:(0:Int)≤(kk:Int):=by omega
  have hpl:(kk:Int) < (nn:Int):=by omega
  obtain ⟨g,rfl,hgw⟩:∃ g,nA=some ⟨g,0,none⟩∧g < w.heap.size:=by
    rcases ho.n.cases with ⟨_,h0,_⟩ | ⟨g,h1,_,h2,_⟩
    · exact absurd (show nn=0 from h0) (by omega)
    · exact ⟨g,h1,h2⟩
  obtain ⟨p,g',off',hp,hA,y0,y1,y2,y3⟩:=RowK.at_ ho.n.row (k:=kk) (by rw [← hln];exact hkk)
  simp only [Option.some.injEq,Addr.mk.injEq,and_true] at hA
  obtain ⟨rfl,rfl⟩:=hA
  simp only [Nat.zero_add] at y0 y1 y2 y3
  have hpm:p∈c.net:=List.mem_of_getElem? hp.out
  obtain ⟨hp1,hp2,hp3⟩:=hok.net p hpm
  have HOK:=Lib.hid hok
  clear hok hpm
  have hE:Hid (netC c 2 kk=dlv { c with net:=dropK c.net kk } p):=by
    unfold Hid netC;rw [hp.out];rfl
  rw [hE.out]
  clear hE
  generalize hin:intact p=bi
  have HIN:Hid ((p.sum == pktSum p.number p.text p.ack)=bi):=hin
  clear hin
  have CB1:=Lib.hid (CB.side (CB.start ho hf hB) 84 zC)
  have CB2:=Lib.hid (CB.side CB1.out 164 p.cells)
  have hyf:∀ o,w.frozen? ⟨g,o,none⟩=false:=ho.n.frozen rfl
  clear ho hf CB1 hln
  go_enter Tryz.func136,Tryz.ntmps136
  go_wp2_with fail
  refine Calls.mono (impl_drop_k ⟨some ⟨g,0,none⟩,nn,nc⟩ c.net kk _ (by have:=HOK.out.ln;omega) hkk ?_) ?_
  · exact CB2.out.ow.n
  rintro e w1 ⟨v',rfl,ho1,hb1⟩
  have CB3:=Lib.hid (CB.turn_n CB2.out ho1.zero (updBelow hb1 _) (Moved.of_below ho1))
  obtain ⟨x0,x1,x2,x3,x4,x5,xf,xz⟩:=CB.kept6 CB2.out (updBelow hb1 _) (fun q hq=>fpC_mem.2 (.inr (.inr (.inl hq))))
  obtain ⟨r0,r1,r2,r3,r4,r5,rf,rz⟩:=CB.res6 CB2.out (updBelow hb1 _) (fun q hq=>fpC_mem.2 (.inr (.inr (.inl hq)))) (b:=w.heap.size+1) (t:=84) (by simp)
  obtain ⟨p0,p1,p2,p3,pf,pz⟩:=CB.pkt4 CB2.out (updBelow hb1 _) (fun q hq=>fpC_mem.2 (.inr (.inr (.inl hq)))) (b:=w.heap.size+1+1) (t:=164) (p:=p) (by simp)
  clear ho1 hb1 CB2 y0 y1 y2 y3 hyf
  go_wp2_with fail
  refine Calls.mono (impl_IsIntact_c p.ack p.number p.text p.sum _ hp2 hp3 hp1 (HT.out _ _ _ _ _ CB3.out)) ?_
  rw [HIN.out]
  rintro e w2 ⟨rfl,hb2⟩
  have CB4:=Lib.hid (CB.below CB3.out hb2)
  obtain ⟨x0,x1,x2,x3,x4,x5,xf,xz⟩:=CB.at6 CB4.out
  obtain ⟨r0,r1,r2,r3,r4,r5,rf,rz⟩:=CB.res6 CB4.out (Upd.refl [] _) (fun q hq=>by cases hq) (b:=w.heap.size+1) (t:=84) (by simp)
  obtain ⟨p0,p1,p2,p3,pf,pz⟩:=CB.pkt4 CB4.out (Upd.refl [] _) (fun q hq=>by cases hq) (b:=w.heap.size+1+1) (t:=164) (p:=p) (by simp)
  clear hb2 CB3
  by_cases hyes:bi=true∧p.ack=false
  rotate_left
  · have hE2:Hid (dlv { c with net:=dropK c.net kk } p = { c with net:=dropK c.net kk }):=by
      unfold Hid dlv;rw [if_neg];rintro ⟨h1,h2⟩;exact hyes ⟨HIN.out.symm.trans h1,h2⟩
    cases hb:bi
    · subst hb
      go_wp2_with fail
      refine bodyPost_ret (v:=vChan ⟨vq,vi,v',va⟩ c.base c.expected) (by simp [*,results,Tryz.results136,go_sem]) rfl ?_
      rw [hE2.out]
      refine ⟨_,rfl,?_⟩
      exact CB.fin CB4.out (s:=⟨w.heap.size+1,84,zC⟩) (by simp) (((((((Upd.refl _ _).set_in (by simp) _).set_in (by simp) _).set_in (by simp) _).set_in (by simp) _).set_in (by simp) _).set_in (by simp) _)
    · subst hb
      have hack:p.ack=true:=by cases hq:p.ack with | true=>rfl | false=>exact absurd ⟨rfl,hq⟩ hyes
      rw [hack] at p0
      go_wp2_with fail
      refine bodyPost_ret (v:=vChan ⟨vq,vi,v',va⟩ c.base c.expected) (by simp [*,results,Tryz.results136,go_sem]) rfl ?_
      rw [hE2.out]
      refine ⟨_,rfl,?_⟩
      exact CB.fin CB4.out (s:=⟨w.heap.size+1,84,zC⟩) (by simp) (((((((Upd.refl _ _).set_in (by simp) _).set_in (by simp) _).set_in (by simp) _).set_in (by simp) _).set_in (by simp) _).set_in (by simp) _)
  obtain ⟨rfl,hack⟩:=hyes
  rw [hack] at p0
  have hvi:vi.n=c.inbox.length:=by have h1:=CB4.out.ow.i.len;simp at h1;exact h1.symm
  have hvi2:(vi.n:Int)≤5194304:=by have h1:=HOK.out.li;have h2:=HOK.out.m1;omega
  have hex:0≤c.expected∧c.expected≤2000008:=by have h1:=HOK.out.e0;have h2:=HOK.out.e1;have h3:=HOK.out.m1;exact ⟨h1,by omega⟩
  obtain ⟨hex0,hex1⟩:=hex
  have hla:c.acks.length≤4194304:=by have:=HOK.out.la;omega
  clear hvi
  by_cases hnum:p.number=c.expected
  · have hE2:Hid (dlv { c with net:=dropK c.net kk } p = { c with net:=dropK c.net kk,inbox:=c.inbox++[p.text],expected:=c.expected+1,acks:=putK c.acks (newPkt true (c.expected+1) ⟨#[]⟩) }):=by
      unfold Hid dlv;rw [if_pos ⟨HIN.out,hack⟩,if_pos hnum]
    have hw:IntKind.i64.wrap (c.expected+1)=c.expected+1:=by rw [IntKind.wrap_i64];omega
    obtain ⟨i0,hii,hq0,hq1,hq2⟩:=info_parts info_String
    rw [hnum] at p1
    clear hnum
    have tok:True:=trivial
    go_wp2_with (at_builtin;have _t:=tok;refine wpList_append rfl (.tmp 60) (.tmp 63) 81 rfl 0 9 1 16 i0 _ Tryz.underlying81 hii hq0 hq1 hq2 rfl (by omega) vi.A vi.n vi.c (c.inbox.map strCells) rfl (CB4.out.ow.i.alloc_ _) _ 1 1 [[.string p.text]] rfl (Row.new1' _ _ [.string p.text] 1 _ (by simp)) (by simp) (by simp [Value.oneCell']) (by simp only [maxLen];omega) (by omega) (Nat.zero_le _) ?_;clear tok _t;intro A5 c5 w5 ho5 hg5 hat5;have u5:Upd (obl vi.A) w2 w5:=((Upd.refl _ _).alloc_ _).trans (Upd.of_row hg5);obtain ⟨x0,x1,x2,x3,x4,x5,xf,xz⟩:=CB.kept6 CB4.out u5 (fun q hq=>fpC_mem.2 (.inr (.inl hq)));obtain ⟨r0,r1,r2,r3,r4,r5,rf,rz⟩:=CB.res6 CB4.out u5 (fun q hq=>fpC_mem.2 (.inr (.inl hq))) (b:=w.heap.size+1) (t:=84) (by simp))
    have hv5:Moved w2 vi ⟨A5,vi.n+1,c5⟩:=fun q hq=>by
      rcases hat5 with h1 | h1
      · exact .inl (mem_obl.2 (h1 ▸ mem_obl.1 hq))
      · right
        have h2:=mem_obl.1 hq
        rw [h1] at h2
        have:=Option.some.inj h2
        simp at this;omega
    have CB5:=CB.turn_i CB4.out (v':=⟨A5,vi.n+1,c5⟩) (l:=c.inbox++[p.text]) (by rw [List.map_append];exact ho5) u5 hv5
    have CB6:=Lib.hid (CB.exp CB5 (c.expected+1))
    clear CB5 ho5 hg5 hat5 u5 hv5 CB4
    refine region_at fun R hR=>?_
    have CBR:=Lib.hid (CB.at_ CB6.out hR)
    have CBD:=Lib.hid (CB.below CBR.out (bDrew (Below.refl _ _)))
    obtain ⟨x0,x1,x2,x3,x4,x5,xf,xz⟩:=CB.at6 CBR.out
    obtain ⟨r0,r1,r2,r3,r4,r5,rf,rz⟩:=CB.res6 CBR.out (Upd.refl [] _) (fun q hq=>by cases hq) (b:=w.heap.size+1) (t:=84) (by simp)
    clear hR CB6
    go_region_law (first
      | (go_simp;go_at_call 135;refine (impl_pkt_true (c.expected+1) ⟨#[]⟩ _ (by omega) (by omega) (by decide) (HT.out _ _ _ _ _ CBD.out)).mono ?_;rintro e w7 ⟨rfl,hb7⟩;have CB7:=Lib.hid (CB.below CBD.out hb7);obtain ⟨x0,x1,x2,x3,x4,x5,xf,xz⟩:=CB.at6 CB7.out;obtain ⟨r0,r1,r2,r3,r4,r5,rf,rz⟩:=CB.res6 CB7.out (Upd.refl [] _) (fun q hq=>by cases hq) (b:=w.heap.size+1) (t:=84) (by simp))
      | (go_simp;go_at_call 134;refine (impl_put_k va c.acks (newPkt true (c.expected+1) ⟨#[]⟩) _ hla ?_).mono ?_;exact CB7.out.ow.a;rintro e w8 ⟨v8,rfl,ho8,hu8,hv8⟩;have CB8:=Lib.hid (CB.turn_a CB7.out ho8 hu8 hv8);obtain ⟨x0,x1,x2,x3,x4,x5,xf,xz⟩:=CB.kept6 CB7.out hu8 (fun q hq=>fpC_mem.2 (.inr (.inr (.inr hq))));obtain ⟨r0,r1,r2,r3,r4,r5,rf,rz⟩:=CB.res6 CB7.out hu8 (fun q hq=>fpC_mem.2 (.inr (.inr (.inr hq)))) (b:=w.heap.size+1) (t:=84) (by simp)))
    all_goals
      clear CB7
      go_wp2_with fail
      refine bodyPost_ret (v:=vChan ⟨vq,⟨A5,vi.n+1,c5⟩,v',v8⟩ c.base (c.expected+1)) (by simp [*,results,Tryz.results136,go_sem]) rfl ?_
      rw [hE2.out]
      refine ⟨_,rfl,?_⟩
      exact CB.fin CB8.out (s:=⟨w.heap.size+1,84,zC⟩) (by simp) (((((((Upd.refl _ _).set_in (by simp) _).set_in (by simp) _).set_in (by simp) _).set_in (by simp) _).set_in (by simp) _).set_in (by simp) _)
  · have hE2:Hid (dlv { c with net:=dropK c.net kk } p = { c with net:=dropK c.net kk,acks:=putK c.acks (newPkt true c.expected ⟨#[]⟩) }):=by
      unfold Hid dlv;rw [if_pos ⟨HIN.out,hack⟩,if_neg hnum]
    go_wp2_with fail
    refine region_at fun R hR=>?_
    have CBR:=Lib.hid (CB.at_ CB4.out hR)
    have CBD:=Lib.hid (CB.below CBR.out (bDrew (Below.refl _ _)))
    obtain ⟨x0,x1,x2,x3,x4,x5,xf,xz⟩:=CB.at6 CBR.out
    obtain ⟨r0,r1,r2,r3,r4,r5,rf,rz⟩:=CB.res6 CBR.out (Upd.refl [] _) (fun q hq=>by cases hq) (b:=w.heap.size+1) (t:=84) (by simp)
    clear hR CB4
    go_region_law (first
      | (go_simp;go_at_call 135;refine (impl_pkt_true c.expected ⟨#[]⟩ _ (by omega) (by omega) (by decide) (HT.out _ _ _ _ _ CBD.out)).mono ?_;rintro e w7 ⟨rfl,hb7⟩;have CB7:=Lib.hid (CB.below CBD.out hb7);obtain ⟨x0,x1,x2,x3,x4,x5,xf,xz⟩:=CB.at6 CB7.out;obtain ⟨r0,r1,r2,r3,r4,r5,rf,rz⟩:=CB.res6 CB7.out (Upd.refl [] _) (fun q hq=>by cases hq) (b:=w.heap.size+1) (t:=84) (by simp))
      | (go_simp;go_at_call 134;refine (impl_put_k va c.acks (newPkt true c.expected ⟨#[]⟩) _ hla ?_).mono ?_;exact CB7.out.ow.a;rintro e w8 ⟨v8,rfl,ho8,hu8,hv8⟩;have CB8:=Lib.hid (CB.turn_a CB7.out ho8 hu8 hv8);obtain ⟨x0,x1,x2,x3,x4,x5,xf,xz⟩:=CB.kept6 CB7.out hu8 (fun q hq=>fpC_mem.2 (.inr (.inr (.inr hq))));obtain ⟨r0,r1,r2,r3,r4,r5,rf,rz⟩:=CB.res6 CB7.out hu8 (fun q hq=>fpC_mem.2 (.inr (.inr (.inr hq)))) (b:=w.heap.size+1) (t:=84) (by simp)))
    all_goals
      clear CB7
      go_wp2_with fail
      refine bodyPost_ret (v:=vChan ⟨vq,vi,v',v8⟩ c.base c.expected) (by simp [*,results,Tryz.results136,go_sem]) rfl ?_
      rw [hE2.out]
      refine ⟨_,rfl,?_⟩
      exact CB.fin CB8.out (s:=⟨w.heap.size+1,84,zC⟩) (by simp) (((((((Upd.refl _ _).set_in (by simp) _).set_in (by simp) _).set_in (by simp) _).set_in (by simp) _).set_in (by simp) _).set_in (by simp) _)
end Go.Proofs.YtdfemnffpaopfaaGreatDoor
