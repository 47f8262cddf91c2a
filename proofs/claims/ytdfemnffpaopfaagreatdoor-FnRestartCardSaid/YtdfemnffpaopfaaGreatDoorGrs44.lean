/- Texts of this proof, one behind the other: ChnI1, ChnI2. -/
import Derived.Test.YtdfemnffpaopfaaGreatDoorGrs38
namespace Go.Proofs.YtdfemnffpaopfaaGreatDoor
open Go.RowKit
set_option linter.unusedVariables false
set_option linter.unusedSimpArgs false
set_option maxHeartbeats 4000000
set_option maxRecDepth 100000
theorem impl_step_1 (v:CV) (c:Chan) (at_:Int) (w:World) {m:Int} (hok:OKC m c) (hfw:fewC c) (hr:RdC w v c) (hat:-9223372036854775808≤at_∧at_≤9223372036854775807) (hT:Tab w) :
    Calls Tryz.prog 89 #[vChan v c.base c.expected,(.int .i64 1),.int .i64 at_] w fun e w'=>SPost w (moveC c 1 at_) e w':=by
  have OK:=Lib.hid hok
  have HAT:=Lib.hid hat
  have HT:=Lib.hid hT
  clear hok hat hT
  go_enter Tryz.func89,Tryz.ntmps89
  go_wp2_with fail
  refine Calls.mono (copyChannel_k v c _ hfw ?_) ?_
  · exact hr.below (bAlloc (bAlloc (Below.refl _ _) _) _)
  rintro e w1 ⟨v1,rfl,ho,hf,hb1⟩
  have hbx:=Lib.hid (Own.below (Own.box (t:=84) (cs:=cChan v c.base c.expected) (sz:=6) (box2 w _ _) rfl) hb1)
  have hsd:Hid (∀ s∈[(⟨w.heap.size+1,84,zC⟩:Side)],s.ok w1∧s.b < w.heap.size+2∧s.b≠w.heap.size∧w.heap.size≤s.b):=by
    intro s hs
    simp only [List.mem_cons,List.not_mem_nil,or_false] at hs
    subst hs
    exact ⟨Side.below (w:=_) (Own.box (box_new2 w _ _) rfl) hb1,by simp,by simp,by simp⟩
  have H1:=Lib.hid (bTrans (bAlloc (bAlloc (Below.refl w.heap.size w) _) _) hb1)
  have hf':=hf.rebase (show w.heap.size+2≤_ by simp)
  have ho:=Lib.hid ho
  have hf:=Lib.hid hf'
  clear hf' hb1
  have hqn:v1.q.n=c.queue.length:=by have h1:=ho.out.q.len;rw [List.length_map] at h1;exact h1.symm
  have hnn:v1.n.n=c.net.length:=by have h1:=ho.out.n.len;rw [List.length_map] at h1;exact h1.symm
  have han:v1.a.n=c.acks.length:=by have h1:=ho.out.a.len;rw [List.length_map] at h1;exact h1.symm
  have HQN:=Lib.hid hqn;have HNN:=Lib.hid hnn;have HAN:=Lib.hid han
  clear hqn hnn han
  · obtain ⟨⟨qA,qn,qc⟩,vi,vn,va⟩:=v1
    have hq8:qn≤8:=by have h1:=OK.out.lq;have h2:qn=c.queue.length:=HQN.out;omega
    have hb0:=OK.out.b0
    have hb1:c.base≤1000008:=by have:=OK.out.b1;omega
    have hTW:Hid (∀ (b0:Nat) (v2:CV) (c2:Chan) (sd:List Side) (w':World),CB w [] w.heap.size b0 v2 c2 sd w'→Tab w'):=fun _ _ _ _ _ h=>HT.out.below (below_upd h.up)
    have tok:True:=trivial
    go_wp2_with (have _t:=tok;refine wpList_store_elem rfl 84 (.tmp 3) (.tmp 9) rfl 0 84 6 1 1 w.heap.size 0 0 rfl _ rfl _ (cChan ⟨⟨qA,qn,qc⟩,vi,vn,va⟩ c.base c.expected) rfl rfl rfl (one_of rfl) sz_Chan hbx.out (by omega) ?_;clear tok _t;intro w2 hx2 hg2;have CB1:=Lib.hid (CB.start3 (sd:=[⟨w.heap.size+1,84,zC⟩]) ho.out hf.out H1.out (Nat.le_refl _) (by omega) hx2 hg2 hsd.out);obtain ⟨x0,x1,x2,x3,x4,x5,xf,xz⟩:=CB.at6 CB1.out;obtain ⟨r0,r1,r2,r3,r4,r5,rf,rz⟩:=CB.res6 CB1.out (Upd.refl [] _) (fun q hq=>by cases hq) (b:=w.heap.size+1) (t:=84) (by simp);clear hx2 hg2)
    go_loopw [7] (fun i wr=>∃ (k:Nat) (vn':Sv),i=.int .i64 (k:Int)∧k≤qn∧CB w [] w.heap.size w.heap.size ⟨⟨qA,qn,qc⟩,vi,vn',va⟩ { c with net:=sentK c k } [⟨w.heap.size+1,84,zC⟩] wr) (fun i _=>qn - (intOf i).toNat)
    case atStart=>exact ⟨0,vn,rfl,Nat.zero_le _,by rw [sentK_zero];exact CB1.out⟩
    case round =>
      obtain ⟨k,vn',rfl,hk,hcb⟩:=hrel
      have CBW:=Lib.hid hcb
      obtain ⟨x0,x1,x2,x3,x4,x5,xf,xz⟩:=CB.at6 CBW.out
      obtain ⟨r0,r1,r2,r3,r4,r5,rf,rz⟩:=CB.res6 CBW.out (Upd.refl [] _) (fun q hq=>by cases hq) (b:=w.heap.size+1) (t:=84) (by simp)
      clear hcb CB1
      by_cases hlt:k < qn∧k < 3
      · obtain ⟨hlt,h3⟩:=hlt
        obtain ⟨s,g,off,hs,hA,hc⟩:=RowS.at_ CBW.out.ow.q.row hlt
        dsimp only at hA
        subst hA
        have hs8:s.size≤4194304:=OK.out.q s (List.mem_of_getElem? hs.out)
        have hk0:(0:Int)≤(k:Int):=by omega
        have hk1:(k:Int) < (qn:Int):=by omega
        have h3':(k:Int) < 3:=by omega
        have hw:IntKind.i64.wrap (c.base+(k:Int))=c.base+(k:Int):=by rw [IntKind.wrap_i64];omega
        have hS:=Lib.hid (sentK_next c h3 hs.out)
        have hnl:=sentK_len c k OK.out.ln
        have hpk:=fun W hT=>impl_pkt_false (c.base+(k:Int)) s W (by omega) (by omega) hs8 hT
        clear hs
        go_wp2_with fail
        refine region_at fun R hR=>?_
        have CBR:=Lib.hid (CB.at_ CBW.out hR)
        have CBD:=Lib.hid (CB.below CBR.out (bDrew (Below.refl _ _)))
        have hcR:R.cell? ⟨g,off+k,none⟩=some (.string s):=by rw [hR.out];exact hc
        obtain ⟨x0,x1,x2,x3,x4,x5,xf,xz⟩:=CB.at6 CBR.out
        obtain ⟨r0,r1,r2,r3,r4,r5,rf,rz⟩:=CB.res6 CBR.out (Upd.refl [] _) (fun q hq=>by cases hq) (b:=w.heap.size+1) (t:=84) (by simp)
        have hgR:=cell_lt hcR
        clear hR CBW hc
        go_region_law (first
          | (go_simp;go_at_call 135;refine (hpk _ (hTW.out _ _ _ _ _ CBD.out)).mono ?_;rintro e w7 ⟨rfl,hb7⟩;have CB7:=Lib.hid (CB.below CBD.out hb7);obtain ⟨x0,x1,x2,x3,x4,x5,xf,xz⟩:=CB.at6 CB7.out)
          | (go_simp;go_at_call 134;refine (impl_put_k vn' (sentK c k) (newPkt false (c.base+(k:Int)) s) _ (by omega) ?_).mono ?_;exact CB7.out.ow.n;rintro e w8 ⟨v8,rfl,ho8,hu8,hv8⟩;have CB8:=Lib.hid (CB.turn_n CB7.out ho8 hu8 hv8);obtain ⟨x0,x1,x2,x3,x4,x5,xf,xz⟩:=CB.kept6 CB7.out hu8 (fun q hq=>fpC_mem.2 (.inr (.inr (.inl hq))))))
        all_goals
          rw [← hS.out] at CB8
          clear CB7 CBR CBD hpk hcR
          go_wp2_with fail
          exact ⟨⟨k+1,v8,by simp,by omega,CB8.out⟩,by simp only [intOf];omega⟩
      · have hE:Hid (moveC c 1 at_ = { c with net:=sentK c k }):=by
          unfold Hid;show sendC c = _;unfold sendC;rw [sentK_end c (by have h1:qn=c.queue.length:=HQN.out;omega)]
        by_cases h3:(k:Int) < 3
        · have hkn:¬ (k:Int) < (qn:Int):=by omega
          clear hlt
          go_wp2_with fail
          refine bodyPost_ret (v:=vChan ⟨⟨qA,qn,qc⟩,vi,vn',va⟩ c.base c.expected) (by simp [*,results,Tryz.results89,go_sem]) rfl ?_
          rw [hE.out]
          exact SPost.mk (b0:=0) (CB.fin CBW.out (s:=⟨w.heap.size+1,84,zC⟩) (by simp) (((((((Upd.refl _ _).set_in (by simp) _).set_in (by simp) _).set_in (by simp) _).set_in (by simp) _).set_in (by simp) _).set_in (by simp) _))
        · clear hlt
          go_wp2_with fail
          refine bodyPost_ret (v:=vChan ⟨⟨qA,qn,qc⟩,vi,vn',va⟩ c.base c.expected) (by simp [*,results,Tryz.results89,go_sem]) rfl ?_
          rw [hE.out]
          exact SPost.mk (b0:=0) (CB.fin CBW.out (s:=⟨w.heap.size+1,84,zC⟩) (by simp) (((((((Upd.refl _ _).set_in (by simp) _).set_in (by simp) _).set_in (by simp) _).set_in (by simp) _).set_in (by simp) _).set_in (by simp) _))
theorem impl_step_2 (v:CV) (c:Chan) (at_:Int) (w:World) {m:Int} (hok:OKC m c) (hfw:fewC c) (hr:RdC w v c) (hat:-9223372036854775808≤at_∧at_≤9223372036854775807) (hT:Tab w) :
    Calls Tryz.prog 89 #[vChan v c.base c.expected,(.int .i64 2),.int .i64 at_] w fun e w'=>SPost w (moveC c 2 at_) e w':=by
  have OK:=Lib.hid hok
  have HAT:=Lib.hid hat
  have HT:=Lib.hid hT
  clear hok hat hT
  go_enter Tryz.func89,Tryz.ntmps89
  go_wp2_with fail
  refine Calls.mono (copyChannel_k v c _ hfw ?_) ?_
  · exact hr.below (bAlloc (bAlloc (Below.refl _ _) _) _)
  rintro e w1 ⟨v1,rfl,ho,hf,hb1⟩
  have hbx:=Lib.hid (Own.below (Own.box (t:=84) (cs:=cChan v c.base c.expected) (sz:=6) (box2 w _ _) rfl) hb1)
  have hsd:Hid (∀ s∈[(⟨w.heap.size+1,84,zC⟩:Side)],s.ok w1∧s.b < w.heap.size+2∧s.b≠w.heap.size∧w.heap.size≤s.b):=by
    intro s hs
    simp only [List.mem_cons,List.not_mem_nil,or_false] at hs
    subst hs
    exact ⟨Side.below (w:=_) (Own.box (box_new2 w _ _) rfl) hb1,by simp,by simp,by simp⟩
  have H1:=Lib.hid (bTrans (bAlloc (bAlloc (Below.refl w.heap.size w) _) _) hb1)
  have hf':=hf.rebase (show w.heap.size+2≤_ by simp)
  have ho:=Lib.hid ho
  have hf:=Lib.hid hf'
  clear hf' hb1
  have hqn:v1.q.n=c.queue.length:=by have h1:=ho.out.q.len;rw [List.length_map] at h1;exact h1.symm
  have hnn:v1.n.n=c.net.length:=by have h1:=ho.out.n.len;rw [List.length_map] at h1;exact h1.symm
  have han:v1.a.n=c.acks.length:=by have h1:=ho.out.a.len;rw [List.length_map] at h1;exact h1.symm
  have HQN:=Lib.hid hqn;have HNN:=Lib.hid hnn;have HAN:=Lib.hid han
  clear hqn hnn han
  · by_cases h0:c.net=[]
    · have hE:Hid (moveC c 2 at_=c):=by unfold Hid moveC;rw [if_neg (by decide),if_pos (by decide)];rw [if_pos h0]
      have hz:¬ (0:Int) < (v1.n.n:Int):=by have:=HNN.out;rw [h0] at this;simp at this;omega
      clear h0
      have tok:True:=trivial
      go_wp2_with (have _t:=tok;refine wpList_store_elem rfl 84 (.tmp 3) (.tmp 9) rfl 0 84 6 1 1 w.heap.size 0 0 rfl _ rfl _ (cChan v1 c.base c.expected) rfl rfl rfl (one_of rfl) sz_Chan hbx.out (by omega) ?_;clear tok _t;intro w2 hx2 hg2;have CB1:=Lib.hid (CB.start3 (sd:=[⟨w.heap.size+1,84,zC⟩]) ho.out hf.out H1.out (Nat.le_refl _) (by omega) hx2 hg2 hsd.out);obtain ⟨x0,x1,x2,x3,x4,x5,xf,xz⟩:=CB.at6 CB1.out;obtain ⟨r0,r1,r2,r3,r4,r5,rf,rz⟩:=CB.res6 CB1.out (Upd.refl [] _) (fun q hq=>by cases hq) (b:=w.heap.size+1) (t:=84) (by simp);clear hx2 hg2)
      refine bodyPost_ret (v:=vChan v1 c.base c.expected) (by simp [*,results,Tryz.results89,go_sem]) rfl ?_
      rw [hE.out]
      exact SPost.mk (b0:=0) (CB.fin CB1.out (s:=⟨w.heap.size+1,84,zC⟩) (by simp) (((((((Upd.refl _ _).set_in (by simp) _).set_in (by simp) _).set_in (by simp) _).set_in (by simp) _).set_in (by simp) _).set_in (by simp) _))
    · have hE:Hid (moveC c 2 at_=netC c 2 (selK at_ c.net.length)):=by unfold Hid moveC;rw [if_neg (by decide),if_pos (by decide)];rw [if_neg h0]
      have hpos:0 < v1.n.n:=by
        rw [HNN.out];cases hc:c.net with
        | nil=>exact absurd hc h0
        | cons=>simp
      have hz:(0:Int) < (v1.n.n:Int):=by omega
      have hlt:selK at_ c.net.length < c.net.length:=selK_lt (by rw [← HNN.out];exact hpos)
      have hsl:=fun W=>impl_sel_k at_ v1.n.n W hpos (by have:=OK.out.ln;have:=HNN.out;omega) HAT.out
      have hS:=fun W ho hf hB hWb=>impl_net_2 (m:=m) v1 c (selK at_ c.net.length) w W OK.out hlt ho hf hB HT.out hWb
      rw [HNN.out] at hsl
      generalize selK at_ c.net.length=kk at *
      generalize netC c 2 kk=D at *
      rw [← HNN.out] at hsl
      have HSL:=Lib.hid hsl;have HS:=Lib.hid hS
      clear h0 hlt hsl hS hpos
      have tok:True:=trivial
      go_wp2_with (have _t:=tok;refine wpList_store_elem rfl 84 (.tmp 3) (.tmp 9) rfl 0 84 6 1 1 w.heap.size 0 0 rfl _ rfl _ (cChan v1 c.base c.expected) rfl rfl rfl (one_of rfl) sz_Chan hbx.out (by omega) ?_;clear tok _t;intro w2 hx2 hg2;have CB1:=Lib.hid (CB.start3 (sd:=[⟨w.heap.size+1,84,zC⟩]) ho.out hf.out H1.out (Nat.le_refl _) (by omega) hx2 hg2 hsd.out);obtain ⟨x0,x1,x2,x3,x4,x5,xf,xz⟩:=CB.at6 CB1.out;obtain ⟨r0,r1,r2,r3,r4,r5,rf,rz⟩:=CB.res6 CB1.out (Upd.refl [] _) (fun q hq=>by cases hq) (b:=w.heap.size+1) (t:=84) (by simp);clear hx2 hg2)
      go_region_law (first
        | (go_simp;go_at_call 137;refine (HSL.out _).mono ?_;rintro e wq ⟨rfl,rfl⟩)
        | (go_simp;go_at_call 136;refine (HS.out _ (CB.below CB1.out (bDrew (Below.refl _ _))).ow (CB.below CB1.out (bDrew (Below.refl _ _))).fr (CB.below CB1.out (bDrew (Below.refl _ _))).up.size (below_upd (CB.below CB1.out (bDrew (Below.refl _ _))).up)).mono ?_;rintro e w4 ⟨v4,rfl,ho4,hf4,hm4,hu4⟩;obtain ⟨r0,r1,r2,r3,r4,r5,rf,rz⟩:=CB.res6 (CB.below CB1.out (bDrew (Below.refl _ _))) hu4 (fun q hq=>hq) (b:=w.heap.size+1) (t:=84) (by simp)))
      all_goals
        go_wp2_with fail
        refine bodyPost_ret (v:=vChan v4 D.base D.expected) (by simp [*,results,Tryz.results89,go_sem]) rfl ?_
        rw [hE.out]
        exact SPost.mk (b0:=0) (CB.fin2 (CB.below CB1.out (bDrew (Below.refl _ _))) (s:=⟨w.heap.size+1,84,zC⟩) (by simp) ho4 hf4 hm4 hu4 (((((((Upd.refl _ _).set_in (by simp) _).set_in (by simp) _).set_in (by simp) _).set_in (by simp) _).set_in (by simp) _).set_in (by simp) _))
theorem impl_step_3 (v:CV) (c:Chan) (at_:Int) (w:World) {m:Int} (hok:OKC m c) (hfw:fewC c) (hr:RdC w v c) (hat:-9223372036854775808≤at_∧at_≤9223372036854775807) (hT:Tab w) :
    Calls Tryz.prog 89 #[vChan v c.base c.expected,(.int .i64 3),.int .i64 at_] w fun e w'=>SPost w (moveC c 3 at_) e w':=by
  have OK:=Lib.hid hok
  have HAT:=Lib.hid hat
  have HT:=Lib.hid hT
  clear hok hat hT
  go_enter Tryz.func89,Tryz.ntmps89
  go_wp2_with fail
  refine Calls.mono (copyChannel_k v c _ hfw ?_) ?_
  · exact hr.below (bAlloc (bAlloc (Below.refl _ _) _) _)
  rintro e w1 ⟨v1,rfl,ho,hf,hb1⟩
  have hbx:=Lib.hid (Own.below (Own.box (t:=84) (cs:=cChan v c.base c.expected) (sz:=6) (box2 w _ _) rfl) hb1)
  have hsd:Hid (∀ s∈[(⟨w.heap.size+1,84,zC⟩:Side)],s.ok w1∧s.b < w.heap.size+2∧s.b≠w.heap.size∧w.heap.size≤s.b):=by
    intro s hs
    simp only [List.mem_cons,List.not_mem_nil,or_false] at hs
    subst hs
    exact ⟨Side.below (w:=_) (Own.box (box_new2 w _ _) rfl) hb1,by simp,by simp,by simp⟩
  have H1:=Lib.hid (bTrans (bAlloc (bAlloc (Below.refl w.heap.size w) _) _) hb1)
  have hf':=hf.rebase (show w.heap.size+2≤_ by simp)
  have ho:=Lib.hid ho
  have hf:=Lib.hid hf'
  clear hf' hb1
  have hqn:v1.q.n=c.queue.length:=by have h1:=ho.out.q.len;rw [List.length_map] at h1;exact h1.symm
  have hnn:v1.n.n=c.net.length:=by have h1:=ho.out.n.len;rw [List.length_map] at h1;exact h1.symm
  have han:v1.a.n=c.acks.length:=by have h1:=ho.out.a.len;rw [List.length_map] at h1;exact h1.symm
  have HQN:=Lib.hid hqn;have HNN:=Lib.hid hnn;have HAN:=Lib.hid han
  clear hqn hnn han
  · by_cases h0:c.net=[]
    · have hE:Hid (moveC c 3 at_=c):=by unfold Hid moveC;rw [if_neg (by decide),if_pos (by decide)];rw [if_pos h0]
      have hz:¬ (0:Int) < (v1.n.n:Int):=by have:=HNN.out;rw [h0] at this;simp at this;omega
      clear h0
      have tok:True:=trivial
      go_wp2_with (have _t:=tok;refine wpList_store_elem rfl 84 (.tmp 3) (.tmp 9) rfl 0 84 6 1 1 w.heap.size 0 0 rfl _ rfl _ (cChan v1 c.base c.expected) rfl rfl rfl (one_of rfl) sz_Chan hbx.out (by omega) ?_;clear tok _t;intro w2 hx2 hg2;have CB1:=Lib.hid (CB.start3 (sd:=[⟨w.heap.size+1,84,zC⟩]) ho.out hf.out H1.out (Nat.le_refl _) (by omega) hx2 hg2 hsd.out);obtain ⟨x0,x1,x2,x3,x4,x5,xf,xz⟩:=CB.at6 CB1.out;obtain ⟨r0,r1,r2,r3,r4,r5,rf,rz⟩:=CB.res6 CB1.out (Upd.refl [] _) (fun q hq=>by cases hq) (b:=w.heap.size+1) (t:=84) (by simp);clear hx2 hg2)
      refine bodyPost_ret (v:=vChan v1 c.base c.expected) (by simp [*,results,Tryz.results89,go_sem]) rfl ?_
      rw [hE.out]
      exact SPost.mk (b0:=0) (CB.fin CB1.out (s:=⟨w.heap.size+1,84,zC⟩) (by simp) (((((((Upd.refl _ _).set_in (by simp) _).set_in (by simp) _).set_in (by simp) _).set_in (by simp) _).set_in (by simp) _).set_in (by simp) _))
    · have hE:Hid (moveC c 3 at_=netC c 3 (selK at_ c.net.length)):=by unfold Hid moveC;rw [if_neg (by decide),if_pos (by decide)];rw [if_neg h0]
      have hpos:0 < v1.n.n:=by
        rw [HNN.out];cases hc:c.net with
        | nil=>exact absurd hc h0
        | cons=>simp
      have hz:(0:Int) < (v1.n.n:Int):=by omega
      have hlt:selK at_ c.net.length < c.net.length:=selK_lt (by rw [← HNN.out];exact hpos)
      have hsl:=fun W=>impl_sel_k at_ v1.n.n W hpos (by have:=OK.out.ln;have:=HNN.out;omega) HAT.out
      have hS:=fun W ho hf hB hWb=>impl_net_3 (m:=m) v1 c (selK at_ c.net.length) w W OK.out hlt ho hf hB HT.out hWb
      rw [HNN.out] at hsl
      generalize selK at_ c.net.length=kk at *
      generalize netC c 3 kk=D at *
      rw [← HNN.out] at hsl
      have HSL:=Lib.hid hsl;have HS:=Lib.hid hS
      clear h0 hlt hsl hS hpos
      have tok:True:=trivial
      go_wp2_with (have _t:=tok;refine wpList_store_elem rfl 84 (.tmp 3) (.tmp 9) rfl 0 84 6 1 1 w.heap.size 0 0 rfl _ rfl _ (cChan v1 c.base c.expected) rfl rfl rfl (one_of rfl) sz_Chan hbx.out (by omega) ?_;clear tok _t;intro w2 hx2 hg2;have CB1:=Lib.hid (CB.start3 (sd:=[⟨w.heap.size+1,84,zC⟩]) ho.out hf.out H1.out (Nat.le_refl _) (by omega) hx2 hg2 hsd.out);obtain ⟨x0,x1,x2,x3,x4,x5,xf,xz⟩:=CB.at6 CB1.out;obtain ⟨r0,r1,r2,r3,r4,r5,rf,rz⟩:=CB.res6 CB1.out (Upd.refl [] _) (fun q hq=>by cases hq) (b:=w.heap.size+1) (t:=84) (by simp);clear hx2 hg2)
      go_region_law (first
        | (go_simp;go_at_call 137;refine (HSL.out _).mono ?_;rintro e wq ⟨rfl,rfl⟩)
        | (go_simp;go_at_call 136;refine (HS.out _ (CB.below CB1.out (bDrew (Below.refl _ _))).ow (CB.below CB1.out (bDrew (Below.refl _ _))).fr (CB.below CB1.out (bDrew (Below.refl _ _))).up.size (below_upd (CB.below CB1.out (bDrew (Below.refl _ _))).up)).mono ?_;rintro e w4 ⟨v4,rfl,ho4,hf4,hm4,hu4⟩;obtain ⟨r0,r1,r2,r3,r4,r5,rf,rz⟩:=CB.res6 (CB.below CB1.out (bDrew (Below.refl _ _))) hu4 (fun q hq=>hq) (b:=w.heap.size+1) (t:=84) (by simp)))
      all_goals
        go_wp2_with fail
        refine bodyPost_ret (v:=vChan v4 D.base D.expected) (by simp [*,results,Tryz.results89,go_sem]) rfl ?_
        rw [hE.out]
        exact SPost.mk (b0:=0) (CB.fin2 (CB.below CB1.out (bDrew (Below.refl _ _))) (s:=⟨w.heap.size+1,84,zC⟩) (by simp) ho4 hf4 hm4 hu4 (((((((Upd.refl _ _).set_in (by simp) _).set_in (by simp) _).set_in (by simp) _).set_in (by simp) _).set_in (by simp) _).set_in (by simp) _))
theorem impl_step_4 (v:CV) (c:Chan) (at_:Int) (w:World) {m:Int} (hok:OKC m c) (hfw:fewC c) (hr:RdC w v c) (hat:-9223372036854775808≤at_∧at_≤9223372036854775807) (hT:Tab w) :
    Calls Tryz.prog 89 #[vChan v c.base c.expected,(.int .i64 4),.int .i64 at_] w fun e w'=>SPost w (moveC c 4 at_) e w':=by
  have OK:=Lib.hid hok
  have HAT:=Lib.hid hat
  have HT:=Lib.hid hT
  clear hok hat hT
  go_enter Tryz.func89,Tryz.ntmps89
  go_wp2_with fail
  refine Calls.mono (copyChannel_k v c _ hfw ?_) ?_
  · exact hr.below (bAlloc (bAlloc (Below.refl _ _) _) _)
  rintro e w1 ⟨v1,rfl,ho,hf,hb1⟩
  have hbx:=Lib.hid (Own.below (Own.box (t:=84) (cs:=cChan v c.base c.expected) (sz:=6) (box2 w _ _) rfl) hb1)
  have hsd:Hid (∀ s∈[(⟨w.heap.size+1,84,zC⟩:Side)],s.ok w1∧s.b < w.heap.size+2∧s.b≠w.heap.size∧w.heap.size≤s.b):=by
    intro s hs
    simp only [List.mem_cons,List.not_mem_nil,or_false] at hs
    subst hs
    exact ⟨Side.below (w:=_) (Own.box (box_new2 w _ _) rfl) hb1,by simp,by simp,by simp⟩
  have H1:=Lib.hid (bTrans (bAlloc (bAlloc (Below.refl w.heap.size w) _) _) hb1)
  have hf':=hf.rebase (show w.heap.size+2≤_ by simp)
  have ho:=Lib.hid ho
  have hf:=Lib.hid hf'
  clear hf' hb1
  have hqn:v1.q.n=c.queue.length:=by have h1:=ho.out.q.len;rw [List.length_map] at h1;exact h1.symm
  have hnn:v1.n.n=c.net.length:=by have h1:=ho.out.n.len;rw [List.length_map] at h1;exact h1.symm
  have han:v1.a.n=c.acks.length:=by have h1:=ho.out.a.len;rw [List.length_map] at h1;exact h1.symm
  have HQN:=Lib.hid hqn;have HNN:=Lib.hid hnn;have HAN:=Lib.hid han
  clear hqn hnn han
  · by_cases h0:c.net=[]
    · have hE:Hid (moveC c 4 at_=c):=by unfold Hid moveC;rw [if_neg (by decide),if_pos (by decide)];rw [if_pos h0]
      have hz:¬ (0:Int) < (v1.n.n:Int):=by have:=HNN.out;rw [h0] at this;simp at this;omega
      clear h0
      have tok:True:=trivial
      go_wp2_with (have _t:=tok;refine wpList_store_elem rfl 84 (.tmp 3) (.tmp 9) rfl 0 84 6 1 1 w.heap.size 0 0 rfl _ rfl _ (cChan v1 c.base c.expected) rfl rfl rfl (one_of rfl) sz_Chan hbx.out (by omega) ?_;clear tok _t;intro w2 hx2 hg2;have CB1:=Lib.hid (CB.start3 (sd:=[⟨w.heap.size+1,84,zC⟩]) ho.out hf.out H1.out (Nat.le_refl _) (by omega) hx2 hg2 hsd.out);obtain ⟨x0,x1,x2,x3,x4,x5,xf,xz⟩:=CB.at6 CB1.out;obtain ⟨r0,r1,r2,r3,r4,r5,rf,rz⟩:=CB.res6 CB1.out (Upd.refl [] _) (fun q hq=>by cases hq) (b:=w.heap.size+1) (t:=84) (by simp);clear hx2 hg2)
      refine bodyPost_ret (v:=vChan v1 c.base c.expected) (by simp [*,results,Tryz.results89,go_sem]) rfl ?_
      rw [hE.out]
      exact SPost.mk (b0:=0) (CB.fin CB1.out (s:=⟨w.heap.size+1,84,zC⟩) (by simp) (((((((Upd.refl _ _).set_in (by simp) _).set_in (by simp) _).set_in (by simp) _).set_in (by simp) _).set_in (by simp) _).set_in (by simp) _))
    · have hE:Hid (moveC c 4 at_=netC c 4 (selK at_ c.net.length)):=by unfold Hid moveC;rw [if_neg (by decide),if_pos (by decide)];rw [if_neg h0]
      have hpos:0 < v1.n.n:=by
        rw [HNN.out];cases hc:c.net with
        | nil=>exact absurd hc h0
        | cons=>simp
      have hz:(0:Int) < (v1.n.n:Int):=by omega
      have hlt:selK at_ c.net.length < c.net.length:=selK_lt (by rw [← HNN.out];exact hpos)
      have hsl:=fun W=>impl_sel_k at_ v1.n.n W hpos (by have:=OK.out.ln;have:=HNN.out;omega) HAT.out
      have hS:=fun W ho hf hB hWb=>impl_net_4 (m:=m) v1 c (selK at_ c.net.length) w W OK.out hlt ho hf hB HT.out hWb
      rw [HNN.out] at hsl
      generalize selK at_ c.net.length=kk at *
      generalize netC c 4 kk=D at *
      rw [← HNN.out] at hsl
      have HSL:=Lib.hid hsl;have HS:=Lib.hid hS
      clear h0 hlt hsl hS hpos
      have tok:True:=trivial
      go_wp2_with (have _t:=tok;refine wpList_store_elem rfl 84 (.tmp 3) (.tmp 9) rfl 0 84 6 1 1 w.heap.size 0 0 rfl _ rfl _ (cChan v1 c.base c.expected) rfl rfl rfl (one_of rfl) sz_Chan hbx.out (by omega) ?_;clear tok _t;intro w2 hx2 hg2;have CB1:=Lib.hid (CB.start3 (sd:=[⟨w.heap.size+1,84,zC⟩]) ho.out hf.out H1.out (Nat.le_refl _) (by omega) hx2 hg2 hsd.out);obtain ⟨x0,x1,x2,x3,x4,x5,xf,xz⟩:=CB.at6 CB1.out;obtain ⟨r0,r1,r2,r3,r4,r5,rf,rz⟩:=CB.res6 CB1.out (Upd.refl [] _) (fun q hq=>by cases hq) (b:=w.heap.size+1) (t:=84) (by simp);clear hx2 hg2)
      go_region_law (first
        | (go_simp;go_at_call 137;refine (HSL.out _).mono ?_;rintro e wq ⟨rfl,rfl⟩)
        | (go_simp;go_at_call 136;refine (HS.out _ (CB.below CB1.out (bDrew (Below.refl _ _))).ow (CB.below CB1.out (bDrew (Below.refl _ _))).fr (CB.below CB1.out (bDrew (Below.refl _ _))).up.size (below_upd (CB.below CB1.out (bDrew (Below.refl _ _))).up)).mono ?_;rintro e w4 ⟨v4,rfl,ho4,hf4,hm4,hu4⟩;obtain ⟨r0,r1,r2,r3,r4,r5,rf,rz⟩:=CB.res6 (CB.below CB1.out (bDrew (Below.refl _ _))) hu4 (fun q hq=>hq) (b:=w.heap.size+1) (t:=84) (by simp)))
      all_goals
        go_wp2_with fail
        refine bodyPost_ret (v:=vChan v4 D.base D.expected) (by simp [*,results,Tryz.results89,go_sem]) rfl ?_
        rw [hE.out]
        exact SPost.mk (b0:=0) (CB.fin2 (CB.below CB1.out (bDrew (Below.refl _ _))) (s:=⟨w.heap.size+1,84,zC⟩) (by simp) ho4 hf4 hm4 hu4 (((((((Upd.refl _ _).set_in (by simp) _).set_in (by simp) _).set_in (by simp) _).set_in (by simp) _).set_in (by simp) _).set_in (by simp) _))
end Go.Proofs.YtdfemnffpaopfaaGreatDoor
