/- Texts of this proof, one behind the other: ChnI3, ChnJ. -/
import Derived.Test.YtdfemnffpaopfaaGreatDoorGrs38
import Derived.Test.YtdfemnffpaopfaaGreatDoorGrs44
namespace Go.Proofs.YtdfemnffpaopfaaGreatDoor
open Go.RowKit
set_option linter.unusedVariables false
set_option linter.unusedSimpArgs false
set_option maxHeartbeats 4000000
set_option maxRecDepth 100000
theorem impl_step_5 (v:CV) (c:Chan) (at_:Int) (w:World) {m:Int} (hok:OKC m c) (hfw:fewC c) (hr:RdC w v c) (hat:-9223372036854775808≤at_∧at_≤9223372036854775807) (hT:Tab w) :
    Calls Tryz.prog 89 #[vChan v c.base c.expected,(.int .i64 5),.int .i64 at_] w fun e w'=>SPost w (moveC c 5 at_) e w':=by
  have OK:=Lib.hid hok
  have HAT:=Lib.hid hat
  have HT:=Lib.hid hT
  clear hok hat hT
  go_enter Tryz.func89,Tryz.ntmps89
  go_wp2_with fail
  refine Calls.mono (copyChannel_k v c _ hfw ?_) ?_
  · exact hr.below (bAlloc (bAlloc (Below.refl _ _) _) _)
  rintro e w1 ⟨v1,rfl,ho,hf,hb1⟩
  have hbx:=Lib.hid (Own.below (Own.box (t:=84) (cs:=cChan v c.base c.expected) (sz:=6) (box2 w _ _) rfl) hb1)
  have hsd:Hid (∀ s∈[(⟨w.heap.size+1,84,zC⟩:Side)],s.ok w1∧s.b < w.heap.size+2∧s.b≠w.heap.size∧w.heap.size≤s.b):=by
    intro s hs
    simp only [List.mem_cons,List.not_mem_nil,or_false] at hs
    subst hs
    exact ⟨Side.below (w:=_) (Own.box (box_new2 w _ _) rfl) hb1,by simp,by simp,by simp⟩
  have H1:=Lib.hid (bTrans (bAlloc (bAlloc (Below.refl w.heap.size w) _) _) hb1)
  have hf':=hf.rebase (show w.heap.size+2≤_ by simp)
  have ho:=Lib.hid ho
  have hf:=Lib.hid hf'
  clear hf' hb1
  have hqn:v1.q.n=c.queue.length:=by have h1:=ho.out.q.len;rw [List.length_map] at h1;exact h1.symm
  have hnn:v1.n.n=c.net.length:=by have h1:=ho.out.n.len;rw [List.length_map] at h1;exact h1.symm
  have han:v1.a.n=c.acks.length:=by have h1:=ho.out.a.len;rw [List.length_map] at h1;exact h1.symm
  have HQN:=Lib.hid hqn;have HNN:=Lib.hid hnn;have HAN:=Lib.hid han
  clear hqn hnn han
  · by_cases h0:c.net=[]
    · have hE:Hid (moveC c 5 at_=c):=by unfold Hid moveC;rw [if_neg (by decide),if_pos (by decide)];rw [if_pos h0]
      have hz:¬ (0:Int) < (v1.n.n:Int):=by have:=HNN.out;rw [h0] at this;simp at this;omega
      clear h0
      have tok:True:=trivial
      go_wp2_with (have _t:=tok;refine wpList_store_elem rfl 84 (.tmp 3) (.tmp 9) rfl 0 84 6 1 1 w.heap.size 0 0 rfl _ rfl _ (cChan v1 c.base c.expected) rfl rfl rfl (one_of rfl) sz_Chan hbx.out (by omega) ?_;clear tok _t;intro w2 hx2 hg2;have CB1:=Lib.hid (CB.start3 (sd:=[⟨w.heap.size+1,84,zC⟩]) ho.out hf.out H1.out (Nat.le_refl _) (by omega) hx2 hg2 hsd.out);obtain ⟨x0,x1,x2,x3,x4,x5,xf,xz⟩:=CB.at6 CB1.out;obtain ⟨r0,r1,r2,r3,r4,r5,rf,rz⟩:=CB.res6 CB1.out (Upd.refl [] _) (fun q hq=>by cases hq) (b:=w.heap.size+1) (t:=84) (by simp);clear hx2 hg2)
      refine bodyPost_ret (v:=vChan v1 c.base c.expected) (by simp [*,results,Tryz.results89,go_sem]) rfl ?_
      rw [hE.out]
      exact SPost.mk (b0:=0) (CB.fin CB1.out (s:=⟨w.heap.size+1,84,zC⟩) (by simp) (((((((Upd.refl _ _).set_in (by simp) _).set_in (by simp) _).set_in (by simp) _).set_in (by simp) _).set_in (by simp) _).set_in (by simp) _))
    · have hE:Hid (moveC c 5 at_=netC c 5 (selK at_ c.net.length)):=by unfold Hid moveC;rw [if_neg (by decide),if_pos (by decide)];rw [if_neg h0]
      have hpos:0 < v1.n.n:=by
        rw [HNN.out];cases hc:c.net with
        | nil=>exact absurd hc h0
        | cons=>simp
      have hz:(0:Int) < (v1.n.n:Int):=by omega
      have hlt:selK at_ c.net.length < c.net.length:=selK_lt (by rw [← HNN.out];exact hpos)
      have hsl:=fun W=>impl_sel_k at_ v1.n.n W hpos (by have:=OK.out.ln;have:=HNN.out;omega) HAT.out
      have hS:=fun W ho hf hB hWb=>impl_net_5 (m:=m) v1 c (selK at_ c.net.length) w W OK.out hlt ho hf hB HT.out hWb
      rw [HNN.out] at hsl
      generalize selK at_ c.net.length=kk at *
      generalize netC c 5 kk=D at *
      rw [← HNN.out] at hsl
      have HSL:=Lib.hid hsl;have HS:=Lib.hid hS
      clear h0 hlt hsl hS hpos
      have tok:True:=trivial
      go_wp2_with (have _t:=tok;refine wpList_store_elem rfl 84 (.tmp 3) (.tmp 9) rfl 0 84 6 1 1 w.heap.size 0 0 rfl _ rfl _ (cChan v1 c.base c.expected) rfl rfl rfl (one_of rfl) sz_Chan hbx.out (by omega) ?_;clear tok _t;intro w2 hx2 hg2;have CB1:=Lib.hid (CB.start3 (sd:=[⟨w.heap.size+1,84,zC⟩]) ho.out hf.out H1.out (Nat.le_refl _) (by omega) hx2 hg2 hsd.out);obtain ⟨x0,x1,x2,x3,x4,x5,xf,xz⟩:=CB.at6 CB1.out;obtain ⟨r0,r1,r2,r3,r4,r5,rf,rz⟩:=CB.res6 CB1.out (Upd.refl [] _) (fun q hq=>by cases hq) (b:=w.heap.size+1) (t:=84) (by simp);clear hx2 hg2)
      go_region_law (first
        | (go_simp;go_at_call 137;refine (HSL.out _).mono ?_;rintro e wq ⟨rfl,rfl⟩)
        | (go_simp;go_at_call 136;refine (HS.out _ (CB.below CB1.out (bDrew (Below.refl _ _))).ow (CB.below CB1.out (bDrew (Below.refl _ _))).fr (CB.below CB1.out (bDrew (Below.refl _ _))).up.size (below_upd (CB.below CB1.out (bDrew (Below.refl _ _))).up)).mono ?_;rintro e w4 ⟨v4,rfl,ho4,hf4,hm4,hu4⟩;obtain ⟨r0,r1,r2,r3,r4,r5,rf,rz⟩:=CB.res6 (CB.below CB1.out (bDrew (Below.refl _ _))) hu4 (fun q hq=>hq) (b:=w.heap.size+1) (t:=84) (by simp)))
      all_goals
        go_wp2_with fail
        refine bodyPost_ret (v:=vChan v4 D.base D.expected) (by simp [*,results,Tryz.results89,go_sem]) rfl ?_
        rw [hE.out]
        exact SPost.mk (b0:=0) (CB.fin2 (CB.below CB1.out (bDrew (Below.refl _ _))) (s:=⟨w.heap.size+1,84,zC⟩) (by simp) ho4 hf4 hm4 hu4 (((((((Upd.refl _ _).set_in (by simp) _).set_in (by simp) _).set_in (by simp) _).set_in (by simp) _).set_in (by simp) _).set_in (by simp) _))
theorem impl_step_6 (v:CV) (c:Chan) (at_:Int) (w:World) {m:Int} (hok:OKC m c) (hfw:fewC c) (hr:RdC w v c) (hat:-9223372036854775808≤at_∧at_≤9223372036854775807) (hT:Tab w) :
    Calls Tryz.prog 89 #[vChan v c.base c.expected,(.int .i64 6),.int .i64 at_] w fun e w'=>SPost w (moveC c 6 at_) e w':=by
  have OK:=Lib.hid hok
  have HAT:=Lib.hid hat
  have HT:=Lib.hid hT
  clear hok hat hT
  go_enter Tryz.func89,Tryz.ntmps89
  go_wp2_with fail
  refine Calls.mono (copyChannel_k v c _ hfw ?_) ?_
  · exact hr.below (bAlloc (bAlloc (Below.refl _ _) _) _)
  rintro e w1 ⟨v1,rfl,ho,hf,hb1⟩
  have hbx:=Lib.hid (Own.below (Own.box (t:=84) (cs:=cChan v c.base c.expected) (sz:=6) (box2 w _ _) rfl) hb1)
  have hsd:Hid (∀ s∈[(⟨w.heap.size+1,84,zC⟩:Side)],s.ok w1∧s.b < w.heap.size+2∧s.b≠w.heap.size∧w.heap.size≤s.b):=by
    intro s hs
    simp only [List.mem_cons,List.not_mem_nil,or_false] at hs
    subst hs
    exact ⟨Side.below (w:=_) (Own.box (box_new2 w _ _) rfl) hb1,by simp,by simp,by simp⟩
  have H1:=Lib.hid (bTrans (bAlloc (bAlloc (Below.refl w.heap.size w) _) _) hb1)
  have hf':=hf.rebase (show w.heap.size+2≤_ by simp)
  have ho:=Lib.hid ho
  have hf:=Lib.hid hf'
  clear hf' hb1
  have hqn:v1.q.n=c.queue.length:=by have h1:=ho.out.q.len;rw [List.length_map] at h1;exact h1.symm
  have hnn:v1.n.n=c.net.length:=by have h1:=ho.out.n.len;rw [List.length_map] at h1;exact h1.symm
  have han:v1.a.n=c.acks.length:=by have h1:=ho.out.a.len;rw [List.length_map] at h1;exact h1.symm
  have HQN:=Lib.hid hqn;have HNN:=Lib.hid hnn;have HAN:=Lib.hid han
  clear hqn hnn han
  · by_cases h0:c.acks=[]
    · have hE:Hid (moveC c 6 at_=c):=by unfold Hid moveC;rw [if_neg (by decide),if_neg (by decide),if_pos (by decide)];rw [if_pos h0]
      have hz:¬ (0:Int) < (v1.a.n:Int):=by have:=HAN.out;rw [h0] at this;simp at this;omega
      clear h0
      have tok:True:=trivial
      go_wp2_with (have _t:=tok;refine wpList_store_elem rfl 84 (.tmp 3) (.tmp 9) rfl 0 84 6 1 1 w.heap.size 0 0 rfl _ rfl _ (cChan v1 c.base c.expected) rfl rfl rfl (one_of rfl) sz_Chan hbx.out (by omega) ?_;clear tok _t;intro w2 hx2 hg2;have CB1:=Lib.hid (CB.start3 (sd:=[⟨w.heap.size+1,84,zC⟩]) ho.out hf.out H1.out (Nat.le_refl _) (by omega) hx2 hg2 hsd.out);obtain ⟨x0,x1,x2,x3,x4,x5,xf,xz⟩:=CB.at6 CB1.out;obtain ⟨r0,r1,r2,r3,r4,r5,rf,rz⟩:=CB.res6 CB1.out (Upd.refl [] _) (fun q hq=>by cases hq) (b:=w.heap.size+1) (t:=84) (by simp);clear hx2 hg2)
      refine bodyPost_ret (v:=vChan v1 c.base c.expected) (by simp [*,results,Tryz.results89,go_sem]) rfl ?_
      rw [hE.out]
      exact SPost.mk (b0:=0) (CB.fin CB1.out (s:=⟨w.heap.size+1,84,zC⟩) (by simp) (((((((Upd.refl _ _).set_in (by simp) _).set_in (by simp) _).set_in (by simp) _).set_in (by simp) _).set_in (by simp) _).set_in (by simp) _))
    · have hE:Hid (moveC c 6 at_=ackC c 6 (selK at_ c.acks.length)):=by unfold Hid moveC;rw [if_neg (by decide),if_neg (by decide),if_pos (by decide)];rw [if_neg h0]
      have hpos:0 < v1.a.n:=by
        rw [HAN.out];cases hc:c.acks with
        | nil=>exact absurd hc h0
        | cons=>simp
      have hz:(0:Int) < (v1.a.n:Int):=by omega
      have hlt:selK at_ c.acks.length < c.acks.length:=selK_lt (by rw [← HAN.out];exact hpos)
      have hsl:=fun W=>impl_sel_k at_ v1.a.n W hpos (by have:=OK.out.la;have:=HAN.out;omega) HAT.out
      have hS:=fun W ho hf hB hWb=>impl_ack_6 (m:=m) v1 c (selK at_ c.acks.length) w W OK.out hlt ho hf hB HT.out hWb
      rw [HAN.out] at hsl
      generalize selK at_ c.acks.length=kk at *
      generalize ackC c 6 kk=D at *
      rw [← HAN.out] at hsl
      have HSL:=Lib.hid hsl;have HS:=Lib.hid hS
      clear h0 hlt hsl hS hpos
      have tok:True:=trivial
      go_wp2_with (have _t:=tok;refine wpList_store_elem rfl 84 (.tmp 3) (.tmp 9) rfl 0 84 6 1 1 w.heap.size 0 0 rfl _ rfl _ (cChan v1 c.base c.expected) rfl rfl rfl (one_of rfl) sz_Chan hbx.out (by omega) ?_;clear tok _t;intro w2 hx2 hg2;have CB1:=Lib.hid (CB.start3 (sd:=[⟨w.heap.size+1,84,zC⟩]) ho.out hf.out H1.out (Nat.le_refl _) (by omega) hx2 hg2 hsd.out);obtain ⟨x0,x1,x2,x3,x4,x5,xf,xz⟩:=CB.at6 CB1.out;obtain ⟨r0,r1,r2,r3,r4,r5,rf,rz⟩:=CB.res6 CB1.out (Upd.refl [] _) (fun q hq=>by cases hq) (b:=w.heap.size+1) (t:=84) (by simp);clear hx2 hg2)
      go_region_law (first
        | (go_simp;go_at_call 137;refine (HSL.out _).mono ?_;rintro e wq ⟨rfl,rfl⟩)
        | (go_simp;go_at_call 138;refine (HS.out _ (CB.below CB1.out (bDrew (Below.refl _ _))).ow (CB.below CB1.out (bDrew (Below.refl _ _))).fr (CB.below CB1.out (bDrew (Below.refl _ _))).up.size (below_upd (CB.below CB1.out (bDrew (Below.refl _ _))).up)).mono ?_;rintro e w4 ⟨v4,rfl,ho4,hf4,hm4,hu4⟩;obtain ⟨r0,r1,r2,r3,r4,r5,rf,rz⟩:=CB.res6 (CB.below CB1.out (bDrew (Below.refl _ _))) hu4 (fun q hq=>hq) (b:=w.heap.size+1) (t:=84) (by simp)))
      all_goals
        go_wp2_with fail
        refine bodyPost_ret (v:=vChan v4 D.base D.expected) (by simp [*,results,Tryz.results89,go_sem]) rfl ?_
        rw [hE.out]
        exact SPost.mk (b0:=0) (CB.fin2 (CB.below CB1.out (bDrew (Below.refl _ _))) (s:=⟨w.heap.size+1,84,zC⟩) (by simp) ho4 hf4 hm4 hu4 (((((((Upd.refl _ _).set_in (by simp) _).set_in (by simp) _).set_in (by simp) _).set_in (by simp) _).set_in (by simp) _).set_in (by simp) _))
theorem impl_step_7 (v:CV) (c:Chan) (at_:Int) (w:World) {m:Int} (hok:OKC m c) (hfw:fewC c) (hr:RdC w v c) (hat:-9223372036854775808≤at_∧at_≤9223372036854775807) (hT:Tab w) :
    Calls Tryz.prog 89 #[vChan v c.base c.expected,(.int .i64 7),.int .i64 at_] w fun e w'=>SPost w (moveC c 7 at_) e w':=by
  have OK:=Lib.hid hok
  have HAT:=Lib.hid hat
  have HT:=Lib.hid hT
  clear hok hat hT
  go_enter Tryz.func89,Tryz.ntmps89
  go_wp2_with fail
  refine Calls.mono (copyChannel_k v c _ hfw ?_) ?_
  · exact hr.below (bAlloc (bAlloc (Below.refl _ _) _) _)
  rintro e w1 ⟨v1,rfl,ho,hf,hb1⟩
  have hbx:=Lib.hid (Own.below (Own.box (t:=84) (cs:=cChan v c.base c.expected) (sz:=6) (box2 w _ _) rfl) hb1)
  have hsd:Hid (∀ s∈[(⟨w.heap.size+1,84,zC⟩:Side)],s.ok w1∧s.b < w.heap.size+2∧s.b≠w.heap.size∧w.heap.size≤s.b):=by
    intro s hs
    simp only [List.mem_cons,List.not_mem_nil,or_false] at hs
    subst hs
    exact ⟨Side.below (w:=_) (Own.box (box_new2 w _ _) rfl) hb1,by simp,by simp,by simp⟩
  have H1:=Lib.hid (bTrans (bAlloc (bAlloc (Below.refl w.heap.size w) _) _) hb1)
  have hf':=hf.rebase (show w.heap.size+2≤_ by simp)
  have ho:=Lib.hid ho
  have hf:=Lib.hid hf'
  clear hf' hb1
  have hqn:v1.q.n=c.queue.length:=by have h1:=ho.out.q.len;rw [List.length_map] at h1;exact h1.symm
  have hnn:v1.n.n=c.net.length:=by have h1:=ho.out.n.len;rw [List.length_map] at h1;exact h1.symm
  have han:v1.a.n=c.acks.length:=by have h1:=ho.out.a.len;rw [List.length_map] at h1;exact h1.symm
  have HQN:=Lib.hid hqn;have HNN:=Lib.hid hnn;have HAN:=Lib.hid han
  clear hqn hnn han
  · by_cases h0:c.acks=[]
    · have hE:Hid (moveC c 7 at_=c):=by unfold Hid moveC;rw [if_neg (by decide),if_neg (by decide),if_pos (by decide)];rw [if_pos h0]
      have hz:¬ (0:Int) < (v1.a.n:Int):=by have:=HAN.out;rw [h0] at this;simp at this;omega
      clear h0
      have tok:True:=trivial
      go_wp2_with (have _t:=tok;refine wpList_store_elem rfl 84 (.tmp 3) (.tmp 9) rfl 0 84 6 1 1 w.heap.size 0 0 rfl _ rfl _ (cChan v1 c.base c.expected) rfl rfl rfl (one_of rfl) sz_Chan hbx.out (by omega) ?_;clear tok _t;intro w2 hx2 hg2;have CB1:=Lib.hid (CB.start3 (sd:=[⟨w.heap.size+1,84,zC⟩]) ho.out hf.out H1.out (Nat.le_refl _) (by omega) hx2 hg2 hsd.out);obtain ⟨x0,x1,x2,x3,x4,x5,xf,xz⟩:=CB.at6 CB1.out;obtain ⟨r0,r1,r2,r3,r4,r5,rf,rz⟩:=CB.res6 CB1.out (Upd.refl [] _) (fun q hq=>by cases hq) (b:=w.heap.size+1) (t:=84) (by simp);clear hx2 hg2)
      refine bodyPost_ret (v:=vChan v1 c.base c.expected) (by simp [*,results,Tryz.results89,go_sem]) rfl ?_
      rw [hE.out]
      exact SPost.mk (b0:=0) (CB.fin CB1.out (s:=⟨w.heap.size+1,84,zC⟩) (by simp) (((((((Upd.refl _ _).set_in (by simp) _).set_in (by simp) _).set_in (by simp) _).set_in (by simp) _).set_in (by simp) _).set_in (by simp) _))
    · have hE:Hid (moveC c 7 at_=ackC c 7 (selK at_ c.acks.length)):=by unfold Hid moveC;rw [if_neg (by decide),if_neg (by decide),if_pos (by decide)];rw [if_neg h0]
      have hpos:0 < v1.a.n:=by
        rw [HAN.out];cases hc:c.acks with
        | nil=>exact absurd hc h0
        | cons=>simp
      have hz:(0:Int) < (v1.a.n:Int):=by omega
      have hlt:selK at_ c.acks.length < c.acks.length:=selK_lt (by rw [← HAN.out];exact hpos)
      have hsl:=fun W=>impl_sel_k at_ v1.a.n W hpos (by have:=OK.out.la;have:=HAN.out;omega) HAT.out
      have hS:=fun W ho hf hB hWb=>impl_ack_7 (m:=m) v1 c (selK at_ c.acks.length) w W OK.out hlt ho hf hB HT.out hWb
      rw [HAN.out] at hsl
      generalize selK at_ c.acks.length=kk at *
      generalize ackC c 7 kk=D at *
      rw [← HAN.out] at hsl
      have HSL:=Lib.hid hsl;have HS:=Lib.hid hS
      clear h0 hlt hsl hS hpos
      have tok:True:=trivial
      go_wp2_with (have _t:=tok;refine wpList_store_elem rfl 84 (.tmp 3) (.tmp 9) rfl 0 84 6 1 1 w.heap.size 0 0 rfl _ rfl _ (cChan v1 c.base c.expected) rfl rfl rfl (one_of rfl) sz_Chan hbx.out (by omega) ?_;clear tok _t;intro w2 hx2 hg2;have CB1:=Lib.hid (CB.start3 (sd:=[⟨w.heap.size+1,84,zC⟩]) ho.out hf.out H1.out (Nat.le_refl _) (by omega) hx2 hg2 hsd.out);obtain ⟨x0,x1,x2,x3,x4,x5,xf,xz⟩:=CB.at6 CB1.out;obtain ⟨r0,r1,r2,r3,r4,r5,rf,rz⟩:=CB.res6 CB1.out (Upd.refl [] _) (fun q hq=>by cases hq) (b:=w.heap.size+1) (t:=84) (by simp);clear hx2 hg2)
      go_region_law (first
        | (go_simp;go_at_call 137;refine (HSL.out _).mono ?_;rintro e wq ⟨rfl,rfl⟩)
        | (go_simp;go_at_call 138;refine (HS.out _ (CB.below CB1.out (bDrew (Below.refl _ _))).ow (CB.below CB1.out (bDrew (Below.refl _ _))).fr (CB.below CB1.out (bDrew (Below.refl _ _))).up.size (below_upd (CB.below CB1.out (bDrew (Below.refl _ _))).up)).mono ?_;rintro e w4 ⟨v4,rfl,ho4,hf4,hm4,hu4⟩;obtain ⟨r0,r1,r2,r3,r4,r5,rf,rz⟩:=CB.res6 (CB.below CB1.out (bDrew (Below.refl _ _))) hu4 (fun q hq=>hq) (b:=w.heap.size+1) (t:=84) (by simp)))
      all_goals
        go_wp2_with fail
        refine bodyPost_ret (v:=vChan v4 D.base D.expected) (by simp [*,results,Tryz.results89,go_sem]) rfl ?_
        rw [hE.out]
        exact SPost.mk (b0:=0) (CB.fin2 (CB.below CB1.out (bDrew (Below.refl _ _))) (s:=⟨w.heap.size+1,84,zC⟩) (by simp) ho4 hf4 hm4 hu4 (((((((Upd.refl _ _).set_in (by simp) _).set_in (by simp) _).set_in (by simp) _).set_in (by simp) _).set_in (by simp) _).set_in (by simp) _))
theorem impl_step_k (v:CV) (c:Chan) (mv at_:Int) (w:World) {m:Int} (hok:OKC m c) (hfw:fewC c) (hr:RdC w v c) (hat:-9223372036854775808≤at_∧at_≤9223372036854775807) (hT:Tab w) :
    Calls Tryz.prog 89 #[vChan v c.base c.expected,.int .i64 mv,.int .i64 at_] w fun e w'=>SPost w (moveC c mv at_) e w':=by
  by_cases h7:1≤mv∧mv≤7
  · have h8:mv=1∨mv=2∨mv=3∨mv=4∨mv=5∨mv=6∨mv=7:=by omega
    rcases h8 with rfl | rfl | rfl | rfl | rfl | rfl | rfl
    · exact impl_step_1 v c at_ w hok hfw hr hat hT
    · exact impl_step_2 v c at_ w hok hfw hr hat hT
    · exact impl_step_3 v c at_ w hok hfw hr hat hT
    · exact impl_step_4 v c at_ w hok hfw hr hat hT
    · exact impl_step_5 v c at_ w hok hfw hr hat hT
    · exact impl_step_6 v c at_ w hok hfw hr hat hT
    · exact impl_step_7 v c at_ w hok hfw hr hat hT
  · exact impl_step_out v c mv at_ w hok hfw hr hat hT h7
theorem impl_StepChannel_k (v:CV) (c:Chan) (mv at_:Int) (w:World) (hm:bulkC c≤4194304) (hok:okC c) (hr:RdC w v c) (hmv:wfI mv) (hat:wfI at_) (hT:Tab w) :
    Calls Tryz.prog 40 #[vChan v c.base c.expected,.int .i64 mv,.int .i64 at_] w fun e w'=>SPost w (stepC c mv at_) e w':=by
  have hfw:=fewC_of hm
  have hwb:=hok.2.2.2.2.1
  have HM:=Lib.hid hm
  have HOK:=Lib.hid hok
  have HAT:=Lib.hid (wf_range hat)
  have HT:=Lib.hid hT
  generalize hb1:isChan c=b1
  have HB1:=Lib.hid hb1
  clear hm hok hb1 hat hT hmv
  go_enter Tryz.func40,Tryz.ntmps40
  go_wp2_with fail
  refine Calls.mono (impl_IsChannel_c v c _ hwb ?_) ?_
  · exact hr.below (bAlloc (bAlloc (Below.refl _ _) _) _)
  rw [HB1.out]
  rintro e w1 ⟨rfl,hb1⟩
  have H1:=bTrans (bAlloc (bAlloc (Below.refl w.heap.size w) _) _) hb1
  have k0:=bBox hb1 w.heap.size (by simp;omega)
  have f0:=bBoxF hb1 w.heap.size (by simp;omega)
  have k1:=bBox hb1 (w.heap.size+1) (by simp)
  have f1:=bBoxF hb1 (w.heap.size+1) (by simp)
  have z1:w.heap.size+2≤w1.heap.size:=bsz2 hb1
  have q0:w.heap.size < w1.heap.size:=by omega
  have q1:w.heap.size+1 < w1.heap.size:=by omega
  have RD:=Lib.hid (hr.below H1)
  have HT1:=Lib.hid (HT.out.below H1)
  have HH:=Lib.hid H1
  clear hb1 H1
  cases b1
  · have hE:=Lib.hid (stepC_no (mv:=mv) (at_:=at_) HB1.out)
    go_wp2_with fail
    refine Calls.mono (copyChannel_k v c _ hfw ?_) ?_
    · exact RD.out
    rintro e w2 ⟨v2,rfl,ho,hf,hb2⟩
    have k2:=bBox hb2 (w.heap.size+1) q1
    have f2:=bBoxF hb2 (w.heap.size+1) q1
    have hn:w.heap.size+1 ∉ fpC v2:=fun hm=>by have:=hf.lo _ hm;omega
    have q2:w.heap.size+1 < w2.heap.size:=Nat.lt_of_lt_of_le q1 hb2.size
    have H2:=Lib.hid (bTrans HH.out hb2)
    have HO:=Lib.hid ho
    have HF:=Lib.hid (hf.rebase HH.out.size)
    clear ho hf hb2
    go_wp2_with fail
    refine bodyPost_ret (v:=vChan v2 c.base c.expected) (by simp [*,results,Tryz.results40,go_sem]) rfl ?_
    rw [hE.out]
    have hu:Upd [w.heap.size+1] w2 (((((((w2.setCell ⟨w.heap.size+1,0,none⟩ (.slice v2.q.A v2.q.n v2.q.c)).setCell ⟨w.heap.size+1,1,none⟩ (.int .i64 c.base)).setCell ⟨w.heap.size+1,2,none⟩ (.int .i64 c.expected)).setCell ⟨w.heap.size+1,3,none⟩ (.slice v2.i.A v2.i.n v2.i.c)).setCell ⟨w.heap.size+1,4,none⟩ (.slice v2.n.A v2.n.n v2.n.c)).setCell ⟨w.heap.size+1,5,none⟩ (.slice v2.a.A v2.a.n v2.a.c))):=((((((Upd.refl _ _).set_in (by simp) _).set_in (by simp) _).set_in (by simp) _).set_in (by simp) _).set_in (by simp) _).set_in (by simp) _
    exact ⟨v2,rfl,HO.out.upd hu (fun q hq hm=>by simp only [List.mem_singleton] at hm;exact hn (hm ▸ hq)),HF.out.grow hu.size,bUpd H2.out hu (fun q hq=>by simp at hq;omega)⟩
  · have hE:=Lib.hid (stepC_yes (mv:=mv) (at_:=at_) HB1.out)
    have OK:=Lib.hid (OKC.start HB1.out HM.out HOK.out)
    go_wp2_with fail
    refine Calls.mono (impl_step_k v c mv at_ _ OK.out hfw ?_ HAT.out ?_) ?_
    · exact RD.out
    · exact HT1.out
    rw [← hE.out]
    generalize hDD:stepC c mv at_=D
    have HD:=Lib.hid hDD
    clear hDD hE
    rintro e w2 ⟨v2,rfl,ho,hf,hb2⟩
    have k2:=bBox hb2 (w.heap.size+1) q1
    have f2:=bBoxF hb2 (w.heap.size+1) q1
    have hn:w.heap.size+1 ∉ fpC v2:=fun hm=>by have:=hf.lo _ hm;omega
    have q2:w.heap.size+1 < w2.heap.size:=Nat.lt_of_lt_of_le q1 hb2.size
    have H2:=Lib.hid (bTrans HH.out hb2)
    have HO:=Lib.hid ho
    have HF:=Lib.hid (hf.rebase HH.out.size)
    clear ho hf hb2
    go_wp2_with fail
    refine bodyPost_ret (v:=vChan v2 D.base D.expected) (by simp [*,results,Tryz.results40,go_sem]) rfl ?_
    rw [HD.out]
    have hu:Upd [w.heap.size+1] w2 (((((((w2.setCell ⟨w.heap.size+1,0,none⟩ (.slice v2.q.A v2.q.n v2.q.c)).setCell ⟨w.heap.size+1,1,none⟩ (.int .i64 D.base)).setCell ⟨w.heap.size+1,2,none⟩ (.int .i64 D.expected)).setCell ⟨w.heap.size+1,3,none⟩ (.slice v2.i.A v2.i.n v2.i.c)).setCell ⟨w.heap.size+1,4,none⟩ (.slice v2.n.A v2.n.n v2.n.c)).setCell ⟨w.heap.size+1,5,none⟩ (.slice v2.a.A v2.a.n v2.a.c))):=((((((Upd.refl _ _).set_in (by simp) _).set_in (by simp) _).set_in (by simp) _).set_in (by simp) _).set_in (by simp) _).set_in (by simp) _
    exact ⟨v2,rfl,HO.out.upd hu (fun q hq hm=>by simp only [List.mem_singleton] at hm;exact hn (hm ▸ hq)),HF.out.grow hu.size,bUpd H2.out hu (fun q hq=>by simp at hq;omega)⟩
end Go.Proofs.YtdfemnffpaopfaaGreatDoor
