/- Texts of this proof, one behind the other: ChnI2. -/
import Derived.Test.YtdfemnffpaopfaaGreatDoorGmt39
namespace Go.Proofs.YtdfemnffpaopfaaGreatDoor
open Go.RowKit
set_option linter.unusedVariables false
set_option linter.unusedSimpArgs false
set_option maxHeartbeats 4000000
set_option maxRecDepth 100000
theorem impl_step_3 (v:CV) (c:Chan) (at_:Int) (w:World) {m:Int} (hok:OKC m c) (hfw:fewC c) (hr:RdC w v c) (hat:-9223372036854775808≤at_∧at_≤9223372036854775807) (hT:Tab w) :
    Calls Tryz.prog 89 #[vChan v c.base c.expected,(.int .i64 3),.int .i64 at_] w fun e w'=>SPost w (moveC c 3 at_) e w':=by
  have OK:=Lib.hid hok
  have HAT:=Lib.hid hat
  have HT:=Lib.hid hT
  clear hok hat hT
  go_enter Tryz.func89,Tryz.ntmps89
  go_wp2_with fail
  refine Calls.mono (copyChannel_k v c _ hfw ?_) ?_
  · exact hr.below (bAlloc (bAlloc (Below.refl _ _) _) _)
  rintro e w1 ⟨v1,rfl,ho,hf,hb1⟩
  have hbx:=Lib.hid (Own.below (Own.box (t:=84) (cs:=cChan v c.base c.expected) (sz:=6) (box2 w _ _) rfl) hb1)
  have hsd:Hid (∀ s∈[(⟨w.heap.size + 1,84,zC⟩:Side)],s.ok w1∧s.b < w.heap.size + 2∧s.b≠w.heap.size∧w.heap.size≤s.b):=by
    intro s hs
    simp only [List.mem_cons,List.not_mem_nil,or_false] at hs
    subst hs
    exact ⟨Side.below (w:=_) (Own.box (box_new2 w _ _) rfl) hb1,by simp,by simp,by simp⟩
  have H1:=Lib.hid (bTrans (bAlloc (bAlloc (Below.refl w.heap.size w) _) _) hb1)
  have hf':=hf.rebase (show w.heap.size + 2≤_ by simp)
  have ho:=Lib.hid ho
  have hf:=Lib.hid hf'
  clear hf' hb1
  have hqn:v1.q.n = c.queue.length:=by have h1:=ho.out.q.len;rw [List.length_map] at h1;exact h1.symm
  have hnn:v1.n.n = c.net.length:=by have h1:=ho.out.n.len;rw [List.length_map] at h1;exact h1.symm
  have han:v1.a.n = c.acks.length:=by have h1:=ho.out.a.len;rw [List.length_map] at h1;exact h1.symm
  have HQN:=Lib.hid hqn;have HNN:=Lib.hid hnn;have HAN:=Lib.hid han
  clear hqn hnn han
  · by_cases h0:c.net = []
    · have hE:Hid (moveC c 3 at_ = c):=by unfold Hid moveC;rw [if_neg (by decide),if_pos (by decide)];rw [if_pos h0]
      have hz:¬ (0:Int) < (v1.n.n:Int):=by have:=HNN.out;rw [h0] at this;simp at this;omega
      clear h0
      have tok:True:=trivial
      go_wp2_with (have _t:=tok;refine wpList_store_elem rfl 84 (.tmp 3) (.tmp 9) rfl 0 84 6 1 1 w.heap.size 0 0 rfl _ rfl _ (cChan v1 c.base c.expected) rfl rfl rfl (one_of rfl) sz_Chan hbx.out (by omega) ?_;clear tok _t;intro w2 hx2 hg2;have CB1:=Lib.hid (CB.start3 (sd:=[⟨w.heap.size + 1,84,zC⟩]) ho.out hf.out H1.out (Nat.le_refl _) (by omega) hx2 hg2 hsd.out);obtain ⟨x0,x1,x2,x3,x4,x5,xf,xz⟩:=CB.at6 CB1.out;obtain ⟨r0,r1,r2,r3,r4,r5,rf,rz⟩:=CB.res6 CB1.out (Upd.refl [] _) (fun q hq=>by cases hq) (b:=w.heap.size + 1) (t:=84) (by simp);clear hx2 hg2)
      refine bodyPost_ret (v:=vChan v1 c.base c.expected) (by simp [*,results,Tryz.results89,go_sem]) rfl ?_
      rw [hE.out]
      exact SPost.mk (b0:=0) (CB.fin CB1.out (s:=⟨w.heap.size + 1,84,zC⟩) (by simp) (((((((Upd.refl _ _).set_in (by simp) _).set_in (by simp) _).set_in (by simp) _).set_in (by simp) _).set_in (by simp) _).set_in (by simp) _))
    · have hE:Hid (moveC c 3 at_ = netC c 3 (selK at_ c.net.length)):=by unfold Hid moveC;rw [if_neg (by decide),if_pos (by decide)];rw [if_neg h0]
      have hpos:0 < v1.n.n:=by
        rw [HNN.out];cases hc:c.net with
        | nil=>exact absurd hc h0
        | cons=>simp
      have hz:(0:Int) < (v1.n.n:Int):=by omega
      have hlt:selK at_ c.net.length < c.net.length:=selK_lt (by rw [← HNN.out];exact hpos)
      have hsl:=fun W=>impl_sel_k at_ v1.n.n W hpos (by have:=OK.out.ln;have:=HNN.out;omega) HAT.out
      have hS:=fun W ho hf hB hWb=>impl_net_3 (m:=m) v1 c (selK at_ c.net.length) w W OK.out hlt ho hf hB HT.out hWb
      rw [HNN.out] at hsl
      generalize selK at_ c.net.length = kk at *
      generalize netC c 3 kk = D at *
      rw [← HNN.out] at hsl
      have HSL:=Lib.hid hsl;have HS:=Lib.hid hS
      clear h0 hlt hsl hS hpos
      have tok:True:=trivial
      go_wp2_with (have _t:=tok;refine wpList_store_elem rfl 84 (.tmp 3) (.tmp 9) rfl 0 84 6 1 1 w.heap.size 0 0 rfl _ rfl _ (cChan v1 c.base c.expected) rfl rfl rfl (one_of rfl) sz_Chan hbx.out (by omega) ?_;clear tok _t;intro w2 hx2 hg2;have CB1:=Lib.hid (CB.start3 (sd:=[⟨w.heap.size + 1,84,zC⟩]) ho.out hf.out H1.out (Nat.le_refl _) (by omega) hx2 hg2 hsd.out);obtain ⟨x0,x1,x2,x3,x4,x5,xf,xz⟩:=CB.at6 CB1.out;obtain ⟨r0,r1,r2,r3,r4,r5,rf,rz⟩:=CB.res6 CB1.out (Upd.refl [] _) (fun q hq=>by cases hq) (b:=w.heap.size + 1) (t:=84) (by simp);clear hx2 hg2)
      go_region_law (first
        | (go_simp;go_at_call 137;refine (HSL.out _).mono ?_;rintro e wq ⟨rfl,rfl⟩)
        | (go_simp;go_at_call 136;refine (HS.out _ (CB.below CB1.out (bDrew (Below.refl _ _))).ow (CB.below CB1.out (bDrew (Below.refl _ _))).fr (CB.below CB1.out (bDrew (Below.refl _ _))).up.size (below_upd (CB.below CB1.out (bDrew (Below.refl _ _))).up)).mono ?_;rintro e w4 ⟨v4,rfl,ho4,hf4,hm4,hu4⟩;obtain ⟨r0,r1,r2,r3,r4,r5,rf,rz⟩:=CB.res6 (CB.below CB1.out (bDrew (Below.refl _ _))) hu4 (fun q hq=>hq) (b:=w.heap.size + 1) (t:=84) (by simp)))
      all_goals
        go_wp2_with fail
        refine bodyPost_ret (v:=vChan v4 D.base D.expected) (by simp [*,results,Tryz.results89,go_sem]) rfl ?_
        rw [hE.out]
        exact SPost.mk (b0:=0) (CB.fin2 (CB.below CB1.out (bDrew (Below.refl _ _))) (s:=⟨w.heap.size + 1,84,zC⟩) (by simp) ho4 hf4 hm4 hu4 (((((((Upd.refl _ _).set_in (by simp) _).set_in (by simp) _).set_in (by simp) _).set_in (by simp) _).set_in (by simp) _).set_in (by simp) _))
theorem impl_step_4 (v:CV) (c:Chan) (at_:Int) (w:World) {m:Int} (hok:OKC m c) (hfw:fewC c) (hr:RdC w v c) (hat:-9223372036854775808≤at_∧at_≤9223372036854775807) (hT:Tab w) :
    Calls Tryz.prog 89 #[vChan v c.base c.expected,(.int .i64 4),.int .i64 at_] w fun e w'=>SPost w (moveC c 4 at_) e w':=by
  have OK:=Lib.hid hok
  have HAT:=Lib.hid hat
  have HT:=Lib.hid hT
  clear hok hat hT
  go_enter Tryz.func89,Tryz.ntmps89
  go_wp2_with fail
  refine Calls.mono (copyChannel_k v c _ hfw ?_) ?_
  · exact hr.below (bAlloc (bAlloc (Below.refl _ _) _) _)
  rintro e w1 ⟨v1,rfl,ho,hf,hb1⟩
  have hbx:=Lib.hid (Own.below (Own.box (t:=84) (cs:=cChan v c.base c.expected) (sz:=6) (box2 w _ _) rfl) hb1)
  have hsd:Hid (∀ s∈[(⟨w.heap.size + 1,84,zC⟩:Side)],s.ok w1∧s.b < w.heap.size + 2∧s.b≠w.heap.size∧w.heap.size≤s.b):=by
    intro s hs
    simp only [List.mem_cons,List.not_mem_nil,or_false] at hs
    subst hs
    exact ⟨Side.below (w:=_) (Own.box (box_new2 w _ _) rfl) hb1,by simp,by simp,by simp⟩
  have H1:=Lib.hid (bTrans (bAlloc (bAlloc (Below.refl w.heap.size w) _) _) hb1)
  have hf':=hf.rebase (show w.heap.size + 2≤_ by simp)
  have ho:=Lib.hid ho
  have hf:=Lib.hid hf'
  clear hf' hb1
  have hqn:v1.q.n = c.queue.length:=by have h1:=ho.out.q.len;rw [List.length_map] at h1;exact h1.symm
  have hnn:v1.n.n = c.net.length:=by have h1:=ho.out.n.len;rw [List.length_map] at h1;exact h1.symm
  have han:v1.a.n = c.acks.length:=by have h1:=ho.out.a.len;rw [List.length_map] at h1;exact h1.symm
  have HQN:=Lib.hid hqn;have HNN:=Lib.hid hnn;have HAN:=Lib.hid han
  clear hqn hnn han
  · by_cases h0:c.net = []
    · have hE:Hid (moveC c 4 at_ = c):=by unfold Hid moveC;rw [if_neg (by decide),if_pos (by decide)];rw [if_pos h0]
      have hz:¬ (0:Int) < (v1.n.n:Int):=by have:=HNN.out;rw [h0] at this;simp at this;omega
      clear h0
      have tok:True:=trivial
      go_wp2_with (have _t:=tok;refine wpList_store_elem rfl 84 (.tmp 3) (.tmp 9) rfl 0 84 6 1 1 w.heap.size 0 0 rfl _ rfl _ (cChan v1 c.base c.expected) rfl rfl rfl (one_of rfl) sz_Chan hbx.out (by omega) ?_;clear tok _t;intro w2 hx2 hg2;have CB1:=Lib.hid (CB.start3 (sd:=[⟨w.heap.size + 1,84,zC⟩]) ho.out hf.out H1.out (Nat.le_refl _) (by omega) hx2 hg2 hsd.out);obtain ⟨x0,x1,x2,x3,x4,x5,xf,xz⟩:=CB.at6 CB1.out;obtain ⟨r0,r1,r2,r3,r4,r5,rf,rz⟩:=CB.res6 CB1.out (Upd.refl [] _) (fun q hq=>by cases hq) (b:=w.heap.size + 1) (t:=84) (by simp);clear hx2 hg2)
      refine bodyPost_ret (v:=vChan v1 c.base c.expected) (by simp [*,results,Tryz.results89,go_sem]) rfl ?_
      rw [hE.out]
      exact SPost.mk (b0:=0) (CB.fin CB1.out (s:=⟨w.heap.size + 1,84,zC⟩) (by simp) (((((((Upd.refl _ _).set_in (by simp) _).set_in (by simp) _).set_in (by simp) _).set_in (by simp) _).set_in (by simp) _).set_in (by simp) _))
    · have hE:Hid (moveC c 4 at_ = netC c 4 (selK at_ c.net.length)):=by unfold Hid moveC;rw [if_neg (by decide),if_pos (by decide)];rw [if_neg h0]
      have hpos:0 < v1.n.n:=by
        rw [HNN.out];cases hc:c.net with
        | nil=>exact absurd hc h0
        | cons=>simp
      have hz:(0:Int) < (v1.n.n:Int):=by omega
      have hlt:selK at_ c.net.length < c.net.length:=selK_lt (by rw [← HNN.out];exact hpos)
      have hsl:=fun W=>impl_sel_k at_ v1.n.n W hpos (by have:=OK.out.ln;have:=HNN.out;omega) HAT.out
      have hS:=fun W ho hf hB hWb=>impl_net_4 (m:=m) v1 c (selK at_ c.net.length) w W OK.out hlt ho hf hB HT.out hWb
      rw [HNN.out] at hsl
      generalize selK at_ c.net.length = kk at *
      generalize netC c 4 kk = D at *
      rw [← HNN.out] at hsl
      have HSL:=Lib.hid hsl;have HS:=Lib.hid hS
      clear h0 hlt hsl hS hpos
      have tok:True:=trivial
      go_wp2_with (have _t:=tok;refine wpList_store_elem rfl 84 (.tmp 3) (.tmp 9) rfl 0 84 6 1 1 w.heap.size 0 0 rfl _ rfl _ (cChan v1 c.base c.expected) rfl rfl rfl (one_of rfl) sz_Chan hbx.out (by omega) ?_;clear tok _t;intro w2 hx2 hg2;have CB1:=Lib.hid (CB.start3 (sd:=[⟨w.heap.size + 1,84,zC⟩]) ho.out hf.out H1.out (Nat.le_refl _) (by omega) hx2 hg2 hsd.out);obtain ⟨x0,x1,x2,x3,x4,x5,xf,xz⟩:=CB.at6 CB1.out;obtain ⟨r0,r1,r2,r3,r4,r5,rf,rz⟩:=CB.res6 CB1.out (Upd.refl [] _) (fun q hq=>by cases hq) (b:=w.heap.size + 1) (t:=84) (by simp);clear hx2 hg2)
      go_region_law (first
        | (go_simp;go_at_call 137;refine (HSL.out _).mono ?_;rintro e wq ⟨rfl,rfl⟩)
        | (go_simp;go_at_call 136;refine (HS.out _ (CB.below CB1.out (bDrew (Below.refl _ _))).ow (CB.below CB1.out (bDrew (Below.refl _ _))).fr (CB.below CB1.out (bDrew (Below.refl _ _))).up.size (below_upd (CB.below CB1.out (bDrew (Below.refl _ _))).up)).mono ?_;rintro e w4 ⟨v4,rfl,ho4,hf4,hm4,hu4⟩;obtain ⟨r0,r1,r2,r3,r4,r5,rf,rz⟩:=CB.res6 (CB.below CB1.out (bDrew (Below.refl _ _))) hu4 (fun q hq=>hq) (b:=w.heap.size + 1) (t:=84) (by simp)))
      all_goals
        go_wp2_with fail
        refine bodyPost_ret (v:=vChan v4 D.base D.expected) (by simp [*,results,Tryz.results89,go_sem]) rfl ?_
        rw [hE.out]
        exact SPost.mk (b0:=0) (CB.fin2 (CB.below CB1.out (bDrew (Below.refl _ _))) (s:=⟨w.heap.size + 1,84,zC⟩) (by simp) ho4 hf4 hm4 hu4 (((((((Upd.refl _ _).set_in (by simp) _).set_in (by simp) _).set_in (by simp) _).set_in (by simp) _).set_in (by simp) _).set_in (by simp) _))
end Go.Proofs.YtdfemnffpaopfaaGreatDoor
