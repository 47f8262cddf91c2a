/- Texts of this proof. -/
import Derived.Test.YtcnbphnnfmphlaaGreatDoorGtm21
namespace Go.Proofs.YtcnbphnnfmphlaaGreatDoor
open Go.Calls renaming mono → Zb
open Go.Lib renaming hid → Z5
open List renaming mem_cons → Zn,length_map → Zo
open Nat renaming le_refl → Zd
open Go.Proofs.Tryz
open Go.RowKit
set_option linter.unusedVariables false
set_option linter.unusedSimpArgs false
set_option maxHeartbeats 4000000
set_option maxRecDepth 100000
theorem ZeA(v:CV)(c:Chan)(at_:Int)(w:World){m:Int}(hok:CG m c)(hfw:EP c)(hr:FI w v c)(hat:-9223372036854775808<=at_/\at_<=9223372036854775807)(hT:Ct w):
  Calls prog 53 #[YA v c.base c.expected,(.int .i64 1),.int .i64 at_] w fun e w'=>Bi w (Yv c 1 at_) e w':=by
 have OK:=Z5 hok;have HAT:=Z5 hat
 have HT:=Z5 hT;clear hok hat hT;go_enter func53,ntmps53;go_wp2_with fail;refine Zb (Yp v c _ hfw ?_) ?_
 .exact hr.below (Ze (Ze (Below.refl _ _) _) _)
 rintro e w1 ⟨v1,rfl,ho,hf,hb1⟩;have hbx:=Z5 (Own.below (Own.box (t:=77) (cs:=Ql v c.base c.expected) (sz:=6) (NI w _ _) rfl) hb1)
 have hsd:Hid (∀ s∈[(⟨w.heap.size+1,77,zC⟩:BA)],s.ok w1/\s.b<w.heap.size+2/\s.b≠w.heap.size/\w.heap.size<=s.b):=by
  intro s hs;simp only[Zn,List.not_mem_nil,or_false]at hs;subst hs;exact⟨BA.below (w:=_) (Own.box (JA w _ _) rfl) hb1,s_,s_,s_⟩
 have H1:=Z5 (Zg (Ze (Ze (Below.refl w.heap.size w) _) _) hb1);have hf':=hf.Ay (show w.heap.size+2<=_ by simp);have ho:=Z5 ho;have hf:=Z5 hf';clear hf' hb1;have En:v1.q.n=c.queue.length:=by have h1:=ho.out.q.len;rw[Zo]at h1;exact h1.symm
 have hnn:v1.n.n=c.net.length:=by have h1:=ho.out.n.len;rw[Zo]at h1;exact h1.symm
 have Fw:v1.a.n=c.Ai.length:=by have h1:=ho.out.a.len;rw[Zo]at h1;exact h1.symm
 have LX:=Z5 En;have Ef:=Z5 hnn;have Gy:=Z5 Fw;clear En hnn Fw
 .obtain⟨⟨qA,qn,qc⟩,vi,vn,va⟩:=v1;have hq8:qn<=8:=by have h1:=OK.out.lq;have h2:qn=c.queue.length:=LX.out;omega
  have hb0:=OK.out.b0;have hb1:c.base<=1000008:=by have:=OK.out.b1;omega
  have hTW:Hid (∀ (b0:Nat) (v2:CV) (c2:Chan) (sd:List BA) (w':World),CB w [] w.heap.size b0 v2 c2 sd w'->Ct w'):=fun _ _ _ _ _ h=>HT.out.below (Jd h.up)
  have tok:True:=trivial;go_wp2_with (have _t:=tok;refine ZS rfl 77 (.tmp 3) (.tmp 9) rfl 0 77 6 1 1 w.heap.size 0 0 rfl _ rfl _ (Ql ⟨⟨qA,qn,qc⟩,vi,vn,va⟩ c.base c.expected) rfl rfl rfl (QZ rfl) QG hbx.out o_ ?_;clear tok _t;intro w2 hx2 hg2;have Ba:=Z5 (Qi (sd:=[⟨w.heap.size+1,77,zC⟩]) ho.out hf.out H1.out (Zd _) o_ hx2 hg2 hsd.out);obtain⟨x0,x1,x2,x3,x4,x5,xf,xz⟩:=CB.DR Ba.out;obtain⟨r0,r1,r2,r3,r4,r5,rf,rz⟩:=CB.Bg Ba.out (Aw.refl [] _) (fun q hq=>by cases hq) (b:=w.heap.size+1) (t:=77) s_;clear hx2 hg2);go_loopw [7] (fun i wr=>∃ (k:Nat) (bI:Sv),i=.int .i64 (k:Int)/\k<=qn/\CB w [] w.heap.size w.heap.size ⟨⟨qA,qn,qc⟩,vi,bI,va⟩ { c with net:=ML c k } [⟨w.heap.size+1,77,zC⟩] wr) (fun i _=>qn-(intOf i).toNat)
  case atStart=>exact⟨0,vn,rfl,Nat.zero_le _,by rw[ZgR];exact Ba.out⟩
  case round =>
   obtain⟨k,bI,rfl,hk,hcb⟩:=hrel;have Tj:=Z5 hcb;obtain⟨x0,x1,x2,x3,x4,x5,xf,xz⟩:=CB.DR Tj.out;obtain⟨r0,r1,r2,r3,r4,r5,rf,rz⟩:=CB.Bg Tj.out (Aw.refl [] _) (fun q hq=>by cases hq) (b:=w.heap.size+1) (t:=77) s_;clear hcb Ba;by_cases hlt:k<qn/\k<3
   .obtain⟨hlt,h3⟩:=hlt;obtain⟨s,g,off,hs,hA,hc⟩:=D7.at_ Tj.out.ow.q.row hlt;dsimp only at hA;subst hA;have hs8:s.size<=4194304:=OK.out.q s (List.mem_of_getElem? hs.out);have hk0:(0:Int)<=(k:Int):=by omega
    have hk1:(k:Int)<(qn:Int):=by omega
    have h3':(k:Int)< 3:=by omega
    have hw:IntKind.i64.wrap (c.base+(k:Int))=c.base+(k:Int):=by rw[IntKind.wrap_i64];omega
    have hS:=Z5 (ZgS c h3 hs.out);have hnl:=ZiD c k OK.out.ln;have hpk:=fun W hT=>Z9s (c.base+(k:Int)) s W o_ o_ hs8 hT
    clear hs;go_wp2_with fail;refine ZQ fun R hR=>?_
    have LY:=Z5 (CB.at_ Tj.out hR);have OP:=Z5 (CB.below LY.out (ZY (Below.refl _ _)));have hcR:R.cell? ⟨g,off+k,none⟩=some (.string s):=by rw[hR.out];exact hc
    obtain⟨x0,x1,x2,x3,x4,x5,xf,xz⟩:=CB.DR LY.out;obtain⟨r0,r1,r2,r3,r4,r5,rf,rz⟩:=CB.Bg LY.out (Aw.refl [] _) (fun q hq=>by cases hq) (b:=w.heap.size+1) (t:=77) s_;have hgR:=Y6 hcR;clear hR Tj hc
    go_region_law (first
     |(go_simp;go_at_call 75;refine(hpk _ (hTW.out _ _ _ _ _ OP.out)).mono ?_;rintro e w7 ⟨rfl,FU⟩;have G5:=Z5 (CB.below OP.out FU);obtain⟨x0,x1,x2,x3,x4,x5,xf,xz⟩:=CB.DR G5.out)
     |(go_simp;go_at_call 74;refine(lW bI (ML c k) (YX false (c.base+(k:Int)) s) _ o_ ?_).mono ?_;exact G5.out.ow.n;rintro e w8 ⟨v8,rfl,OQ,NU,Ta⟩;have V4:=Z5 (lU G5.out OQ NU Ta);obtain⟨x0,x1,x2,x3,x4,x5,xf,xz⟩:=XK G5.out NU (fun q hq=>ZI.2 (.inr (.inr (.inl hq))))))
    all_goals
     rw[<- hS.out]at V4;clear G5 LY OP hpk hcR;go_wp2_with fail;exact⟨⟨k+1,v8,s_,o_,V4.out⟩,by simp only[intOf];omega⟩
   .have hE:Hid (Yv c 1 at_ ={ c with net:=ML c k }):=by
     unfold Hid;show Qj c=_;unfold Qj;rw[ZiE c (by have h1:qn=c.queue.length:=LX.out;omega)]
    by_cases h3:(k:Int)< 3
    .have hkn:¬(k:Int)<(qn:Int):=by omega
     clear hlt;go_wp2_with fail;refine bodyPost_ret (v:=YA ⟨⟨qA,qn,qc⟩,vi,bI,va⟩ c.base c.expected) (by simp[*,results,results53,go_sem]) rfl ?_;rw[hE.out];exact Bi.mk (b0:=0) (QS Tj.out (s:=⟨w.heap.size+1,77,zC⟩) s_ Cs)
    .clear hlt;go_wp2_with fail;refine bodyPost_ret (v:=YA ⟨⟨qA,qn,qc⟩,vi,bI,va⟩ c.base c.expected) (by simp[*,results,results53,go_sem]) rfl ?_;rw[hE.out];exact Bi.mk (b0:=0) (QS Tj.out (s:=⟨w.heap.size+1,77,zC⟩) s_ Cs)
theorem Zez(v:CV)(c:Chan)(at_:Int)(w:World){m:Int}(hok:CG m c)(hfw:EP c)(hr:FI w v c)(hat:-9223372036854775808<=at_/\at_<=9223372036854775807)(hT:Ct w):
  Calls prog 53 #[YA v c.base c.expected,(.int .i64 2),.int .i64 at_] w fun e w'=>Bi w (Yv c 2 at_) e w':=by
 have OK:=Z5 hok;have HAT:=Z5 hat
 have HT:=Z5 hT;clear hok hat hT;go_enter func53,ntmps53;go_wp2_with fail;refine Zb (Yp v c _ hfw ?_) ?_
 .exact hr.below (Ze (Ze (Below.refl _ _) _) _)
 rintro e w1 ⟨v1,rfl,ho,hf,hb1⟩;have hbx:=Z5 (Own.below (Own.box (t:=77) (cs:=Ql v c.base c.expected) (sz:=6) (NI w _ _) rfl) hb1)
 have hsd:Hid (∀ s∈[(⟨w.heap.size+1,77,zC⟩:BA)],s.ok w1/\s.b<w.heap.size+2/\s.b≠w.heap.size/\w.heap.size<=s.b):=by
  intro s hs;simp only[Zn,List.not_mem_nil,or_false]at hs;subst hs;exact⟨BA.below (w:=_) (Own.box (JA w _ _) rfl) hb1,s_,s_,s_⟩
 have H1:=Z5 (Zg (Ze (Ze (Below.refl w.heap.size w) _) _) hb1);have hf':=hf.Ay (show w.heap.size+2<=_ by simp);have ho:=Z5 ho;have hf:=Z5 hf';clear hf' hb1;have En:v1.q.n=c.queue.length:=by have h1:=ho.out.q.len;rw[Zo]at h1;exact h1.symm
 have hnn:v1.n.n=c.net.length:=by have h1:=ho.out.n.len;rw[Zo]at h1;exact h1.symm
 have Fw:v1.a.n=c.Ai.length:=by have h1:=ho.out.a.len;rw[Zo]at h1;exact h1.symm
 have LX:=Z5 En;have Ef:=Z5 hnn;have Gy:=Z5 Fw;clear En hnn Fw
 .by_cases h0:c.net=[]
  .have hE:Hid (Yv c 2 at_=c):=by unfold Hid Yv;rw[if_neg AO,if_pos AO];rw[if_pos h0]
   have hz:¬(0:Int)<(v1.n.n:Int):=by have:=Ef.out;rw[h0]at this;simp at this;omega
   clear h0;have tok:True:=trivial;go_wp2_with (have _t:=tok;refine ZS rfl 77 (.tmp 3) (.tmp 9) rfl 0 77 6 1 1 w.heap.size 0 0 rfl _ rfl _ (Ql v1 c.base c.expected) rfl rfl rfl (QZ rfl) QG hbx.out o_ ?_;clear tok _t;intro w2 hx2 hg2;have Ba:=Z5 (Qi (sd:=[⟨w.heap.size+1,77,zC⟩]) ho.out hf.out H1.out (Zd _) o_ hx2 hg2 hsd.out);obtain⟨x0,x1,x2,x3,x4,x5,xf,xz⟩:=CB.DR Ba.out;obtain⟨r0,r1,r2,r3,r4,r5,rf,rz⟩:=CB.Bg Ba.out (Aw.refl [] _) (fun q hq=>by cases hq) (b:=w.heap.size+1) (t:=77) s_;clear hx2 hg2);refine bodyPost_ret (v:=YA v1 c.base c.expected) (by simp[*,results,results53,go_sem]) rfl ?_;rw[hE.out];exact Bi.mk (b0:=0) (QS Ba.out (s:=⟨w.heap.size+1,77,zC⟩) s_ Cs)
  .have hE:Hid (Yv c 2 at_=Eb c 2 (Di at_ c.net.length)):=by unfold Hid Yv;rw[if_neg AO,if_pos AO];rw[if_neg h0]
   have hpos:0<v1.n.n:=by
    rw[Ef.out];cases hc:c.net with
    |nil=>exact absurd hc h0
    |cons=>simp
   have hz:(0:Int)<(v1.n.n:Int):=by omega
   have hlt:Di at_ c.net.length<c.net.length:=OO (by rw[<- Ef.out];exact hpos);have hsl:=fun W=>JC at_ v1.n.n W hpos (by have:=OK.out.ln;have:=Ef.out;omega) HAT.out
   have hS:=fun W ho hf hB Cq=>Zhu (m:=m) v1 c (Di at_ c.net.length) w W OK.out hlt ho hf hB HT.out Cq
   rw[Ef.out]at hsl;generalize Di at_ c.net.length=kk at *
   generalize Eb c 2 kk=D at *
   rw[<- Ef.out]at hsl;have MP:=Z5 hsl;have HS:=Z5 hS;clear h0 hlt hsl hS hpos;have tok:True:=trivial;go_wp2_with (have _t:=tok;refine ZS rfl 77 (.tmp 3) (.tmp 9) rfl 0 77 6 1 1 w.heap.size 0 0 rfl _ rfl _ (Ql v1 c.base c.expected) rfl rfl rfl (QZ rfl) QG hbx.out o_ ?_;clear tok _t;intro w2 hx2 hg2;have Ba:=Z5 (Qi (sd:=[⟨w.heap.size+1,77,zC⟩]) ho.out hf.out H1.out (Zd _) o_ hx2 hg2 hsd.out);obtain⟨x0,x1,x2,x3,x4,x5,xf,xz⟩:=CB.DR Ba.out;obtain⟨r0,r1,r2,r3,r4,r5,rf,rz⟩:=CB.Bg Ba.out (Aw.refl [] _) (fun q hq=>by cases hq) (b:=w.heap.size+1) (t:=77) s_;clear hx2 hg2)
   go_region_law (first
    |(go_simp;go_at_call 77;refine(MP.out _).mono ?_;rintro e wq ⟨rfl,rfl⟩)
    |(go_simp;go_at_call 76;refine(HS.out _ (CB.below Ba.out (ZY (Below.refl _ _))).ow (CB.below Ba.out (ZY (Below.refl _ _))).fr (CB.below Ba.out (ZY (Below.refl _ _))).up.size (Jd (CB.below Ba.out (ZY (Below.refl _ _))).up)).mono ?_;rintro e w4 ⟨v4,rfl,C9,DF,LP,FK⟩;obtain⟨r0,r1,r2,r3,r4,r5,rf,rz⟩:=CB.Bg (CB.below Ba.out (ZY (Below.refl _ _))) FK (fun q hq=>hq) (b:=w.heap.size+1) (t:=77) s_))
   all_goals
    go_wp2_with fail;refine bodyPost_ret (v:=YA v4 D.base D.expected) (by simp[*,results,results53,go_sem]) rfl ?_;rw[hE.out];exact Bi.mk (b0:=0) (V6 (CB.below Ba.out (ZY (Below.refl _ _))) (s:=⟨w.heap.size+1,77,zC⟩) s_ C9 DF LP FK Cs)
theorem Zey(v:CV)(c:Chan)(at_:Int)(w:World){m:Int}(hok:CG m c)(hfw:EP c)(hr:FI w v c)(hat:-9223372036854775808<=at_/\at_<=9223372036854775807)(hT:Ct w):
  Calls prog 53 #[YA v c.base c.expected,(.int .i64 3),.int .i64 at_] w fun e w'=>Bi w (Yv c 3 at_) e w':=by
 have OK:=Z5 hok;have HAT:=Z5 hat
 have HT:=Z5 hT;clear hok hat hT;go_enter func53,ntmps53;go_wp2_with fail;refine Zb (Yp v c _ hfw ?_) ?_
 .exact hr.below (Ze (Ze (Below.refl _ _) _) _)
 rintro e w1 ⟨v1,rfl,ho,hf,hb1⟩;have hbx:=Z5 (Own.below (Own.box (t:=77) (cs:=Ql v c.base c.expected) (sz:=6) (NI w _ _) rfl) hb1)
 have hsd:Hid (∀ s∈[(⟨w.heap.size+1,77,zC⟩:BA)],s.ok w1/\s.b<w.heap.size+2/\s.b≠w.heap.size/\w.heap.size<=s.b):=by
  intro s hs;simp only[Zn,List.not_mem_nil,or_false]at hs;subst hs;exact⟨BA.below (w:=_) (Own.box (JA w _ _) rfl) hb1,s_,s_,s_⟩
 have H1:=Z5 (Zg (Ze (Ze (Below.refl w.heap.size w) _) _) hb1);have hf':=hf.Ay (show w.heap.size+2<=_ by simp);have ho:=Z5 ho;have hf:=Z5 hf';clear hf' hb1;have En:v1.q.n=c.queue.length:=by have h1:=ho.out.q.len;rw[Zo]at h1;exact h1.symm
 have hnn:v1.n.n=c.net.length:=by have h1:=ho.out.n.len;rw[Zo]at h1;exact h1.symm
 have Fw:v1.a.n=c.Ai.length:=by have h1:=ho.out.a.len;rw[Zo]at h1;exact h1.symm
 have LX:=Z5 En;have Ef:=Z5 hnn;have Gy:=Z5 Fw;clear En hnn Fw
 .by_cases h0:c.net=[]
  .have hE:Hid (Yv c 3 at_=c):=by unfold Hid Yv;rw[if_neg AO,if_pos AO];rw[if_pos h0]
   have hz:¬(0:Int)<(v1.n.n:Int):=by have:=Ef.out;rw[h0]at this;simp at this;omega
   clear h0;have tok:True:=trivial;go_wp2_with (have _t:=tok;refine ZS rfl 77 (.tmp 3) (.tmp 9) rfl 0 77 6 1 1 w.heap.size 0 0 rfl _ rfl _ (Ql v1 c.base c.expected) rfl rfl rfl (QZ rfl) QG hbx.out o_ ?_;clear tok _t;intro w2 hx2 hg2;have Ba:=Z5 (Qi (sd:=[⟨w.heap.size+1,77,zC⟩]) ho.out hf.out H1.out (Zd _) o_ hx2 hg2 hsd.out);obtain⟨x0,x1,x2,x3,x4,x5,xf,xz⟩:=CB.DR Ba.out;obtain⟨r0,r1,r2,r3,r4,r5,rf,rz⟩:=CB.Bg Ba.out (Aw.refl [] _) (fun q hq=>by cases hq) (b:=w.heap.size+1) (t:=77) s_;clear hx2 hg2);refine bodyPost_ret (v:=YA v1 c.base c.expected) (by simp[*,results,results53,go_sem]) rfl ?_;rw[hE.out];exact Bi.mk (b0:=0) (QS Ba.out (s:=⟨w.heap.size+1,77,zC⟩) s_ Cs)
  .have hE:Hid (Yv c 3 at_=Eb c 3 (Di at_ c.net.length)):=by unfold Hid Yv;rw[if_neg AO,if_pos AO];rw[if_neg h0]
   have hpos:0<v1.n.n:=by
    rw[Ef.out];cases hc:c.net with
    |nil=>exact absurd hc h0
    |cons=>simp
   have hz:(0:Int)<(v1.n.n:Int):=by omega
   have hlt:Di at_ c.net.length<c.net.length:=OO (by rw[<- Ef.out];exact hpos);have hsl:=fun W=>JC at_ v1.n.n W hpos (by have:=OK.out.ln;have:=Ef.out;omega) HAT.out
   have hS:=fun W ho hf hB Cq=>Zht (m:=m) v1 c (Di at_ c.net.length) w W OK.out hlt ho hf hB HT.out Cq
   rw[Ef.out]at hsl;generalize Di at_ c.net.length=kk at *
   generalize Eb c 3 kk=D at *
   rw[<- Ef.out]at hsl;have MP:=Z5 hsl;have HS:=Z5 hS;clear h0 hlt hsl hS hpos;have tok:True:=trivial;go_wp2_with (have _t:=tok;refine ZS rfl 77 (.tmp 3) (.tmp 9) rfl 0 77 6 1 1 w.heap.size 0 0 rfl _ rfl _ (Ql v1 c.base c.expected) rfl rfl rfl (QZ rfl) QG hbx.out o_ ?_;clear tok _t;intro w2 hx2 hg2;have Ba:=Z5 (Qi (sd:=[⟨w.heap.size+1,77,zC⟩]) ho.out hf.out H1.out (Zd _) o_ hx2 hg2 hsd.out);obtain⟨x0,x1,x2,x3,x4,x5,xf,xz⟩:=CB.DR Ba.out;obtain⟨r0,r1,r2,r3,r4,r5,rf,rz⟩:=CB.Bg Ba.out (Aw.refl [] _) (fun q hq=>by cases hq) (b:=w.heap.size+1) (t:=77) s_;clear hx2 hg2)
   go_region_law (first
    |(go_simp;go_at_call 77;refine(MP.out _).mono ?_;rintro e wq ⟨rfl,rfl⟩)
    |(go_simp;go_at_call 76;refine(HS.out _ (CB.below Ba.out (ZY (Below.refl _ _))).ow (CB.below Ba.out (ZY (Below.refl _ _))).fr (CB.below Ba.out (ZY (Below.refl _ _))).up.size (Jd (CB.below Ba.out (ZY (Below.refl _ _))).up)).mono ?_;rintro e w4 ⟨v4,rfl,C9,DF,LP,FK⟩;obtain⟨r0,r1,r2,r3,r4,r5,rf,rz⟩:=CB.Bg (CB.below Ba.out (ZY (Below.refl _ _))) FK (fun q hq=>hq) (b:=w.heap.size+1) (t:=77) s_))
   all_goals
    go_wp2_with fail;refine bodyPost_ret (v:=YA v4 D.base D.expected) (by simp[*,results,results53,go_sem]) rfl ?_;rw[hE.out];exact Bi.mk (b0:=0) (V6 (CB.below Ba.out (ZY (Below.refl _ _))) (s:=⟨w.heap.size+1,77,zC⟩) s_ C9 DF LP FK Cs)
theorem Zex(v:CV)(c:Chan)(at_:Int)(w:World){m:Int}(hok:CG m c)(hfw:EP c)(hr:FI w v c)(hat:-9223372036854775808<=at_/\at_<=9223372036854775807)(hT:Ct w):
  Calls prog 53 #[YA v c.base c.expected,(.int .i64 4),.int .i64 at_] w fun e w'=>Bi w (Yv c 4 at_) e w':=by
 have OK:=Z5 hok;have HAT:=Z5 hat
 have HT:=Z5 hT;clear hok hat hT;go_enter func53,ntmps53;go_wp2_with fail;refine Zb (Yp v c _ hfw ?_) ?_
 .exact hr.below (Ze (Ze (Below.refl _ _) _) _)
 rintro e w1 ⟨v1,rfl,ho,hf,hb1⟩;have hbx:=Z5 (Own.below (Own.box (t:=77) (cs:=Ql v c.base c.expected) (sz:=6) (NI w _ _) rfl) hb1)
 have hsd:Hid (∀ s∈[(⟨w.heap.size+1,77,zC⟩:BA)],s.ok w1/\s.b<w.heap.size+2/\s.b≠w.heap.size/\w.heap.size<=s.b):=by
  intro s hs;simp only[Zn,List.not_mem_nil,or_false]at hs;subst hs;exact⟨BA.below (w:=_) (Own.box (JA w _ _) rfl) hb1,s_,s_,s_⟩
 have H1:=Z5 (Zg (Ze (Ze (Below.refl w.heap.size w) _) _) hb1);have hf':=hf.Ay (show w.heap.size+2<=_ by simp);have ho:=Z5 ho;have hf:=Z5 hf';clear hf' hb1;have En:v1.q.n=c.queue.length:=by have h1:=ho.out.q.len;rw[Zo]at h1;exact h1.symm
 have hnn:v1.n.n=c.net.length:=by have h1:=ho.out.n.len;rw[Zo]at h1;exact h1.symm
 have Fw:v1.a.n=c.Ai.length:=by have h1:=ho.out.a.len;rw[Zo]at h1;exact h1.symm
 have LX:=Z5 En;have Ef:=Z5 hnn;have Gy:=Z5 Fw;clear En hnn Fw
 .by_cases h0:c.net=[]
  .have hE:Hid (Yv c 4 at_=c):=by unfold Hid Yv;rw[if_neg AO,if_pos AO];rw[if_pos h0]
   have hz:¬(0:Int)<(v1.n.n:Int):=by have:=Ef.out;rw[h0]at this;simp at this;omega
   clear h0;have tok:True:=trivial;go_wp2_with (have _t:=tok;refine ZS rfl 77 (.tmp 3) (.tmp 9) rfl 0 77 6 1 1 w.heap.size 0 0 rfl _ rfl _ (Ql v1 c.base c.expected) rfl rfl rfl (QZ rfl) QG hbx.out o_ ?_;clear tok _t;intro w2 hx2 hg2;have Ba:=Z5 (Qi (sd:=[⟨w.heap.size+1,77,zC⟩]) ho.out hf.out H1.out (Zd _) o_ hx2 hg2 hsd.out);obtain⟨x0,x1,x2,x3,x4,x5,xf,xz⟩:=CB.DR Ba.out;obtain⟨r0,r1,r2,r3,r4,r5,rf,rz⟩:=CB.Bg Ba.out (Aw.refl [] _) (fun q hq=>by cases hq) (b:=w.heap.size+1) (t:=77) s_;clear hx2 hg2);refine bodyPost_ret (v:=YA v1 c.base c.expected) (by simp[*,results,results53,go_sem]) rfl ?_;rw[hE.out];exact Bi.mk (b0:=0) (QS Ba.out (s:=⟨w.heap.size+1,77,zC⟩) s_ Cs)
  .have hE:Hid (Yv c 4 at_=Eb c 4 (Di at_ c.net.length)):=by unfold Hid Yv;rw[if_neg AO,if_pos AO];rw[if_neg h0]
   have hpos:0<v1.n.n:=by
    rw[Ef.out];cases hc:c.net with
    |nil=>exact absurd hc h0
    |cons=>simp
   have hz:(0:Int)<(v1.n.n:Int):=by omega
   have hlt:Di at_ c.net.length<c.net.length:=OO (by rw[<- Ef.out];exact hpos);have hsl:=fun W=>JC at_ v1.n.n W hpos (by have:=OK.out.ln;have:=Ef.out;omega) HAT.out
   have hS:=fun W ho hf hB Cq=>Zhs (m:=m) v1 c (Di at_ c.net.length) w W OK.out hlt ho hf hB HT.out Cq
   rw[Ef.out]at hsl;generalize Di at_ c.net.length=kk at *
   generalize Eb c 4 kk=D at *
   rw[<- Ef.out]at hsl;have MP:=Z5 hsl;have HS:=Z5 hS;clear h0 hlt hsl hS hpos;have tok:True:=trivial;go_wp2_with (have _t:=tok;refine ZS rfl 77 (.tmp 3) (.tmp 9) rfl 0 77 6 1 1 w.heap.size 0 0 rfl _ rfl _ (Ql v1 c.base c.expected) rfl rfl rfl (QZ rfl) QG hbx.out o_ ?_;clear tok _t;intro w2 hx2 hg2;have Ba:=Z5 (Qi (sd:=[⟨w.heap.size+1,77,zC⟩]) ho.out hf.out H1.out (Zd _) o_ hx2 hg2 hsd.out);obtain⟨x0,x1,x2,x3,x4,x5,xf,xz⟩:=CB.DR Ba.out;obtain⟨r0,r1,r2,r3,r4,r5,rf,rz⟩:=CB.Bg Ba.out (Aw.refl [] _) (fun q hq=>by cases hq) (b:=w.heap.size+1) (t:=77) s_;clear hx2 hg2)
   go_region_law (first
    |(go_simp;go_at_call 77;refine(MP.out _).mono ?_;rintro e wq ⟨rfl,rfl⟩)
    |(go_simp;go_at_call 76;refine(HS.out _ (CB.below Ba.out (ZY (Below.refl _ _))).ow (CB.below Ba.out (ZY (Below.refl _ _))).fr (CB.below Ba.out (ZY (Below.refl _ _))).up.size (Jd (CB.below Ba.out (ZY (Below.refl _ _))).up)).mono ?_;rintro e w4 ⟨v4,rfl,C9,DF,LP,FK⟩;obtain⟨r0,r1,r2,r3,r4,r5,rf,rz⟩:=CB.Bg (CB.below Ba.out (ZY (Below.refl _ _))) FK (fun q hq=>hq) (b:=w.heap.size+1) (t:=77) s_))
   all_goals
    go_wp2_with fail;refine bodyPost_ret (v:=YA v4 D.base D.expected) (by simp[*,results,results53,go_sem]) rfl ?_;rw[hE.out];exact Bi.mk (b0:=0) (V6 (CB.below Ba.out (ZY (Below.refl _ _))) (s:=⟨w.heap.size+1,77,zC⟩) s_ C9 DF LP FK Cs)
theorem Zew(v:CV)(c:Chan)(at_:Int)(w:World){m:Int}(hok:CG m c)(hfw:EP c)(hr:FI w v c)(hat:-9223372036854775808<=at_/\at_<=9223372036854775807)(hT:Ct w):
  Calls prog 53 #[YA v c.base c.expected,(.int .i64 5),.int .i64 at_] w fun e w'=>Bi w (Yv c 5 at_) e w':=by
 have OK:=Z5 hok;have HAT:=Z5 hat
 have HT:=Z5 hT;clear hok hat hT;go_enter func53,ntmps53;go_wp2_with fail;refine Zb (Yp v c _ hfw ?_) ?_
 .exact hr.below (Ze (Ze (Below.refl _ _) _) _)
 rintro e w1 ⟨v1,rfl,ho,hf,hb1⟩;have hbx:=Z5 (Own.below (Own.box (t:=77) (cs:=Ql v c.base c.expected) (sz:=6) (NI w _ _) rfl) hb1)
 have hsd:Hid (∀ s∈[(⟨w.heap.size+1,77,zC⟩:BA)],s.ok w1/\s.b<w.heap.size+2/\s.b≠w.heap.size/\w.heap.size<=s.b):=by
  intro s hs;simp only[Zn,List.not_mem_nil,or_false]at hs;subst hs;exact⟨BA.below (w:=_) (Own.box (JA w _ _) rfl) hb1,s_,s_,s_⟩
 have H1:=Z5 (Zg (Ze (Ze (Below.refl w.heap.size w) _) _) hb1);have hf':=hf.Ay (show w.heap.size+2<=_ by simp);have ho:=Z5 ho;have hf:=Z5 hf';clear hf' hb1;have En:v1.q.n=c.queue.length:=by have h1:=ho.out.q.len;rw[Zo]at h1;exact h1.symm
 have hnn:v1.n.n=c.net.length:=by have h1:=ho.out.n.len;rw[Zo]at h1;exact h1.symm
 have Fw:v1.a.n=c.Ai.length:=by have h1:=ho.out.a.len;rw[Zo]at h1;exact h1.symm
 have LX:=Z5 En;have Ef:=Z5 hnn;have Gy:=Z5 Fw;clear En hnn Fw
 .by_cases h0:c.net=[]
  .have hE:Hid (Yv c 5 at_=c):=by unfold Hid Yv;rw[if_neg AO,if_pos AO];rw[if_pos h0]
   have hz:¬(0:Int)<(v1.n.n:Int):=by have:=Ef.out;rw[h0]at this;simp at this;omega
   clear h0;have tok:True:=trivial;go_wp2_with (have _t:=tok;refine ZS rfl 77 (.tmp 3) (.tmp 9) rfl 0 77 6 1 1 w.heap.size 0 0 rfl _ rfl _ (Ql v1 c.base c.expected) rfl rfl rfl (QZ rfl) QG hbx.out o_ ?_;clear tok _t;intro w2 hx2 hg2;have Ba:=Z5 (Qi (sd:=[⟨w.heap.size+1,77,zC⟩]) ho.out hf.out H1.out (Zd _) o_ hx2 hg2 hsd.out);obtain⟨x0,x1,x2,x3,x4,x5,xf,xz⟩:=CB.DR Ba.out;obtain⟨r0,r1,r2,r3,r4,r5,rf,rz⟩:=CB.Bg Ba.out (Aw.refl [] _) (fun q hq=>by cases hq) (b:=w.heap.size+1) (t:=77) s_;clear hx2 hg2);refine bodyPost_ret (v:=YA v1 c.base c.expected) (by simp[*,results,results53,go_sem]) rfl ?_;rw[hE.out];exact Bi.mk (b0:=0) (QS Ba.out (s:=⟨w.heap.size+1,77,zC⟩) s_ Cs)
  .have hE:Hid (Yv c 5 at_=Eb c 5 (Di at_ c.net.length)):=by unfold Hid Yv;rw[if_neg AO,if_pos AO];rw[if_neg h0]
   have hpos:0<v1.n.n:=by
    rw[Ef.out];cases hc:c.net with
    |nil=>exact absurd hc h0
    |cons=>simp
   have hz:(0:Int)<(v1.n.n:Int):=by omega
   have hlt:Di at_ c.net.length<c.net.length:=OO (by rw[<- Ef.out];exact hpos);have hsl:=fun W=>JC at_ v1.n.n W hpos (by have:=OK.out.ln;have:=Ef.out;omega) HAT.out
   have hS:=fun W ho hf hB Cq=>Zhr (m:=m) v1 c (Di at_ c.net.length) w W OK.out hlt ho hf hB HT.out Cq
   rw[Ef.out]at hsl;generalize Di at_ c.net.length=kk at *
   generalize Eb c 5 kk=D at *
   rw[<- Ef.out]at hsl;have MP:=Z5 hsl;have HS:=Z5 hS;clear h0 hlt hsl hS hpos;have tok:True:=trivial;go_wp2_with (have _t:=tok;refine ZS rfl 77 (.tmp 3) (.tmp 9) rfl 0 77 6 1 1 w.heap.size 0 0 rfl _ rfl _ (Ql v1 c.base c.expected) rfl rfl rfl (QZ rfl) QG hbx.out o_ ?_;clear tok _t;intro w2 hx2 hg2;have Ba:=Z5 (Qi (sd:=[⟨w.heap.size+1,77,zC⟩]) ho.out hf.out H1.out (Zd _) o_ hx2 hg2 hsd.out);obtain⟨x0,x1,x2,x3,x4,x5,xf,xz⟩:=CB.DR Ba.out;obtain⟨r0,r1,r2,r3,r4,r5,rf,rz⟩:=CB.Bg Ba.out (Aw.refl [] _) (fun q hq=>by cases hq) (b:=w.heap.size+1) (t:=77) s_;clear hx2 hg2)
   go_region_law (first
    |(go_simp;go_at_call 77;refine(MP.out _).mono ?_;rintro e wq ⟨rfl,rfl⟩)
    |(go_simp;go_at_call 76;refine(HS.out _ (CB.below Ba.out (ZY (Below.refl _ _))).ow (CB.below Ba.out (ZY (Below.refl _ _))).fr (CB.below Ba.out (ZY (Below.refl _ _))).up.size (Jd (CB.below Ba.out (ZY (Below.refl _ _))).up)).mono ?_;rintro e w4 ⟨v4,rfl,C9,DF,LP,FK⟩;obtain⟨r0,r1,r2,r3,r4,r5,rf,rz⟩:=CB.Bg (CB.below Ba.out (ZY (Below.refl _ _))) FK (fun q hq=>hq) (b:=w.heap.size+1) (t:=77) s_))
   all_goals
    go_wp2_with fail;refine bodyPost_ret (v:=YA v4 D.base D.expected) (by simp[*,results,results53,go_sem]) rfl ?_;rw[hE.out];exact Bi.mk (b0:=0) (V6 (CB.below Ba.out (ZY (Below.refl _ _))) (s:=⟨w.heap.size+1,77,zC⟩) s_ C9 DF LP FK Cs)
theorem Zev(v:CV)(c:Chan)(at_:Int)(w:World){m:Int}(hok:CG m c)(hfw:EP c)(hr:FI w v c)(hat:-9223372036854775808<=at_/\at_<=9223372036854775807)(hT:Ct w):
  Calls prog 53 #[YA v c.base c.expected,(.int .i64 6),.int .i64 at_] w fun e w'=>Bi w (Yv c 6 at_) e w':=by
 have OK:=Z5 hok;have HAT:=Z5 hat
 have HT:=Z5 hT;clear hok hat hT;go_enter func53,ntmps53;go_wp2_with fail;refine Zb (Yp v c _ hfw ?_) ?_
 .exact hr.below (Ze (Ze (Below.refl _ _) _) _)
 rintro e w1 ⟨v1,rfl,ho,hf,hb1⟩;have hbx:=Z5 (Own.below (Own.box (t:=77) (cs:=Ql v c.base c.expected) (sz:=6) (NI w _ _) rfl) hb1)
 have hsd:Hid (∀ s∈[(⟨w.heap.size+1,77,zC⟩:BA)],s.ok w1/\s.b<w.heap.size+2/\s.b≠w.heap.size/\w.heap.size<=s.b):=by
  intro s hs;simp only[Zn,List.not_mem_nil,or_false]at hs;subst hs;exact⟨BA.below (w:=_) (Own.box (JA w _ _) rfl) hb1,s_,s_,s_⟩
 have H1:=Z5 (Zg (Ze (Ze (Below.refl w.heap.size w) _) _) hb1);have hf':=hf.Ay (show w.heap.size+2<=_ by simp);have ho:=Z5 ho;have hf:=Z5 hf';clear hf' hb1;have En:v1.q.n=c.queue.length:=by have h1:=ho.out.q.len;rw[Zo]at h1;exact h1.symm
 have hnn:v1.n.n=c.net.length:=by have h1:=ho.out.n.len;rw[Zo]at h1;exact h1.symm
 have Fw:v1.a.n=c.Ai.length:=by have h1:=ho.out.a.len;rw[Zo]at h1;exact h1.symm
 have LX:=Z5 En;have Ef:=Z5 hnn;have Gy:=Z5 Fw;clear En hnn Fw
 .by_cases h0:c.Ai=[]
  .have hE:Hid (Yv c 6 at_=c):=by unfold Hid Yv;rw[if_neg AO,if_neg AO,if_pos AO];rw[if_pos h0]
   have hz:¬(0:Int)<(v1.a.n:Int):=by have:=Gy.out;rw[h0]at this;simp at this;omega
   clear h0;have tok:True:=trivial;go_wp2_with (have _t:=tok;refine ZS rfl 77 (.tmp 3) (.tmp 9) rfl 0 77 6 1 1 w.heap.size 0 0 rfl _ rfl _ (Ql v1 c.base c.expected) rfl rfl rfl (QZ rfl) QG hbx.out o_ ?_;clear tok _t;intro w2 hx2 hg2;have Ba:=Z5 (Qi (sd:=[⟨w.heap.size+1,77,zC⟩]) ho.out hf.out H1.out (Zd _) o_ hx2 hg2 hsd.out);obtain⟨x0,x1,x2,x3,x4,x5,xf,xz⟩:=CB.DR Ba.out;obtain⟨r0,r1,r2,r3,r4,r5,rf,rz⟩:=CB.Bg Ba.out (Aw.refl [] _) (fun q hq=>by cases hq) (b:=w.heap.size+1) (t:=77) s_;clear hx2 hg2);refine bodyPost_ret (v:=YA v1 c.base c.expected) (by simp[*,results,results53,go_sem]) rfl ?_;rw[hE.out];exact Bi.mk (b0:=0) (QS Ba.out (s:=⟨w.heap.size+1,77,zC⟩) s_ Cs)
  .have hE:Hid (Yv c 6 at_=FP c 6 (Di at_ c.Ai.length)):=by unfold Hid Yv;rw[if_neg AO,if_neg AO,if_pos AO];rw[if_neg h0]
   have hpos:0<v1.a.n:=by
    rw[Gy.out];cases hc:c.Ai with
    |nil=>exact absurd hc h0
    |cons=>simp
   have hz:(0:Int)<(v1.a.n:Int):=by omega
   have hlt:Di at_ c.Ai.length<c.Ai.length:=OO (by rw[<- Gy.out];exact hpos);have hsl:=fun W=>JC at_ v1.a.n W hpos (by have:=OK.out.la;have:=Gy.out;omega) HAT.out
   have hS:=fun W ho hf hB Cq=>Zhx (m:=m) v1 c (Di at_ c.Ai.length) w W OK.out hlt ho hf hB HT.out Cq
   rw[Gy.out]at hsl;generalize Di at_ c.Ai.length=kk at *
   generalize FP c 6 kk=D at *
   rw[<- Gy.out]at hsl;have MP:=Z5 hsl;have HS:=Z5 hS;clear h0 hlt hsl hS hpos;have tok:True:=trivial;go_wp2_with (have _t:=tok;refine ZS rfl 77 (.tmp 3) (.tmp 9) rfl 0 77 6 1 1 w.heap.size 0 0 rfl _ rfl _ (Ql v1 c.base c.expected) rfl rfl rfl (QZ rfl) QG hbx.out o_ ?_;clear tok _t;intro w2 hx2 hg2;have Ba:=Z5 (Qi (sd:=[⟨w.heap.size+1,77,zC⟩]) ho.out hf.out H1.out (Zd _) o_ hx2 hg2 hsd.out);obtain⟨x0,x1,x2,x3,x4,x5,xf,xz⟩:=CB.DR Ba.out;obtain⟨r0,r1,r2,r3,r4,r5,rf,rz⟩:=CB.Bg Ba.out (Aw.refl [] _) (fun q hq=>by cases hq) (b:=w.heap.size+1) (t:=77) s_;clear hx2 hg2)
   go_region_law (first
    |(go_simp;go_at_call 77;refine(MP.out _).mono ?_;rintro e wq ⟨rfl,rfl⟩)
    |(go_simp;go_at_call 78;refine(HS.out _ (CB.below Ba.out (ZY (Below.refl _ _))).ow (CB.below Ba.out (ZY (Below.refl _ _))).fr (CB.below Ba.out (ZY (Below.refl _ _))).up.size (Jd (CB.below Ba.out (ZY (Below.refl _ _))).up)).mono ?_;rintro e w4 ⟨v4,rfl,C9,DF,LP,FK⟩;obtain⟨r0,r1,r2,r3,r4,r5,rf,rz⟩:=CB.Bg (CB.below Ba.out (ZY (Below.refl _ _))) FK (fun q hq=>hq) (b:=w.heap.size+1) (t:=77) s_))
   all_goals
    go_wp2_with fail;refine bodyPost_ret (v:=YA v4 D.base D.expected) (by simp[*,results,results53,go_sem]) rfl ?_;rw[hE.out];exact Bi.mk (b0:=0) (V6 (CB.below Ba.out (ZY (Below.refl _ _))) (s:=⟨w.heap.size+1,77,zC⟩) s_ C9 DF LP FK Cs)
theorem Zeu(v:CV)(c:Chan)(at_:Int)(w:World){m:Int}(hok:CG m c)(hfw:EP c)(hr:FI w v c)(hat:-9223372036854775808<=at_/\at_<=9223372036854775807)(hT:Ct w):
  Calls prog 53 #[YA v c.base c.expected,(.int .i64 7),.int .i64 at_] w fun e w'=>Bi w (Yv c 7 at_) e w':=by
 have OK:=Z5 hok;have HAT:=Z5 hat
 have HT:=Z5 hT;clear hok hat hT;go_enter func53,ntmps53;go_wp2_with fail;refine Zb (Yp v c _ hfw ?_) ?_
 .exact hr.below (Ze (Ze (Below.refl _ _) _) _)
 rintro e w1 ⟨v1,rfl,ho,hf,hb1⟩;have hbx:=Z5 (Own.below (Own.box (t:=77) (cs:=Ql v c.base c.expected) (sz:=6) (NI w _ _) rfl) hb1)
 have hsd:Hid (∀ s∈[(⟨w.heap.size+1,77,zC⟩:BA)],s.ok w1/\s.b<w.heap.size+2/\s.b≠w.heap.size/\w.heap.size<=s.b):=by
  intro s hs;simp only[Zn,List.not_mem_nil,or_false]at hs;subst hs;exact⟨BA.below (w:=_) (Own.box (JA w _ _) rfl) hb1,s_,s_,s_⟩
 have H1:=Z5 (Zg (Ze (Ze (Below.refl w.heap.size w) _) _) hb1);have hf':=hf.Ay (show w.heap.size+2<=_ by simp);have ho:=Z5 ho;have hf:=Z5 hf';clear hf' hb1;have En:v1.q.n=c.queue.length:=by have h1:=ho.out.q.len;rw[Zo]at h1;exact h1.symm
 have hnn:v1.n.n=c.net.length:=by have h1:=ho.out.n.len;rw[Zo]at h1;exact h1.symm
 have Fw:v1.a.n=c.Ai.length:=by have h1:=ho.out.a.len;rw[Zo]at h1;exact h1.symm
 have LX:=Z5 En;have Ef:=Z5 hnn;have Gy:=Z5 Fw;clear En hnn Fw
 .by_cases h0:c.Ai=[]
  .have hE:Hid (Yv c 7 at_=c):=by unfold Hid Yv;rw[if_neg AO,if_neg AO,if_pos AO];rw[if_pos h0]
   have hz:¬(0:Int)<(v1.a.n:Int):=by have:=Gy.out;rw[h0]at this;simp at this;omega
   clear h0;have tok:True:=trivial;go_wp2_with (have _t:=tok;refine ZS rfl 77 (.tmp 3) (.tmp 9) rfl 0 77 6 1 1 w.heap.size 0 0 rfl _ rfl _ (Ql v1 c.base c.expected) rfl rfl rfl (QZ rfl) QG hbx.out o_ ?_;clear tok _t;intro w2 hx2 hg2;have Ba:=Z5 (Qi (sd:=[⟨w.heap.size+1,77,zC⟩]) ho.out hf.out H1.out (Zd _) o_ hx2 hg2 hsd.out);obtain⟨x0,x1,x2,x3,x4,x5,xf,xz⟩:=CB.DR Ba.out;obtain⟨r0,r1,r2,r3,r4,r5,rf,rz⟩:=CB.Bg Ba.out (Aw.refl [] _) (fun q hq=>by cases hq) (b:=w.heap.size+1) (t:=77) s_;clear hx2 hg2);refine bodyPost_ret (v:=YA v1 c.base c.expected) (by simp[*,results,results53,go_sem]) rfl ?_;rw[hE.out];exact Bi.mk (b0:=0) (QS Ba.out (s:=⟨w.heap.size+1,77,zC⟩) s_ Cs)
  .have hE:Hid (Yv c 7 at_=FP c 7 (Di at_ c.Ai.length)):=by unfold Hid Yv;rw[if_neg AO,if_neg AO,if_pos AO];rw[if_neg h0]
   have hpos:0<v1.a.n:=by
    rw[Gy.out];cases hc:c.Ai with
    |nil=>exact absurd hc h0
    |cons=>simp
   have hz:(0:Int)<(v1.a.n:Int):=by omega
   have hlt:Di at_ c.Ai.length<c.Ai.length:=OO (by rw[<- Gy.out];exact hpos);have hsl:=fun W=>JC at_ v1.a.n W hpos (by have:=OK.out.la;have:=Gy.out;omega) HAT.out
   have hS:=fun W ho hf hB Cq=>Zhw (m:=m) v1 c (Di at_ c.Ai.length) w W OK.out hlt ho hf hB HT.out Cq
   rw[Gy.out]at hsl;generalize Di at_ c.Ai.length=kk at *
   generalize FP c 7 kk=D at *
   rw[<- Gy.out]at hsl;have MP:=Z5 hsl;have HS:=Z5 hS;clear h0 hlt hsl hS hpos;have tok:True:=trivial;go_wp2_with (have _t:=tok;refine ZS rfl 77 (.tmp 3) (.tmp 9) rfl 0 77 6 1 1 w.heap.size 0 0 rfl _ rfl _ (Ql v1 c.base c.expected) rfl rfl rfl (QZ rfl) QG hbx.out o_ ?_;clear tok _t;intro w2 hx2 hg2;have Ba:=Z5 (Qi (sd:=[⟨w.heap.size+1,77,zC⟩]) ho.out hf.out H1.out (Zd _) o_ hx2 hg2 hsd.out);obtain⟨x0,x1,x2,x3,x4,x5,xf,xz⟩:=CB.DR Ba.out;obtain⟨r0,r1,r2,r3,r4,r5,rf,rz⟩:=CB.Bg Ba.out (Aw.refl [] _) (fun q hq=>by cases hq) (b:=w.heap.size+1) (t:=77) s_;clear hx2 hg2)
   go_region_law (first
    |(go_simp;go_at_call 77;refine(MP.out _).mono ?_;rintro e wq ⟨rfl,rfl⟩)
    |(go_simp;go_at_call 78;refine(HS.out _ (CB.below Ba.out (ZY (Below.refl _ _))).ow (CB.below Ba.out (ZY (Below.refl _ _))).fr (CB.below Ba.out (ZY (Below.refl _ _))).up.size (Jd (CB.below Ba.out (ZY (Below.refl _ _))).up)).mono ?_;rintro e w4 ⟨v4,rfl,C9,DF,LP,FK⟩;obtain⟨r0,r1,r2,r3,r4,r5,rf,rz⟩:=CB.Bg (CB.below Ba.out (ZY (Below.refl _ _))) FK (fun q hq=>hq) (b:=w.heap.size+1) (t:=77) s_))
   all_goals
    go_wp2_with fail;refine bodyPost_ret (v:=YA v4 D.base D.expected) (by simp[*,results,results53,go_sem]) rfl ?_;rw[hE.out];exact Bi.mk (b0:=0) (V6 (CB.below Ba.out (ZY (Below.refl _ _))) (s:=⟨w.heap.size+1,77,zC⟩) s_ C9 DF LP FK Cs)
theorem mD(v:CV)(c:Chan)(mv at_:Int)(w:World){m:Int}(hok:CG m c)(hfw:EP c)(hr:FI w v c)(hat:-9223372036854775808<=at_/\at_<=9223372036854775807)(hT:Ct w):
  Calls prog 53 #[YA v c.base c.expected,.int .i64 mv,.int .i64 at_] w fun e w'=>Bi w (Yv c mv at_) e w':=by
 by_cases h7:1<=mv/\mv<=7
 .have h8:mv=1∨mv=2∨mv=3∨mv=4∨mv=5∨mv=6∨mv=7:=by omega
  rcases h8 with rfl|rfl|rfl|rfl|rfl|rfl|rfl
  .exact ZeA v c at_ w hok hfw hr hat hT
  .exact Zez v c at_ w hok hfw hr hat hT
  .exact Zey v c at_ w hok hfw hr hat hT
  .exact Zex v c at_ w hok hfw hr hat hT
  .exact Zew v c at_ w hok hfw hr hat hT
  .exact Zev v c at_ w hok hfw hr hat hT
  .exact Zeu v c at_ w hok hfw hr hat hT
 .exact Zbx v c mv at_ w hok hfw hr hat hT h7
theorem Z4A(v:CV)(c:Chan)(mv at_:Int)(w:World)(hm:Xb c<=4194304)(hok:KA c)(hr:FI w v c)(hmv:F6 mv)(hat:F6 at_)(hT:Ct w):
  Calls prog 31 #[YA v c.base c.expected,.int .i64 mv,.int .i64 at_] w fun e w'=>Bi w (Xp c mv at_) e w':=by
 have hfw:=Uv hm;have hwb:=hok.2.2.2.2.1;have HM:=Z5 hm;have ED:=Z5 hok;have HAT:=Z5 (lY hat);have HT:=Z5 hT;generalize hb1:YQ c=b1;have HB1:=Z5 hb1;clear hm hok hb1 hat hT hmv;go_enter func31,ntmps31;go_wp2_with fail;refine Zb (QE v c _ hwb ?_) ?_
 .exact hr.below (Ze (Ze (Below.refl _ _) _) _)
 rw[HB1.out];rintro e w1 ⟨rfl,hb1⟩;have H1:=Zg (Ze (Ze (Below.refl w.heap.size w) _) _) hb1;have k0:=JT hb1 w.heap.size AR;have f0:=Q6 hb1 w.heap.size AR;have k1:=JT hb1 (w.heap.size+1) s_;have f1:=Q6 hb1 (w.heap.size+1) s_;have z1:w.heap.size+2<=w1.heap.size:=RX hb1;have q0:w.heap.size<w1.heap.size:=by omega
 have q1:w.heap.size+1<w1.heap.size:=by omega
 have RD:=Z5 (hr.below H1);have HT1:=Z5 (HT.out.below H1);have HH:=Z5 H1;clear hb1 H1;cases b1
 .have hE:=Z5 (Zlo (mv:=mv) (at_:=at_) HB1.out);go_wp2_with fail;refine Zb (Yp v c _ hfw ?_) ?_
  .exact RD.out
  rintro e w2 ⟨v2,rfl,ho,hf,hb2⟩;have k2:=JT hb2 (w.heap.size+1) q1;have f2:=Q6 hb2 (w.heap.size+1) q1;have hn:w.heap.size+1 ∉ AP v2:=fun hm=>by have:=hf.lo _ hm;omega
  have q2:w.heap.size+1<w2.heap.size:=Nat.lt_of_lt_of_le q1 hb2.size;have H2:=Z5 (Zg HH.out hb2);have HO:=Z5 ho;have HF:=Z5 (hf.Ay HH.out.size);clear ho hf hb2;go_wp2_with fail;refine bodyPost_ret (v:=YA v2 c.base c.expected) (by simp[*,results,results31,go_sem]) rfl ?_;rw[hE.out];have hu:Aw [w.heap.size+1] w2 (((((((w2.setCell ⟨w.heap.size+1,0,none⟩ (.slice v2.q.A v2.q.n v2.q.c)).setCell ⟨w.heap.size+1,1,none⟩ (.int .i64 c.base)).setCell ⟨w.heap.size+1,2,none⟩ (.int .i64 c.expected)).setCell ⟨w.heap.size+1,3,none⟩ (.slice v2.i.A v2.i.n v2.i.c)).setCell ⟨w.heap.size+1,4,none⟩ (.slice v2.n.A v2.n.n v2.n.c)).setCell ⟨w.heap.size+1,5,none⟩ (.slice v2.a.A v2.a.n v2.a.c))):=Cs;exact⟨v2,rfl,HO.out.upd hu (fun q hq hm=>by simp only[List.mem_singleton]at hm;exact hn (hm▸hq)),HF.out.grow hu.size,Dq H2.out hu (fun q hq=>by simp at hq;omega)⟩
 .have hE:=Z5 (Ziz (mv:=mv) (at_:=at_) HB1.out);have OK:=Z5 (WN HB1.out HM.out ED.out);go_wp2_with fail;refine Zb (mD v c mv at_ _ OK.out hfw ?_ HAT.out ?_) ?_
  .exact RD.out
  .exact HT1.out
  rw[<- hE.out];generalize hDD:Xp c mv at_=D;have HD:=Z5 hDD;clear hDD hE;rintro e w2 ⟨v2,rfl,ho,hf,hb2⟩;have k2:=JT hb2 (w.heap.size+1) q1;have f2:=Q6 hb2 (w.heap.size+1) q1;have hn:w.heap.size+1 ∉ AP v2:=fun hm=>by have:=hf.lo _ hm;omega
  have q2:w.heap.size+1<w2.heap.size:=Nat.lt_of_lt_of_le q1 hb2.size;have H2:=Z5 (Zg HH.out hb2);have HO:=Z5 ho;have HF:=Z5 (hf.Ay HH.out.size);clear ho hf hb2;go_wp2_with fail;refine bodyPost_ret (v:=YA v2 D.base D.expected) (by simp[*,results,results31,go_sem]) rfl ?_;rw[HD.out];have hu:Aw [w.heap.size+1] w2 (((((((w2.setCell ⟨w.heap.size+1,0,none⟩ (.slice v2.q.A v2.q.n v2.q.c)).setCell ⟨w.heap.size+1,1,none⟩ (.int .i64 D.base)).setCell ⟨w.heap.size+1,2,none⟩ (.int .i64 D.expected)).setCell ⟨w.heap.size+1,3,none⟩ (.slice v2.i.A v2.i.n v2.i.c)).setCell ⟨w.heap.size+1,4,none⟩ (.slice v2.n.A v2.n.n v2.n.c)).setCell ⟨w.heap.size+1,5,none⟩ (.slice v2.a.A v2.a.n v2.a.c))):=Cs;exact⟨v2,rfl,HO.out.upd hu (fun q hq hm=>by simp only[List.mem_singleton]at hm;exact hn (hm▸hq)),HF.out.grow hu.size,Dq H2.out hu (fun q hq=>by simp at hq;omega)⟩
end Go.Proofs.YtcnbphnnfmphlaaGreatDoor
