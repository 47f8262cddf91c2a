/- Texts of this proof. -/
import Derived.Test.YtcnbphnnfmphlaaGreatDoorGtm30
namespace Go.Proofs.YtcnbphnnfmphlaaGreatDoor
open _root_.List renaming getElem?_eq_getElem → Z4,mem_of_getElem? → Z6
open Nat renaming lt_of_lt_of_le → Zf,le_trans → Zj,zero_le → Zs
open Go.Proofs.Tryz
open Go.RowKit
set_option linter.unusedVariables false
set_option linter.unusedSimpArgs false
set_option maxHeartbeats 4000000
set_option maxRecDepth 100000
theorem Z6i{a b:Nat}{k:Nat}(h:(Zz a).length<=k):(Zz (a-b)).length<=k:=YN (Nat.lt_of_le_of_lt (Nat.sub_le a b) (Zf (QY a) (YV h)))
theorem Zdh{a b:Nat}{k:Nat}(h:(Zz a).length<=k)(h2:(Zz b).length<=k):(Zz (a+b)).length<=k+1:=YN (by
 have h3:=Zf (QY a) (YV h)
 have h4:=Zf (QY b) (YV h2)
 have h5:BS ^ k*2<=BS ^ k*BS:=Nat.mul_le_mul_left _ (by unfold BS;omega)
 rw[Nat.pow_succ];omega)
theorem ZbA(x y:Int)(hx:(Zz x.natAbs).length<=59)(hy:(Zz y.natAbs).length<=59):Spec prog 166 [.agg (dB x),.agg (dB y)] (.agg (dB (x+y))):=by
 by_cases hs:decide (x<0)=decide (y<0)
 .have e:=Zn6 hs;generalize x+y=z at e;generalize hb:decide (x<0)=b at hs e;refine Bj func166 ntmps166 results166 ?_;simp[dB,hb,<- hs]
  ((repeat' with_reducible apply And.intro)<;> try exact Ye);refine Ah [] ((Zby x.natAbs y.natAbs o_ o_)) ?_;simp
  ((repeat' with_reducible apply And.intro)<;> try exact Ye);have hm:=Q8 b _ (Zdh hx hy);rw[e]at hm;refine Ah [16] hm ?_;simp[dB]
  ((repeat' with_reducible apply And.intro)<;> try exact Ye)
 .by_cases hg:y.natAbs<=x.natAbs
  .have e:=ZrP hs hg;have hc:=Zkz hg;generalize x+y=z at e;generalize hb:decide (x<0)=b at hs e;generalize hd:decide (y<0)=d at hs;refine Bj func166 ntmps166 results166 ?_;simp[dB,hb,hd,hs];refine Ah [] ((Jx x.natAbs y.natAbs o_ o_)) ?_;simp[hc];refine Ah [] ((Jw x.natAbs y.natAbs o_ o_ hg)) ?_;simp;have hm:=Q8 b _ (Zj (Z6i (b:=y.natAbs) hx) o_);rw[e]at hm;refine Ah [] hm ?_;simp[dB]
   ((repeat' with_reducible apply And.intro)<;> try exact Ye)
  .have e:=ZrO hs o_;have hc:=Zky hg;generalize x+y=z at e;generalize hb:decide (x<0)=b at hs;generalize hd:decide (y<0)=d at hs e;refine Bj func166 ntmps166 results166 ?_;simp[dB,hb,hd,hs];refine Ah [] ((Jx x.natAbs y.natAbs o_ o_)) ?_;simp[hc];refine Ah [] ((Jw y.natAbs x.natAbs o_ o_ o_)) ?_;simp;have hm:=Q8 d _ (Zj (Z6i (b:=x.natAbs) hy) o_);rw[e]at hm;refine Ah [] hm ?_;simp[dB]
   ((repeat' with_reducible apply And.intro)<;> try exact Ye)
theorem Vy(n:Nat):(Zz n).length<=24↔n<IX:=⟨fun h=>Zf (QY n) (YV h),fun h=>YN h⟩
theorem Zdg{a b:Nat}{k:Nat}(h:(Zz a).length<=k):(Zz (a / b)).length<=k:=YN (Nat.lt_of_le_of_lt (Nat.div_le_self a b) (Zf (QY a) (YV h)))
theorem Jb:dQ zR=[.bool false,.sl false 3 1 [],.sl false 3 1 []]:=by unfold dQ zR;simp[Yd]
theorem Yw(r:Rt):Spec prog 60 [.agg (dQ r)] (.bool (QC r)):=by
 have h0:decide (0 <(Zz r.den).length)=QC r:=by
  unfold QC;by_cases h:r.den=0
  .simp[h,Yd]
  .have:Zz r.den≠[]:=fun e=>h (J4.1 e)
   have:=List.length_pos_iff.2 this;simp -implicitDefEqProofs [h,this]
 refine Bj func60 ntmps60 results60 ?_;simp -implicitDefEqProofs [dQ];simpa using h0
theorem Xf(r:Rt):Spec prog 168 [.agg (dQ r)] (.agg [.bool false,.sl false 3 1 (iE (Zz r.den))]):=by
 refine Bj func168 ntmps168 results168 ?_;simp -implicitDefEqProofs [dQ]
theorem Z0i(x y:Int)(hx:(Zz x.natAbs).length<=60)(hy:(Zz y.natAbs).length<=60):Spec prog 169 [.agg (dB x),.agg (dB y)] (.agg (dQ (I7 x y))):=by
 by_cases h0:y=0
 .subst h0;have e:I7 x 0=zR:=by unfold I7;rw[if_pos rfl]
  have e0:dB 0=[.bool false,.sl false 3 1 (iE [])]:=by unfold dB;simp[Yd]
  rw[e,Jb,e0];clear e e0 hy;refine Bj func169 ntmps169 results169 ?_;simp -implicitDefEqProofs [dB]
 .have hd0:Zz y.natAbs≠[]:=fun e=>h0 (by have:=J4.1 e;omega)
  have hg0:0<Nat.gcd x.natAbs y.natAbs:=Nat.gcd_pos_of_pos_right _ o_;have hgl:(Zz (Nat.gcd x.natAbs y.natAbs)).length<=60:=YN (Nat.lt_of_le_of_lt (Nat.gcd_le_right _ o_) (Zf (QY y.natAbs) (YV hy)));have hG:=Z4v x.natAbs y.natAbs o_ o_;have hD1:=Z1b x.natAbs _ o_ o_ hg0;have hD2:=Z1b y.natAbs _ o_ o_ hg0;have hM:=Q8 (decide (x<0) != decide (y<0)) _ (Zdg (b:=Nat.gcd x.natAbs y.natAbs) hx);have hR:I7 x y=if x.natAbs / Nat.gcd x.natAbs y.natAbs<IX/\y.natAbs / Nat.gcd x.natAbs y.natAbs<IX then ⟨sg (decide (x<0) != decide (y<0)) (x.natAbs / Nat.gcd x.natAbs y.natAbs),y.natAbs / Nat.gcd x.natAbs y.natAbs⟩else zR:=by unfold I7;rw[if_neg h0]
  generalize Nat.gcd x.natAbs y.natAbs=g at *
  rw[hR];generalize hz:sg (decide (x<0) != decide (y<0)) (x.natAbs / g)=z at *
  generalize x.natAbs % g=m1 at *
  generalize y.natAbs % g=m2 at *
  have hza:z.natAbs=x.natAbs / g:=by rw[<- hz,TU]
  generalize x.natAbs / g=n at *
  generalize y.natAbs / g=d at *
  by_cases c1:(24:Int)<((Zz n).length:Int)
  .rw[if_neg (fun h=>by have:=(Vy _).2 h.1;omega),Jb];refine Bj func169 ntmps169 results169 ?_;simp -implicitDefEqProofs [dB,hd0];refine Ah [] hG ?_;simp -implicitDefEqProofs;refine Ah [] hD1 ?_;simp -implicitDefEqProofs;refine Ah [] hD2 ?_;simp -implicitDefEqProofs [c1]
  .by_cases c2:(24:Int)<((Zz d).length:Int)
   .rw[if_neg (fun h=>by have:=(Vy _).2 h.2;omega),Jb];refine Bj func169 ntmps169 results169 ?_;simp -implicitDefEqProofs [dB,hd0];refine Ah [] hG ?_;simp -implicitDefEqProofs;refine Ah [] hD1 ?_;simp -implicitDefEqProofs;refine Ah [] hD2 ?_;simp -implicitDefEqProofs [c1,c2]
   .rw[if_pos ⟨(Vy _).1 o_,(Vy _).1 o_⟩];refine Bj func169 ntmps169 results169 ?_;simp -implicitDefEqProofs [dB,hd0];refine Ah [] hG ?_;simp -implicitDefEqProofs;refine Ah [] hD1 ?_;simp -implicitDefEqProofs;refine Ah [] hD2 ?_;simp -implicitDefEqProofs [c1,c2];refine Ah [] hM ?_;simp -implicitDefEqProofs [dQ,dB,hza]
theorem Bq.nl{r:Rt}(h:Bq r):(Zz r.num.natAbs).length<=24:=(Vy _).2 h.bd.1
theorem Bq.dl{r:Rt}(h:Bq r):(Zz r.den).length<=24:=(Vy _).2 h.bd.2
theorem fK(d:Nat):(d:Int).natAbs=d:=Int.natAbs_natCast d
theorem Zem{a b i j k:Nat}(h1:(Zz a).length<=i)(h2:(Zz b).length<=j)(h:i+j<=k):(Zz (a*b)).length<=k:=YN (by
 have h3:=Nat.mul_lt_mul'' (Zf (QY a) (YV h1)) (Zf (QY b) (YV h2))
 rw[<- Nat.pow_add]at h3
 exact Zf h3 (YV h))
theorem oM(x:Int)(d:Nat)(hx:(Zz x.natAbs).length<=24)(hd:(Zz d).length<=24):Spec prog 167 [.agg (dB x),.agg [.bool false,.sl false 3 1 (iE (Zz d))]] (.agg (dB (x *(d:Int)))):=by
 have:=Z1d x (d:Int) (by rw[fK];omega);rw[Zkx]at this;exact this
theorem ZqU(c d:Nat)(hx:(Zz c).length<=24)(hd:(Zz d).length<=24):Spec prog 167 [.agg [.bool false,.sl false 3 1 (iE (Zz c))],.agg [.bool false,.sl false 3 1 (iE (Zz d))]] (.agg (dB ((c*d:Nat):Int))):=by
 have:=Z1d (c:Int) (d:Int) (by rw[fK,fK];omega);rw[Zkx,Zkx]at this;exact this
theorem Vz{x:Int}{d:Nat}(hx:(Zz x.natAbs).length<=24)(hd:(Zz d).length<=24):(Zz (x *(d:Int)).natAbs).length<=48:=by
 rw[Int.natAbs_mul,fK];exact Zem hx hd o_
theorem lNN{x y:Int}(hx:(Zz x.natAbs).length<=24)(hd:(Zz y.natAbs).length<=24):(Zz (x*y).natAbs).length<=48:=by
 rw[Int.natAbs_mul];exact Zem hx hd o_
theorem lDD{c d:Nat}(hx:(Zz c).length<=24)(hd:(Zz d).length<=24):(Zz ((c*d:Nat):Int).natAbs).length<=48:=by
 rw[fK];exact Zem hx hd o_
theorem Ztu{x y:Int}(hx:(Zz x.natAbs).length<=48)(hd:(Zz y.natAbs).length<=48):(Zz (x+y).natAbs).length<=49:=YN (by
 have h3:=Zf (QY x.natAbs) (YV hx)
 have h4:=Zf (QY y.natAbs) (YV hd)
 have h5:BS ^ 48*2<=BS ^ 48*BS:=Nat.mul_le_mul_left _ (by unfold BS;omega)
 have h6:BS ^ 49=BS ^ 48*BS:=Nat.pow_succ ..
 omega)
theorem Yy(r s:Rt)(gr:Bq r)(gs:Bq s):Spec prog 131 [.agg (dQ r),.agg (dQ s)] (.agg (dQ (Xc r s))):=by
 have hz:=Jb;have h1:=Yw r;have h2:=Yw s;have d1:=Xf r;have d2:=Xf s;have m1:=oM r.num s.den gr.nl gs.dl;have m2:=oM s.num r.den gs.nl gr.dl;have m3:=ZqU r.den s.den gr.dl gs.dl;have a1:=ZbA _ _ (Zj (Vz gr.nl gs.dl) o_) (Zj (Vz gs.nl gr.dl) o_);have k1:=Z0i _ _ (Zj (Ztu (Vz gr.nl gs.dl) (Vz gs.nl gr.dl)) o_) (Zj (lDD gr.dl gs.dl) o_);unfold Xc;generalize QC r=b1 at *
 generalize QC s=b2 at *
 generalize r.num *(s.den:Int)=x1 at *
 generalize s.num *(r.den:Int)=x2 at *
 generalize x1+x2=x3 at *
 generalize ((r.den*s.den:Nat):Int)=x4 at *
 generalize I7 x3 x4=q at *
 cases b1
 .rw[show(if (false && b2)=true then q else zR)=zR by simp,hz];refine Bj func131 ntmps131 results131 ?_;simp[dQ,dB];refine Ah [] h1 ?_;simp[dQ,dB]
 .cases b2
  .rw[show(if (true && false)=true then q else zR)=zR by simp,hz];refine Bj func131 ntmps131 results131 ?_;simp[dQ,dB];refine Ah [] h1 ?_;simp[dQ,dB];refine Ah [] h2 ?_;simp[dQ,dB]
  .rw[show(if (true && true)=true then q else zR)=q by simp];refine Bj func131 ntmps131 results131 ?_;simp[dQ,dB];refine Ah [] h1 ?_;simp[dQ,dB];refine Ah [] h2 ?_;simp[dQ,dB];refine Ah [] d2 ?_;simp[dQ,dB];refine Ah [] m1 ?_;simp[dQ,dB];refine Ah [] d1 ?_;simp[dQ,dB];refine Ah [] m2 ?_;simp[dQ,dB];refine Ah [] a1 ?_;simp[dQ,dB]
   ((repeat' with_reducible apply And.intro)<;> try exact Ye);refine Ah [] d1 ?_;simp[dQ,dB];refine Ah [] d2 ?_;simp[dQ,dB];refine Ah [] m3 ?_;simp[dQ,dB];refine Ah [] k1 ?_;simp[dQ,dB]
   ((repeat' with_reducible apply And.intro)<;> try exact Ye)
theorem YL(r s:Rt)(gr:Bq r)(gs:Bq s):Spec prog 159 [.agg (dQ r),.agg (dQ s)] (.agg (dQ (XX r s))):=by
 have hz:=Jb;have h1:=Yw r;have h2:=Yw s;have d1:=Xf r;have d2:=Xf s;have m1:=Z1d r.num s.num (by have:=gr.nl;have:=gs.nl;omega);have m2:=ZqU r.den s.den gr.dl gs.dl;have k1:=Z0i _ _ (Zj (lNN gr.nl gs.nl) o_) (Zj (lDD gr.dl gs.dl) o_);unfold XX;generalize QC r=b1 at *
 generalize QC s=b2 at *
 generalize r.num*s.num=x1 at *
 generalize ((r.den*s.den:Nat):Int)=x2 at *
 generalize I7 x1 x2=q at *
 cases b1
 .rw[show(if (false && b2)=true then q else zR)=zR by simp,hz];refine Bj func159 ntmps159 results159 ?_;simp[dQ,dB];refine Ah [] h1 ?_;simp[dQ,dB]
 .cases b2
  .rw[show(if (true && false)=true then q else zR)=zR by simp,hz];refine Bj func159 ntmps159 results159 ?_;simp[dQ,dB];refine Ah [] h1 ?_;simp[dQ,dB];refine Ah [] h2 ?_;simp[dQ,dB]
  .rw[show(if (true && true)=true then q else zR)=q by simp];refine Bj func159 ntmps159 results159 ?_;simp[dQ,dB];refine Ah [] h1 ?_;simp[dQ,dB];refine Ah [] h2 ?_;simp[dQ,dB];refine Ah [] m1 ?_;simp[dQ,dB];refine Ah [] d1 ?_;simp[dQ,dB];refine Ah [] d2 ?_;simp[dQ,dB];refine Ah [] m2 ?_;simp[dQ,dB];refine Ah [] k1 ?_;simp[dQ,dB]
   ((repeat' with_reducible apply And.intro)<;> try exact Ye)
theorem Xs(r s:Rt)(gr:Bq r)(gs:Bq s):Spec prog 208 [.agg (dQ r),.agg (dQ s)] (.agg (dQ (FF r s))):=by
 have hz:=Jb;have h1:=Yw r;have h2:=Yw s;have d1:=Xf r;have d2:=Xf s;have m1:=oM r.num s.den gr.nl gs.dl;have m2:=oM s.num r.den gs.nl gr.dl;have k1:=Z0i _ _ (Zj (Vz gr.nl gs.dl) o_) (Zj (Vz gs.nl gr.dl) o_);unfold FF;generalize QC r=b1 at *
 generalize QC s=b2 at *
 generalize r.num *(s.den:Int)=x1 at *
 generalize s.num *(r.den:Int)=x2 at *
 generalize I7 x1 x2=q at *
 cases b1
 .rw[show(if (false && b2)=true then q else zR)=zR by simp,hz];refine Bj func208 ntmps208 results208 ?_;simp[dQ,dB];refine Ah [] h1 ?_;simp[dQ,dB]
 .cases b2
  .rw[show(if (true && false)=true then q else zR)=zR by simp,hz];refine Bj func208 ntmps208 results208 ?_;simp[dQ,dB];refine Ah [] h1 ?_;simp[dQ,dB];refine Ah [] h2 ?_;simp[dQ,dB]
  .rw[show(if (true && true)=true then q else zR)=q by simp];refine Bj func208 ntmps208 results208 ?_;simp[dQ,dB];refine Ah [] h1 ?_;simp[dQ,dB];refine Ah [] h2 ?_;simp[dQ,dB];refine Ah [] d2 ?_;simp[dQ,dB];refine Ah [] m1 ?_;simp[dQ,dB];refine Ah [] d1 ?_;simp[dQ,dB];refine Ah [] m2 ?_;simp[dQ,dB];refine Ah [] k1 ?_;simp[dQ,dB]
   ((repeat' with_reducible apply And.intro)<;> try exact Ye)
theorem Z9r(r:Rt)(gr:Bq r):Spec prog 207 [.agg (dQ r)] (.int .i64 (IY r)):=by
 have h1:=Yw r;unfold IY;generalize QC r=b1 at *
 cases b1
 .rw[show(if false=true then (if r.num<0 then (-1:Int)else if r.num=0 then 0 else 1)else 0)=0 by simp];refine Bj func207 ntmps207 results207 ?_;simp[dQ,dB];refine Ah [] h1 ?_;simp[dQ,dB]
 .rw[show(if true=true then (if r.num<0 then (-1:Int)else if r.num=0 then 0 else 1)else 0)=(if r.num<0 then (-1:Int)else if r.num=0 then 0 else 1)by simp];by_cases c0:r.num=0
  .have e0:Zz r.num.natAbs=[]:=by rw[c0];exact Yd
   rw[if_neg o_,if_pos c0];simp only[dQ,e0,Zr7]at h1;refine Bj func207 ntmps207 results207 ?_;simp[dQ,dB,e0];refine Ah [] h1 ?_;simp[dQ,dB,e0]
  .have e0:¬ Zz r.num.natAbs=[]:=fun e=>c0 (by have:=J4.1 e;omega)
   by_cases c1:r.num<0
   .rw[if_pos c1];simp only[dQ,c1,decide_true]at h1;refine Bj func207 ntmps207 results207 ?_;simp[dQ,dB,e0,c1];refine Ah [] h1 ?_;simp[dQ,dB,e0,c1]
   .rw[if_neg c1,if_neg c0];simp only[dQ,c1,decide_false]at h1;refine Bj func207 ntmps207 results207 ?_;simp[dQ,dB,e0,c1];refine Ah [] h1 ?_;simp[dQ,dB,e0,c1]
theorem Z19(r:Rt)(gr:Bq r):Spec prog 211 [.agg (dQ r)] (.agg (dQ (Oa r))):=by
 have h1:=Yw r;have hz:=Jb
 have hr0:QC r=false->Oa r=zR:=fun h=>by
  rcases gr with rfl|g
  .rfl
  .rw[(ZhQ (.inr g)).2 g]at h;cases h
 have hc1:=QO (Zz r.num.natAbs) (by have:=gr.nl;omega);have hc2:=QO (Zz r.den) (by have:=gr.dl;omega);have hm:=Q8 (!decide (r.num<0)) r.num.natAbs (by have:=gr.nl;omega);have hsg:sg (!decide (r.num<0)) r.num.natAbs = -r.num:=by unfold sg;by_cases h:r.num<0<;>simp[h]<;> omega
 rw[hsg]at hm;generalize QC r=b1 at *
 cases b1
 .rw[hr0 rfl,hz];refine Bj func211 ntmps211 results211 ?_;simp[dQ,dB];refine Ah [] h1 ?_;simp[dQ,dB]
 .unfold Oa;generalize hn:-r.num=n at *
  have hna:r.num.natAbs=n.natAbs:=by omega
  refine Bj func211 ntmps211 results211 ?_;simp[dQ,dB];refine Ah [] h1 ?_;simp[dQ,dB];refine Ah [] hc1 ?_;simp[dQ,dB];refine Ah [14] hm ?_;simp[dQ,dB];refine Ah [] hc2 ?_;simp[dQ,dB,hna]
  ((repeat' with_reducible apply And.intro)<;> try exact Ye)
theorem Q7(r:Rt)(gr:Bq r):Spec prog 160 [.agg (dQ r)] (.agg (dQ r)):=by
 have hc1:=QO (Zz r.num.natAbs) (by have:=gr.nl;omega);have hc2:=QO (Zz r.den) (by have:=gr.dl;omega);refine Bj func160 ntmps160 results160 ?_;simp[dQ,dB];refine Ah [] hc1 ?_;simp[dQ,dB];refine Ah [] hc2 ?_;simp[dQ,dB]
 ((repeat' with_reducible apply And.intro)<;> try exact Ye)
theorem Jv(r s:Rt)(gr:Bq r)(gs:Bq s):Spec prog 210 [.agg (dQ r),.agg (dQ s)] (.agg (dQ (GI r s))):=by
 have h1:=Z19 s gs;have h2:=Yy r (Oa s) gr (Z86 gs);unfold GI;generalize Xc r (Oa s)=q at *
 generalize Oa s=n at *
 refine Bj func210 ntmps210 results210 ?_;simp[dQ,dB];refine Ah [] h1 ?_;simp[dQ,dB];refine Ah [] h2 ?_;simp[dQ,dB];try ((repeat' with_reducible apply And.intro)<;> try exact Ye)
theorem Z6d(l:List Int)(hl:l.length<=1048576):Spec prog 164 [.sl true 3 1 (iE l)] (.bool (GJ l)):=by
 by_cases Ra:(60:Int)<(l.length:Int)
 .rw[Zbk (l:=l) (fun h=>by omega)];refine Bj func164 ntmps164 results164 ?_;simp[-getElem?_pos,Ra]
 .refine Bj func164 ntmps164 results164 ?_;simp[-getElem?_pos,Ra];refine Ec (fun σ=>∃ k:Nat,k<=l.length/\Qy (l.take k)/\σ.env 0=.sl true 3 1 (iE l)/\σ.env 8=.sl true 3 1 (iE l)/\σ.env 9=.int .i64 l.length/\σ.env 10=.int .i64 k) (fun σ=>1048577-BU (σ.env 10)) ?_ ?_
  .exact⟨0,Zs _,by simpa using Xr,s_,s_,s_,s_⟩
  .rintro σ ⟨k,hk,hlm,e0,e8,e9,e10⟩;by_cases ga:k<l.length
   .obtain⟨x,hx⟩:∃ x,l[k]? = some x:=⟨_,Z4 ga⟩;have hx2:=Yu hx;by_cases hx0:x<0
    .rw[Zbk (l:=l) (fun h=>by have:=h.2.1 x (Z6 hx);omega)];simp[-getElem?_pos,e0,e8,e9,e10,ga,hx2,hx0]
    .by_cases hx1:1000000000<=x
     .rw[Zbk (l:=l) (fun h=>by have:=h.2.1 x (Z6 hx);omega)];simp[-getElem?_pos,e0,e8,e9,e10,ga,hx2,hx0,hx1]
     .have hn:Qy (l.take (k+1)):=by rw[Z9J hx];exact nY hlm (Vt o_ Xr)
      simp[-getElem?_pos,e0,e8,e9,e10,ga,hx2,hx0,hx1]
      ((repeat' with_reducible apply And.intro)<;> try exact Ye);exact⟨k+1,o_,hn,o_⟩
   .obtain rfl:k=l.length:=by omega
    rw[List.take_of_length_le (Nat.le_refl _)]at hlm;by_cases h0:l=[]
    .have:GJ l=true:=JK.2 ⟨o_,by rw[h0];exact Z8L⟩;rw[this];simp[-getElem?_pos,e0,e8,e9,e10,h0]
    .have hp:=List.length_pos_iff.2 h0;obtain⟨x,hx⟩:∃ x,l[l.length-1]? = some x:=⟨_,Z4 o_⟩;have hx2:=Yu hx;have ek:((l.length:Int)-1).toNat=l.length-1:=by omega
     have hb:GJ l = !decide (x=0):=by
      rw[Bool.eq_iff_iff,JK];have hlast:l.getLast? = some x:=by rw[List.getLast?_eq_getElem?];exact hx
      simp only[Bool.not_eq_true',decide_eq_false_iff_not];constructor
      .exact fun h=>h.2.2 x hlast
      .exact fun h=>⟨o_,hlm,fun d hd=>by rw[hlast]at hd;cases hd;exact h⟩
     rw[hb];simp[-getElem?_pos,e0,e8,e9,e10,h0,ek,hx2]
     ((repeat' with_reducible apply And.intro)<;> try exact Ye)
def fM(q:RQ):List AV:=[.bool q.neg,.sl false 3 1 (iE q.m),.sl false 3 1 (iE q.d)]
theorem oN(r:Rt):fM (Lp r)=dQ r:=rfl
theorem Z8D(neg:Bool)(l:List Int)(hl:l.length<=1048576):Spec prog 163 [.agg [.bool neg,.sl false 3 1 (iE l)]] (.bool (GJ l && !(neg && l.isEmpty))):=by
 have h1:=Z6d l hl;have he:l.isEmpty=decide (l=[]):=by cases l<;>simp[-getElem?_pos]
 rw[he];generalize GJ l=b at *
 cases b<;>cases neg<;>by_cases h0:l=[]<;>(refine Bj func163 ntmps163 results163 ?_)<;> simp[-getElem?_pos]<;> refine Ah [] h1 ?_<;>simp[-getElem?_pos,h0]
theorem Ztv{g:Nat}:(decide ((Zz g).length=1) && decide ((Zz g).getD 0 0=1))=decide (g=1):=by
 have h1:Zz 1=[1]:=oD o_ (by unfold BS;omega);by_cases h:g=1
 .subst h;rw[h1];rfl
 .have:¬ Zz g=[1]:=fun e=>h (by have:=ZJ g;rw[e]at this;rw[<- this];rfl)
  rw[Bool.eq_iff_iff];simp only[Bool.and_eq_true,decide_eq_true_eq,h,iff_false,not_and];intro e1 e2;obtain⟨x,e3⟩:=List.length_eq_one_iff.1 e1;rw[e3]at e2 this;exact this (by rw[show x=1 from e2])
theorem oO(q:RQ)(h1:q.m.length<=1048576)(h2:q.d.length<=1048576):Spec prog 130 [.agg (fM q)] (.bool (Lr q)):=by
 obtain⟨neg,m,d⟩:=q;dsimp only at h1 h2;have s1:=Z8D neg m h1;have s2:=Z6d d h2;have he:d.isEmpty=decide (d=[]):=by cases d<;>simp[-getElem?_pos]
 unfold Lr fM;dsimp only;have c1:(GJ m && !(neg && m.isEmpty))=true->m=Zz (Yt m):=fun h=>Z9Y (by cases hm:GJ m<;>simp_all)
 have c2:GJ d=true->d=Zz (Yt d):=Z9Y;rw[he];generalize (GJ m && !(neg && m.isEmpty))=b1 at *
 generalize GJ d=b2 at *
 cases b1
 .simp only[Bool.false_and];refine Bj func130 ntmps130 results130 ?_;simp[-getElem?_pos];refine Ah [] s1 ?_;simp[-getElem?_pos]
 cases b2
 .simp only[Bool.true_and,Bool.false_and];refine Bj func130 ntmps130 results130 ?_;simp[-getElem?_pos];refine Ah [] s1 ?_;simp[-getElem?_pos];refine Ah [] s2 ?_;simp[-getElem?_pos]
 by_cases h0:d=[]
 .simp only[h0,decide_true,Bool.not_true,Bool.true_and,Bool.false_and];rw[h0]at s2;refine Bj func130 ntmps130 results130 ?_;simp[-getElem?_pos];refine Ah [] s1 ?_;simp[-getElem?_pos];refine Ah [] s2 ?_;simp[-getElem?_pos]
 simp only[h0,decide_false,Bool.not_false,Bool.true_and];by_cases m24:(24:Int)<(m.length:Int)
 .rw[show decide (m.length<=24)=false by simp;omega,Bool.false_and];refine Bj func130 ntmps130 results130 ?_;simp[-getElem?_pos];refine Ah [] s1 ?_;simp[-getElem?_pos];refine Ah [] s2 ?_;simp[-getElem?_pos,h0,m24]
 rw[show decide (m.length<=24)=true by simp;omega,Bool.true_and];by_cases d24:(24:Int)<(d.length:Int)
 .rw[show decide (d.length<=24)=false by simp;omega,Bool.false_and];refine Bj func130 ntmps130 results130 ?_;simp[-getElem?_pos];refine Ah [] s1 ?_;simp[-getElem?_pos];refine Ah [] s2 ?_;simp[-getElem?_pos,h0,m24,d24]
 rw[show decide (d.length<=24)=true by simp;omega,Bool.true_and];have e1:=c1 rfl;have e2:=c2 rfl;have s3:=Z4v (Yt m) (Yt d) (by rw[<- e1];omega) (by rw[<- e2];omega);rw[<- e1,<- e2]at s3;rw[<- Ztv];generalize Nat.gcd (Yt m) (Yt d)=g at *
 clear e1 e2 c1 c2;by_cases g1:(Zz g).length=1
 .obtain⟨x,hx⟩:=List.length_eq_one_iff.1 g1;rw[hx]at s3 ⊢;refine Bj func130 ntmps130 results130 ?_;simp[-getElem?_pos];refine Ah [] s1 ?_;simp[-getElem?_pos];refine Ah [] s2 ?_;simp[-getElem?_pos,h0,m24,d24];refine Ah [] s3 ?_;have hx0:=Yu (l:=[x]) (k:=0) (x:=x) rfl;simp[-getElem?_pos,hx0]
 .rw[show decide ((Zz g).length=1)=false by simp[g1],Bool.false_and];refine Bj func130 ntmps130 results130 ?_;simp[-getElem?_pos];refine Ah [] s1 ?_;simp[-getElem?_pos];refine Ah [] s2 ?_;simp[-getElem?_pos,h0,m24,d24];refine Ah [] s3 ?_;have g2:¬((Zz g).length:Int)=1:=by omega
  simp[-getElem?_pos,g2]
theorem Z33(q:RQ)(h1:q.m.length<=1048576)(h2:q.d.length<=1048576):Spec prog 183 [.agg (fM q)] (.int .i64 (TZ q)):=by
 have s1:=oO q h1 h2;by_cases h:Lr q=true
 .obtain⟨r,g,rfl⟩:=Zox h;rw[Z7Y (.inr g)];rw[h,oN]at s1;have s2:=Z9r r (.inr g);rw[oN];generalize IY r=z at *
  refine Bj func183 ntmps183 results183 ?_;simp[-getElem?_pos,dQ];refine Ah [] s1 ?_;simp[-getElem?_pos,dQ];refine Ah [] s2 ?_;simp[-getElem?_pos]
 .have e:TZ q=0:=by unfold TZ;rw[if_neg h]
  rw[Bool.not_eq_true]at h;rw[e];rw[h]at s1;refine Bj func183 ntmps183 results183 ?_;simp[-getElem?_pos,fM];refine Ah [] s1 ?_;simp[-getElem?_pos]
def Ga(l:RL):List AV:=[.int .i64 l.a,.int .i64 l.b,.bool l.w.neg,.sl false 3 1 (iE l.w.m),.sl false 3 1 (iE l.w.d),.bool l.x.neg,.sl false 3 1 (iE l.x.m),.sl false 3 1 (iE l.x.d),.bool l.y.neg,.sl false 3 1 (iE l.y.m),.sl false 3 1 (iE l.y.d)]
theorem ZnT(l:Lk):Ga (IZ l)=Bd l:=rfl
def lE(l:List RL):List (List AV):=l.map Ga
@[simp] theorem Zt9(l:List RL):(lE l).length=l.length:=by simp[lE]
theorem ZnF{l:List RL}{k:Nat}{x:RL}(h:l[k]? = some x):(lE l)[k]? = some (Ga x):=by simp[lE,h]
def kE(l:List Lk):List (List AV):=l.map Bd
@[simp] theorem oP(l:List Lk):(kE l).length=l.length:=by simp[kE]
theorem Pm{l:List Lk}{k:Nat}{x:Lk}(h:l[k]? = some x):(kE l)[k]? = some (Bd x):=by simp[kE,h]
theorem Zsx(l:List Lk):lE (l.map IZ)=kE l:=by simp[lE,kE,ZnT]
structure RLb(l:RL):Prop where
 wm:l.w.m.length<=1048576
 wd:l.w.d.length<=1048576
 xm:l.x.m.length<=1048576
 xd:l.x.d.length<=1048576
 ym:l.y.m.length<=1048576
 yd:l.y.d.length<=1048576
theorem Xu(n:Int):Spec prog 182 [.int .i64 n] (.bool (Gr n)):=by
 by_cases h1:0<=n<;>by_cases h2:n<10
 .rw[show Gr n=true by unfold Gr Be;simp;omega];refine Bj func182 ntmps182 results182 ?_;simp -implicitDefEqProofs [h1,h2]
 .rw[show Gr n=false by unfold Gr Be;simp;omega];refine Bj func182 ntmps182 results182 ?_;simp -implicitDefEqProofs [h1,h2]
 .rw[show Gr n=false by unfold Gr Be;simp;omega];refine Bj func182 ntmps182 results182 ?_;simp -implicitDefEqProofs [h1,h2]
 .rw[show Gr n=false by unfold Gr Be;simp;omega];refine Bj func182 ntmps182 results182 ?_;simp -implicitDefEqProofs [h1,h2]
theorem Z08(l:RL)(hb:RLb l):Spec prog 151 [.agg (Ga l)] (.bool (RG l)):=by
 have n1:=Xu l.a;have n2:=Xu l.b;have s1:=Z33 l.w hb.wm hb.wd;have o1:=oO l.x hb.xm hb.xd;have o2:=oO l.y hb.ym hb.yd;unfold RG;generalize Gr l.a=b1 at *
 generalize Gr l.b=b2 at *
 generalize TZ l.w=z at *
 generalize Lr l.x=b3 at *
 generalize Lr l.y=b4 at *
 cases b1
 .simp only[Bool.false_and];refine Bj func151 ntmps151 results151 ?_;simp -implicitDefEqProofs [Ga];refine Ah [] n1 ?_;simp -implicitDefEqProofs
 cases b2
 .simp only[Bool.true_and,Bool.false_and];refine Bj func151 ntmps151 results151 ?_;simp -implicitDefEqProofs [Ga];refine Ah [] n1 ?_;simp -implicitDefEqProofs;refine Ah [] n2 ?_;simp -implicitDefEqProofs
 by_cases hab:l.a<l.b
 case neg =>
  rw[show decide (l.a<l.b)=false by simp[hab]];simp only[Bool.true_and,Bool.false_and];refine Bj func151 ntmps151 results151 ?_;simp -implicitDefEqProofs [Ga];refine Ah [] n1 ?_;simp -implicitDefEqProofs;refine Ah [] n2 ?_;simp -implicitDefEqProofs [hab]
 by_cases hz:0<z
 case neg =>
  rw[show decide (l.a<l.b)=true by simp[hab],show decide (0<z)=false by simp[hz]];simp only[Bool.true_and,Bool.false_and];refine Bj func151 ntmps151 results151 ?_;simp -implicitDefEqProofs [Ga];refine Ah [] n1 ?_;simp -implicitDefEqProofs;refine Ah [] n2 ?_;simp -implicitDefEqProofs [hab];refine Ah [] s1 ?_;simp -implicitDefEqProofs [hz]
 rw[show decide (l.a<l.b)=true by simp[hab],show decide (0<z)=true by simp[hz]];cases b3
 .simp only[Bool.true_and,Bool.false_and];refine Bj func151 ntmps151 results151 ?_;simp -implicitDefEqProofs [Ga];refine Ah [] n1 ?_;simp -implicitDefEqProofs;refine Ah [] n2 ?_;simp -implicitDefEqProofs [hab];refine Ah [] s1 ?_;simp -implicitDefEqProofs [hz];refine Ah [] o1 ?_;simp -implicitDefEqProofs
 .simp only[Bool.true_and];refine Bj func151 ntmps151 results151 ?_;simp -implicitDefEqProofs [Ga];refine Ah [] n1 ?_;simp -implicitDefEqProofs;refine Ah [] n2 ?_;simp -implicitDefEqProofs [hab];refine Ah [] s1 ?_;simp -implicitDefEqProofs [hz];refine Ah [] o1 ?_;simp -implicitDefEqProofs;refine Ah [] o2 ?_;simp -implicitDefEqProofs
theorem Z05(k l:RL):Spec prog 157 [.agg (Ga k),.agg (Ga l)] (.bool (Vw k l)):=by
 unfold Vw;by_cases h1:k.a<l.a
 .simp only[h1,decide_true,Bool.true_or];refine Bj func157 ntmps157 results157 ?_;simp[-getElem?_pos,Ga,h1]
 by_cases h2:k.a=l.a
 .simp only[h1,h2,decide_true,decide_false,Bool.false_or,Bool.true_and];have h3:¬ l.a<l.a:=by omega
  refine Bj func157 ntmps157 results157 ?_;simp[-getElem?_pos,Ga,h1,h2,h3]
 .simp only[h1,h2,decide_true,decide_false,Bool.false_or,Bool.false_and];refine Bj func157 ntmps157 results157 ?_;simp[-getElem?_pos,Ga,h1,h2]
theorem Z6U(ls:List RL)(hl:ls.length<=1048576)(hb:∀ l∈ls,RLb l):Spec prog 119 [.sl true 186 11 (lE ls)] (.bool (U0 ls)):=by
 refine Bj func119 ntmps119 results119 ?_;simp[-getElem?_pos];refine Ec (fun σ=>∃ k:Nat,k<=ls.length/\GL ls k/\σ.env 0=.sl true 186 11 (lE ls)/\σ.env 5=.sl true 186 11 (lE ls)/\σ.env 6=.int .i64 ls.length/\σ.env 7=.int .i64 k) (fun σ=>1048577-BU (σ.env 7)) ?_ ?_
 .exact⟨0,Zs _,GL.zero _,s_⟩
 .rintro σ ⟨k,hk,hlm,E⟩;by_cases ga:k<ls.length
  .obtain⟨x,hx⟩:∃ x,ls[k]? = some x:=⟨_,Z4 ga⟩;have hx2:=ZnF hx;have n1:=Z08 x (hb x (Z6 hx));cases hv:RG x
   .rw[ZfP hx (.inl hv)];rw[hv]at n1;simp[-getElem?_pos,E,ga,hx2,Ga];refine Ah [] n1 ?_;simp[-getElem?_pos]
    ((repeat' with_reducible apply And.intro)<;> try exact Ye)
   .rw[hv]at n1;by_cases hk0:0<k
    .obtain⟨y,hy⟩:∃ y,ls[k-1]? = some y:=⟨_,Z4 o_⟩;have hy2:=ZnF hy;have n2:=Z05 y x;have ek:((k:Int)-1).toNat=k-1:=by omega
     cases hc:Vw y x
     .rw[ZfP hx (.inr ⟨y,hk0,hy,hc⟩)];rw[hc]at n2;simp[-getElem?_pos,E,ga,hx2,Ga];refine Ah [] n1 ?_;simp[-getElem?_pos,E,hk0,ek,hy2,Ga]
      ((repeat' with_reducible apply And.intro)<;> try exact Ye);refine Ah [] n2 ?_;simp[-getElem?_pos]
      ((repeat' with_reducible apply And.intro)<;> try exact Ye)
     .rw[hc]at n2;have hup:=hlm.step hx hv (fun p _ h=>by rw[hy]at h;cases h;exact hc);simp[-getElem?_pos,E,ga,hx2,Ga];refine Ah [] n1 ?_;simp[-getElem?_pos,E,hk0,ek,hy2,Ga]
      ((repeat' with_reducible apply And.intro)<;> try exact Ye);refine Ah [] n2 ?_;simp[-getElem?_pos,E]
      ((repeat' with_reducible apply And.intro)<;> try exact Ye);exact⟨k+1,o_,hup,o_⟩
    .have hup:=hlm.step hx hv (fun p h _=>absurd h hk0);simp[-getElem?_pos,E,ga,hx2,Ga];refine Ah [] n1 ?_;simp[-getElem?_pos,E,hk0]
     ((repeat' with_reducible apply And.intro)<;> try exact Ye);exact⟨k+1,o_,hup,o_⟩
  .obtain rfl:k=ls.length:=by omega
   rw[ZjR hlm];simp[-getElem?_pos,E]
theorem Z8w(l:Lk)(g:D6 l):Spec prog 153 [.agg (Bd l)] (.agg (Bd l)):=by
 have c1:=Q7 l.w g.1;have c2:=Q7 l.dx g.2.1;have c3:=Q7 l.dy g.2.2;refine Bj func153 ntmps153 results153 ?_;simp[-getElem?_pos,-exists_and_left,-exists_and_right,Bd];refine Ah [] c1 ?_;simp[-getElem?_pos,-exists_and_left,-exists_and_right,dQ];refine Ah [] c2 ?_;simp[-getElem?_pos,-exists_and_left,-exists_and_right,dQ];refine Ah [] c3 ?_;simp[-getElem?_pos,-exists_and_left,-exists_and_right,dQ]
 ((repeat' with_reducible apply And.intro)<;> try exact Ye)
theorem VA(l:List Lk)(x:Lk):kE l++[Bd x]=kE (l++[x]):=by simp[kE]
theorem Jh(ls:List Lk)(hl:ls.length<=100000)(hg:∀ l∈ls,D6 l):Spec prog 115 [.sl true 186 11 (kE ls)] (.own 186 11 (kE ls)):=by
 refine Bj func115 ntmps115 results115 ?_;simp[-getElem?_pos,-exists_and_left,-exists_and_right];refine Ec (fun σ=>∃ k st:Nat,k<=ls.length/\σ.env 3=.vw 6 st/\σ.env 7=.sl true 186 11 (kE ls)/\σ.env 8=.int .i64 ls.length/\σ.env 9=.int .i64 k/\σ.box 6=some ⟨186,11,st,kE (ls.take k),true⟩) (fun σ=>100001-BU (σ.env 9)) ?_ ?_
 .exact⟨0,_,Zs _,by simp;rfl,s_,s_,s_,by simp[kE]⟩
 .rintro σ ⟨k,st,hk,e3,e7,e8,e9,b6⟩;by_cases ga:k<ls.length
  .obtain⟨x,hx⟩:∃ x,ls[k]? = some x:=⟨_,Z4 ga⟩;have hx2:=Pm hx;have n1:=Z8w x (hg x (Z6 hx))
   have hn:kE (ls.take k)++[Bd x]=kE (ls.take (k+1)):=by
    rw[VA];congr 1;obtain⟨h1,rfl⟩:=List.getElem?_eq_some_iff.1 hx;rw[List.take_succ_eq_append_getElem h1]
   have hlen:(kE (ls.take k)).length=k:=by simp;omega
   generalize kE (ls.take k)=E0 at *
   simp[-getElem?_pos,-exists_and_left,-exists_and_right,e3,e7,e8,e9,b6,ga,hx2,Bd];refine Ah [] n1 ?_;simp[-getElem?_pos,-exists_and_left,-exists_and_right,e3,e7,e8,e9,b6,Bd]
   ((repeat' with_reducible apply And.intro)<;> try exact Ye);exact⟨k+1,_,o_,rfl,o_,rfl,hn⟩
  .obtain rfl:k=ls.length:=by omega
   simp[-getElem?_pos,-exists_and_left,-exists_and_right,e3,e7,e8,e9,b6]
theorem Z3x(r s:Rt)(gr:Bq r)(gs:Bq s):Spec prog 209 [.agg (dQ r),.agg (dQ s)] (.agg (dQ (TW r s))):=by
 have h1:=YL r r gr gr;have h2:=YL s s gs gs;have h3:=Yy (XX r r) (XX s s) (QA _ _) (QA _ _);unfold TW;generalize Xc (XX r r) (XX s s)=z at *
 generalize XX r r=x at *
 generalize XX s s=y at *
 refine Bj func209 ntmps209 results209 ?_;simp[-getElem?_pos,-exists_and_left,-exists_and_right,dQ];refine Ah [] h1 ?_;simp[-getElem?_pos,-exists_and_left,-exists_and_right,dQ];refine Ah [] h2 ?_;simp[-getElem?_pos,-exists_and_left,-exists_and_right,dQ];refine Ah [] h3 ?_;simp[-getElem?_pos,-exists_and_left,-exists_and_right,dQ]
 ((repeat' with_reducible apply And.intro)<;> try exact Ye)
def U7:Lk:=⟨0,0,zR,zR,zR⟩
theorem Lt:Bd U7=[.int .i64 0,.int .i64 0,.bool false,.sl false 3 1 [],.sl false 3 1 [],.bool false,.sl false 3 1 [],.sl false 3 1 [],.bool false,.sl false 3 1 [],.sl false 3 1 []]:=by unfold Bd U7 zR;simp[Yd]
def fO:Option (Lk×Rt)->AV
 |some (m,e)=>.tup [.agg (Bd m),.agg (dQ e),.bool true]
 |none=>.tup [.agg (Bd U7),.agg (dQ zR),.bool false]
theorem Zm3(x:Option (Lk×Rt)):GG (fO x)=true:=by
 cases x with
 |none=>rfl
 |some p=>rfl
theorem Z5F(k l:Lk)(gk:D6 k)(gl:D6 l):Spec prog 184 [.agg (Bd k),.agg (Bd l)] (fO (TX k l)):=by
 rw[Za0];have e:FM k l=⟨Xc k.w l.w,FF (Xc (XX k.w k.dx) (XX l.w l.dx)) (Xc k.w l.w),FF (Xc (XX k.w k.dy) (XX l.w l.dy)) (Xc k.w l.w),XX (FF (XX k.w l.w) (Xc k.w l.w)) (TW (GI k.dx l.dx) (GI k.dy l.dy))⟩:=rfl;rw[e];clear e;dsimp only;obtain⟨a,b,v,x,y⟩:=k;obtain⟨a',b',w,x',y'⟩:=l;obtain⟨g1,g2,g3⟩:=gk;obtain⟨g4,g5,g6⟩:=gl;dsimp only at g1 g2 g3 g4 g5 g6 ⊢;have s0:=Yy v w g1 g4;have gs:Bq (Xc v w):=Q2 _ _;generalize Xc v w=s at *
 have s1:=YL v x g1 g2;have gp1:Bq (XX v x):=QA _ _;generalize XX v x=p1 at *
 have s2:=YL w x' g4 g5;have gp2:Bq (XX w x'):=QA _ _;generalize XX w x'=p2 at *
 have s3:=Yy p1 p2 gp1 gp2;have gp3:Bq (Xc p1 p2):=Q2 _ _;generalize Xc p1 p2=p3 at *
 have s4:=Xs p3 s gp3 gs;have gX:Bq (FF p3 s):=JI _ _;generalize FF p3 s=X at *
 have s5:=YL v y g1 g3;have gp4:Bq (XX v y):=QA _ _;generalize XX v y=p4 at *
 have s6:=YL w y' g4 g6;have gp5:Bq (XX w y'):=QA _ _;generalize XX w y'=p5 at *
 have s7:=Yy p4 p5 gp4 gp5;have gp6:Bq (Xc p4 p5):=Q2 _ _;generalize Xc p4 p5=p6 at *
 have s8:=Xs p6 s gp6 gs;have gY:Bq (FF p6 s):=JI _ _;generalize FF p6 s=Y at *
 have s9:=YL v w g1 g4;have gp7:Bq (XX v w):=QA _ _;generalize XX v w=p7 at *
 have t1:=Xs p7 s gp7 gs;have gp8:Bq (FF p7 s):=JI _ _;generalize FF p7 s=p8 at *
 have t2:=Jv x x' g2 g5;have gp9:Bq (GI x x'):=oH _ _;generalize GI x x'=p9 at *
 have t3:=Jv y y' g3 g6;have Z0S:Bq (GI y y'):=oH _ _;generalize GI y y'=p10 at *
 have t4:=Z3x p9 p10 gp9 Z0S;have Z0U:Bq (TW p9 p10):=Q2 _ _;generalize TW p9 p10=p11 at *
 have t5:=YL p8 p11 gp8 Z0U;have gE:Bq (XX p8 p11):=QA _ _;generalize XX p8 p11=E at *
 have ks:=Yw s;generalize QC s=bs at *
 have kX:=Yw X;generalize QC X=bX at *
 have kY:=Yw Y;generalize QC Y=bY at *
 have kE:=Yw E;generalize QC E=bE at *
 obtain⟨R,hR⟩:∃ R,R=fO (if (bs && (bX && (bY && bE)))=true then some (⟨a,b,s,X,Y⟩,E)else none):=⟨_,rfl⟩;have hok:GG R=true:=by rw[hR];exact Zm3 _
 have hT:(bs && (bX && (bY && bE)))=true->R=.tup [.agg (Bd ⟨a,b,s,X,Y⟩),.agg (dQ E),.bool true]:=fun h=>by rw[hR,if_pos h];rfl
 have hF:(bs && (bX && (bY && bE)))=false->R=.tup [.agg [.int .i64 0,.int .i64 0,.bool false,.sl false 3 1 [],.sl false 3 1 [],.bool false,.sl false 3 1 [],.sl false 3 1 [],.bool false,.sl false 3 1 [],.sl false 3 1 []],.agg [.bool false,.sl false 3 1 [],.sl false 3 1 []],.bool false]:=fun h=>by
  rw[hR,if_neg (by rw[h];simp),<- Lt,<- Jb];rfl
 rw[<- hR];clear hR;refine Qu M8 func184 rfl rfl ntmps184 results184 (by decide +kernel) rfl rfl hok ?_;simp[Bd];refine⟨EM BC,?_⟩;refine Ah [] s0 ?_;simp[dQ];refine Ah [] s1 ?_;simp[dQ];refine Ah [] s2 ?_;simp[dQ];refine Ah [] s3 ?_;simp[dQ];refine Ah [] s4 ?_;simp[dQ];refine⟨EM BC,?_⟩;refine Ah [] s5 ?_;simp[dQ];refine Ah [] s6 ?_;simp[dQ];refine Ah [] s7 ?_;simp[dQ];refine Ah [] s8 ?_;simp[dQ];refine⟨EM BC,?_⟩;refine Ah [] s9 ?_;simp[dQ];refine Ah [] t1 ?_;simp[dQ];refine Ah [] t2 ?_;simp[dQ];refine Ah [] t3 ?_;simp[dQ];refine Ah [] t4 ?_;simp[dQ];refine Ah [] t5 ?_;simp[dQ];refine⟨EM BC,?_⟩;refine Ah [] ks ?_;cases bs
 .have hR:=hF s_;simp[hR];try ((repeat' with_reducible apply And.intro)<;> try exact Ye)
 .simp[dQ];refine Ah [] kX ?_;cases bX
  .have hR:=hF s_;simp[hR];try ((repeat' with_reducible apply And.intro)<;> try exact Ye)
  .simp[dQ];refine Ah [] kY ?_;cases bY
   .have hR:=hF s_;simp[hR];try ((repeat' with_reducible apply And.intro)<;> try exact Ye)
   .simp[dQ];refine Ah [] kE ?_;cases bE
    .have hR:=hF s_;simp[hR];try ((repeat' with_reducible apply And.intro)<;> try exact Ye)
    .have hR:=hT s_;simp[hR,dQ,Bd]
     ((repeat' with_reducible apply And.intro)<;> try exact Ye)
end Go.Proofs.YtcnbphnnfmphlaaGreatDoor
