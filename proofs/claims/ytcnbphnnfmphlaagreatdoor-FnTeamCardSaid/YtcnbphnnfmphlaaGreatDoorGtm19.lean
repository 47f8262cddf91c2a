/- Texts of this proof. -/
import Derived.Test.YtcnbphnnfmphlaaGreatDoorGtm18
namespace Go.Proofs.YtcnbphnnfmphlaaGreatDoor
open Bool renaming and_eq_true → Zc
open Go.Calls renaming mono → Zb
open Go.Lib renaming hid → Z5,itoa → ZV
open List renaming mem_of_getElem? → Z6,mem_append → Z9,mem_cons → Zn,length_append → Zq,length_cons → Zt
open Nat renaming le_refl → Zd
open Go.Proofs.Tryz
open Go.RowKit
set_option linter.unusedVariables false
set_option linter.unusedSimpArgs false
set_option maxHeartbeats 4000000
set_option maxRecDepth 100000
variable{f:A7}{l:List A7}
theorem Z07(s:ByteArray)(w:World)(hs:s.size<=4194304)(hT:EX w):Calls prog 82 #[.string s] w fun e w'=>e=.returned (aI (Jf s))/\Below w.heap.size w w':=by
 have HT:=Z5 hT;clear hT;go_enter func82,ntmps82;go_wp2_with fail;refine Zb (JP s 32 _ o_) ?_;rintro e KS ⟨v,L,rfl,ho,hL,hb1⟩;have bx1:=(Bk.new w [.int .i64 0,.int .i64 0,.string ⟨#[]⟩,.string ⟨#[]⟩,.int .i64 0,.int .i64 0,.int .i64 0,.int .i64 0] 35 _ rfl).below hb1;have B1:Below w.heap.size w KS:=Zg (Ze (Below.refl _ _) _) hb1;have HL:=Z5 hL;have hlen:L.length=v.n:=by have:=ho.lens;simpa [Hid]using this
 have hrow:D7 KS v.A v.n L:=ho.row;have hws:=wH hL;have HT1:=Z5 (HT.out.below B1);clear hb1 ho hL HT;obtain⟨A,n,c⟩:=v;simp only at hlen hrow;by_cases h56:n=5∨n=6
 .obtain⟨g,off,rfl⟩:=hrow.some_ o_;obtain⟨w1,h1⟩:=UR (L:=L) (k:=1) o_;obtain⟨w3,h3⟩:=UR (L:=L) (k:=L.length-3) o_;obtain⟨w4,h4⟩:=UR (L:=L) (k:=L.length-2) o_;obtain⟨w5,h5⟩:=UR (L:=L) (k:=L.length-1) o_;have z1:=hws w1 (Z6 h1);have z3:=hws w3 (Z6 h3);have z4:=hws w4 (Z6 h4);have z5:=hws w5 (Z6 h5);rcases h56 with rfl|rfl
  .clear hws;have c1:=XJ hrow h1;have c3:=XJ hrow h3;have c4:=XJ hrow h4;have c5:=XJ hrow h5;simp only[hlen,Nat.reduceSub]at c3 c4 c5;have IA:=Z5 (Z6f (fr:=⟨#[]⟩) HL.out h1 h3 h4 h5 ⟨fun _=>by omega,fun _=>rfl⟩);have HX:=Z5 (Zal HL.out h1 h4 h5);obtain⟨x,hx⟩:∃ x,x=(Ck w1).getD 0:=⟨_,rfl⟩;obtain⟨p,hp⟩:∃ p,p=(J7 w4).getD ⟨0,0,0⟩:=⟨_,rfl⟩;obtain⟨y,hy⟩:∃ y,y=(Ck w5).getD 0:=⟨_,rfl⟩;rw[<- hx,<- hp,<- hy]at IA;have H1:=Z5 (show OL (Ck w1)=.tuple #[.int .i64 x,.bool (Ck w1).isSome]by rw[hx];exact UQ _);have H4:=Z5 (show kV (J7 w4)=.tuple #[Qv p.turn p.x p.y,.bool (J7 w4).isSome]by rw[hp];exact Zc4 _);have H5:=Z5 (show OL (Ck w5)=.tuple #[.int .i64 y,.bool (Ck w5).isSome]by rw[hy];exact UQ _);obtain⟨t,ux,uy⟩:=p;simp only at H4;generalize (Ck w1).isSome=o1 at *
   generalize (J7 w4).isSome=o4 at *
   generalize (Ck w5).isSome=o5 at *
   have hg1:g<KS.heap.size:=Y6 c1;clear hx hp hy hrow h1 h3 h4 h5;go_wp2_with fail;refine Zb (Yj w1 _ o_ HT1.out) ?_;rintro e SK ⟨rfl,hb2⟩;rw[H1.out];have c3:=Zm hb2 c3;have c4:=Zm hb2 c4;have c5:=Zm hb2 c5;have Cw:=bx1.below hb2;have B2:=Zg B1 hb2;have HT2:=Z5 (HT1.out.below hb2);clear hb2 c1 bx1 B1 H1 HT1;go_wp2_with fail;refine Zb (Z1s w4 _ o_ HT2.out) ?_;rintro e Ej ⟨rfl,hb3⟩;rw[H4.out];have c3:=Zm hb3 c3;have c5:=Zm hb3 c5;have C4:=Cw.below hb3;have B3:=Zg B2 hb3;have HT3:=Z5 (HT2.out.below hb3);have hg3:g<Ej.heap.size:=Y6 c5;have SL:¬ g=Ej.heap.size:=by omega
   clear hb3 c4 Cw B2 H4 HT2;go_wp2_with fail;refine Zb (Yj w5 _ o_ (HT3.out.below (Ze (Below.refl _ _) _))) ?_;rintro e E7 ⟨rfl,hb4⟩;rw[H5.out];have c3:=Zm hb4 (Zm (Ze (Below.refl _ _) _) c3);have Ci:=(C4.Aj _).below hb4;have OM:=(Bk.new Ej [.int .i64 t,.int .i64 ux,.int .i64 uy] 33 _ rfl).below hb4;have B4:=Zg (Ze B3 _) hb4;have aL:=Z5 (((HT3.out.below (Ze (Below.refl _ _) _))).below hb4);clear hb4 c5 C4 B3 H5 HT3;have v0:=OM.bx.cells 0 _ rfl;have v1:=OM.bx.cells 1 _ rfl;have v2:=OM.bx.cells 2 _ rfl;have vz:=OM.lt;have SN:¬ g=E7.heap.size:=by have:=Y6 c3;simp only at this;omega
   have hne5:¬ Ej.heap.size=E7.heap.size:=by omega
   have SQ:¬ E7.heap.size=Ej.heap.size:=by omega
   by_cases hall:o1=true/\o4=true/\o5=true
   .obtain⟨rfl,rfl,rfl⟩:=hall;go_wp2_with fail;have wK:=Zm (Ze (Below.refl _ _) (.cells #[.int .i64 0,.int .i64 0,.string ⟨#[]⟩,.string ⟨#[]⟩,.int .i64 0,.int .i64 0,.int .i64 0,.int .i64 0] 35)) c3;have wL:=Zm (Ze (Below.refl _ _) (.cells #[.int .i64 0,.int .i64 0,.string ⟨#[]⟩,.string ⟨#[]⟩,.int .i64 0,.int .i64 0,.int .i64 0,.int .i64 0] 35)) v0;have wM:=Zm (Ze (Below.refl _ _) (.cells #[.int .i64 0,.int .i64 0,.string ⟨#[]⟩,.string ⟨#[]⟩,.int .i64 0,.int .i64 0,.int .i64 0,.int .i64 0] 35)) v1;have wN:=Zm (Ze (Below.refl _ _) (.cells #[.int .i64 0,.int .i64 0,.string ⟨#[]⟩,.string ⟨#[]⟩,.int .i64 0,.int .i64 0,.int .i64 0,.int .i64 0] 35)) v2;go_region;have hbn:=ZY (Ze (Below.refl E7.heap.size E7) (.cells #[.int .i64 x,.int .i64 0,.string ⟨#[]⟩,.string w3,.int .i64 t,.int .i64 ux,.int .i64 uy,.int .i64 y] 35));have F9:Bk _ E7.heap.size 35 [.int .i64 x,.int .i64 0,.string ⟨#[]⟩,.string w3,.int .i64 t,.int .i64 ux,.int .i64 uy,.int .i64 y]:=(Bk.new E7 [.int .i64 x,.int .i64 0,.string ⟨#[]⟩,.string w3,.int .i64 t,.int .i64 ux,.int .i64 uy,.int .i64 y] 35 _ rfl).below (ZY (Below.refl _ _));have q0:=F9.bx.cells 0 _ rfl;have q1:=F9.bx.cells 1 _ rfl;have q2:=F9.bx.cells 2 _ rfl;have q3:=F9.bx.cells 3 _ rfl;have q4:=F9.bx.cells 4 _ rfl;have q5:=F9.bx.cells 5 _ rfl;have q6:=F9.bx.cells 6 _ rfl;have q7:=F9.bx.cells 7 _ rfl;have qf:=F9.bx.Bf;have qz:=F9.lt;go_wp2_with fail;have aM:=F9;have MG:=hbn;clear F9 hbn wK wL wM wN v0 v1 v2 vz c3 SN hne5 SQ SL hg3 hg1 q0 q1 q2 q3 q4 q5 q6 q7 qf qz;go_loopw [13] (fun kv wr=>∃ (k:Nat) (kk:Int),kv=.int .i64 (k:Int)/\1<=k/\k<=5/\(∀ j:Nat,1<=j->j<k->¬ Ie s ⟨x,j,⟨#[]⟩,w3,⟨t,ux,uy⟩,y⟩)/\Bk wr E7.heap.size 35 [.int .i64 x,.int .i64 kk,.string ⟨#[]⟩,.string w3,.int .i64 t,.int .i64 ux,.int .i64 uy,.int .i64 y]/\Below E7.heap.size E7 wr) (fun kv _=>5-(intOf kv).toNat)
    case atStart=>exact⟨1,0,rfl,o_,o_,fun j hj hj2=>by omega,aM,MG⟩
    case round =>
     obtain⟨k,kk,rfl,hk1,hk,hno,px,hbr⟩:=hrel;have Fu:=Z5 hno;clear hno aM MG;have hs3:w3.size<=4194304:=by omega
     have q0:=px.bx.cells 0 _ rfl;have q1:=px.bx.cells 1 _ rfl;have q2:=px.bx.cells 2 _ rfl;have q3:=px.bx.cells 3 _ rfl;have q4:=px.bx.cells 4 _ rfl;have q5:=px.bx.cells 5 _ rfl;have q6:=px.bx.cells 6 _ rfl;have q7:=px.bx.cells 7 _ rfl;have qf:=px.bx.Bf;have qz:=px.lt;by_cases hlt:k<5
     .have hkl:(k:Int)<=4:=by omega
      have pk:Bk (wr.setCell ⟨E7.heap.size,1,none⟩ (.int .i64 (k:Int))) E7.heap.size 35 [.int .i64 x,.int .i64 (k:Int),.string ⟨#[]⟩,.string w3,.int .i64 t,.int .i64 ux,.int .i64 uy,.int .i64 y]:=by simpa using px.set 1 (.int .i64 (k:Int))
      have hbk:=Dp hbr (p:=⟨E7.heap.size,1,none⟩) (Zd _) (.int .i64 (k:Int));cases hv:Zy ⟨x,(k:Int),⟨#[]⟩,w3,⟨t,ux,uy⟩,y⟩with
      |false =>
       have IC:=Z5 (show ∀ j:Nat,1<=j->j<k+1->¬ Ie s ⟨x,j,⟨#[]⟩,w3,⟨t,ux,uy⟩,y⟩from fun j hj hj2 hp=>by
        by_cases e:j=k
        .subst e;rw[hp.1]at hv;cases hv
        .exact Fu.out j hj o_ hp)
       have HV:=Z5 hv;clear hv;go_wp2_with (go_at_call 66;refine(ZE _ _ _ _ _ _ _ _ _ AO hs3).mono ?_;rw[HV.out];rintro e R3 ⟨rfl,hb5⟩;have BP:=pk.below hb5;have Dl:=Zg hbk hb5;have s0:=BP.bx.cells 0 _ rfl;have s1:=BP.bx.cells 1 _ rfl;have s2:=BP.bx.cells 2 _ rfl;have s3:=BP.bx.cells 3 _ rfl;have s4:=BP.bx.cells 4 _ rfl;have s5:=BP.bx.cells 5 _ rfl;have s6:=BP.bx.cells 6 _ rfl;have s7:=BP.bx.cells 7 _ rfl;have sf:=BP.bx.Bf;have sz:=BP.lt);exact⟨⟨k+1,_,s_,o_,o_,IC.out,BP,Dl⟩,by simp only[intOf];omega⟩
      |true =>
       have HV:=Z5 hv;cases he:((YM ⟨x,(k:Int),⟨#[]⟩,w3,⟨t,ux,uy⟩,y⟩).toList == s.toList)with
       |true =>
        have HP:=Z5 (aH ((lD hv).1 he));clear hv;go_wp2_with (first |(go_at_call 66;refine(ZE _ _ _ _ _ _ _ _ _ AO hs3).mono ?_;rw[HV.out];rintro e R3 ⟨rfl,hb5⟩;have BP:=pk.below hb5;have Dl:=Zg hbk hb5;have s0:=BP.bx.cells 0 _ rfl;have s1:=BP.bx.cells 1 _ rfl;have s2:=BP.bx.cells 2 _ rfl;have s3:=BP.bx.cells 3 _ rfl;have s4:=BP.bx.cells 4 _ rfl;have s5:=BP.bx.cells 5 _ rfl;have s6:=BP.bx.cells 6 _ rfl;have s7:=BP.bx.cells 7 _ rfl;have sf:=BP.bx.Bf;have sz:=BP.lt)|(go_at_call 52;refine(YF _ _ _ _ _ _ _ _ _ AO hs3 (aL.out.below Dl).tab).mono ?_;rintro e SS ⟨rfl,hb6⟩;have CP:=BP.below hb6;have Da:=Zg Dl hb6;have t0:=CP.bx.cells 0 _ rfl;have t1:=CP.bx.cells 1 _ rfl;have t2:=CP.bx.cells 2 _ rfl;have t3:=CP.bx.cells 3 _ rfl;have t4:=CP.bx.cells 4 _ rfl;have t5:=CP.bx.cells 5 _ rfl;have t6:=CP.bx.cells 6 _ rfl;have t7:=CP.bx.cells 7 _ rfl;have tf:=CP.bx.Bf;have tz:=CP.lt;have C5:=Ci.below Da;have r0:=C5.bx.cells 0 _ rfl;have r1:=C5.bx.cells 1 _ rfl;have r2:=C5.bx.cells 2 _ rfl;have r3:=C5.bx.cells 3 _ rfl;have r4:=C5.bx.cells 4 _ rfl;have r5:=C5.bx.cells 5 _ rfl;have r6:=C5.bx.cells 6 _ rfl;have r7:=C5.bx.cells 7 _ rfl;have rf:=C5.bx.Bf;have rz:=C5.lt));refine bodyPost_ret (v:=.tuple #[Yx x (k:Int) ⟨#[]⟩ w3 t ux uy y,.bool true]) (by simp[*,results,results82,go_sem]) rfl ⟨by rw[HP.out];rfl,?_⟩;exact b8 (Zg B4 Da) (Zd _) _ _ _ _ _ _ _ _
       |false =>
        have IC:=Z5 (show ∀ j:Nat,1<=j->j<k+1->¬ Ie s ⟨x,j,⟨#[]⟩,w3,⟨t,ux,uy⟩,y⟩from fun j hj hj2 hp=>by
         by_cases e:j=k
         .subst e;rw[(lD hv).2 hp]at he;cases he
         .exact Fu.out j hj o_ hp)
        clear hv;go_wp2_with (first |(go_at_call 66;refine(ZE _ _ _ _ _ _ _ _ _ AO hs3).mono ?_;rw[HV.out];rintro e R3 ⟨rfl,hb5⟩;have BP:=pk.below hb5;have Dl:=Zg hbk hb5;have s0:=BP.bx.cells 0 _ rfl;have s1:=BP.bx.cells 1 _ rfl;have s2:=BP.bx.cells 2 _ rfl;have s3:=BP.bx.cells 3 _ rfl;have s4:=BP.bx.cells 4 _ rfl;have s5:=BP.bx.cells 5 _ rfl;have s6:=BP.bx.cells 6 _ rfl;have s7:=BP.bx.cells 7 _ rfl;have sf:=BP.bx.Bf;have sz:=BP.lt)|(go_at_call 52;refine(YF _ _ _ _ _ _ _ _ _ AO hs3 (aL.out.below Dl).tab).mono ?_;rintro e SS ⟨rfl,hb6⟩;have CP:=BP.below hb6;have Da:=Zg Dl hb6;have t0:=CP.bx.cells 0 _ rfl;have t1:=CP.bx.cells 1 _ rfl;have t2:=CP.bx.cells 2 _ rfl;have t3:=CP.bx.cells 3 _ rfl;have t4:=CP.bx.cells 4 _ rfl;have t5:=CP.bx.cells 5 _ rfl;have t6:=CP.bx.cells 6 _ rfl;have t7:=CP.bx.cells 7 _ rfl;have tf:=CP.bx.Bf;have tz:=CP.lt));exact⟨⟨k+1,_,s_,o_,o_,IC.out,CP,Da⟩,by simp only[intOf];omega⟩
     .obtain rfl:k=5:=by omega
      have HN:=Z5 (IA.out Fu.out);have C5:=Ci.below hbr;have r0:=C5.bx.cells 0 _ rfl;have r1:=C5.bx.cells 1 _ rfl;have r2:=C5.bx.cells 2 _ rfl;have r3:=C5.bx.cells 3 _ rfl;have r4:=C5.bx.cells 4 _ rfl;have r5:=C5.bx.cells 5 _ rfl;have r6:=C5.bx.cells 6 _ rfl;have r7:=C5.bx.cells 7 _ rfl;have rf:=C5.bx.Bf;have rz:=C5.lt;go_wp2_with fail;refine bodyPost_ret (v:=.tuple #[Yx 0 0 ⟨#[]⟩ ⟨#[]⟩ 0 0 0 0,.bool false]) (by simp[*,results,results82,go_sem]) rfl ⟨by rw[HN.out];rfl,?_⟩;exact b8 (Zg B4 hbr) (Zd _) _ _ _ _ _ _ _ _
   .have HN:=Z5 (HX.out hall);have r0:=Ci.bx.cells 0 _ rfl;have r1:=Ci.bx.cells 1 _ rfl;have r2:=Ci.bx.cells 2 _ rfl;have r3:=Ci.bx.cells 3 _ rfl;have r4:=Ci.bx.cells 4 _ rfl;have r5:=Ci.bx.cells 5 _ rfl;have r6:=Ci.bx.cells 6 _ rfl;have r7:=Ci.bx.cells 7 _ rfl;have rf:=Ci.bx.Bf;have rz:=Ci.lt;cases o1<;>cases o4<;>cases o5<;>first |(exact absurd ⟨rfl,rfl,rfl⟩ hall)|(clear hall;go_wp2_with fail;(refine bodyPost_ret (v:=.tuple #[Yx 0 0 ⟨#[]⟩ ⟨#[]⟩ 0 0 0 0,.bool false]) (by simp[*,results,results82,go_sem]) rfl ⟨by rw[HN.out];rfl,?_⟩);exact b8 B4 (Zd _) _ _ _ _ _ _ _ _)
  .obtain⟨w2,h2⟩:=UR (L:=L) (k:=2) o_;have z2:=hws w2 (Z6 h2);clear hws;have c1:=XJ hrow h1;have c2:=XJ hrow h2;have c3:=XJ hrow h3;have c4:=XJ hrow h4;have c5:=XJ hrow h5;simp only[hlen,Nat.reduceSub]at c3 c4 c5;have IA:=Z5 (Z6f (fr:=w2) HL.out h1 h3 h4 h5 ⟨fun _=>h2,fun _=>by omega⟩);have HX:=Z5 (Zal HL.out h1 h4 h5);obtain⟨x,hx⟩:∃ x,x=(Ck w1).getD 0:=⟨_,rfl⟩;obtain⟨p,hp⟩:∃ p,p=(J7 w4).getD ⟨0,0,0⟩:=⟨_,rfl⟩;obtain⟨y,hy⟩:∃ y,y=(Ck w5).getD 0:=⟨_,rfl⟩;rw[<- hx,<- hp,<- hy]at IA;have H1:=Z5 (show OL (Ck w1)=.tuple #[.int .i64 x,.bool (Ck w1).isSome]by rw[hx];exact UQ _);have H4:=Z5 (show kV (J7 w4)=.tuple #[Qv p.turn p.x p.y,.bool (J7 w4).isSome]by rw[hp];exact Zc4 _);have H5:=Z5 (show OL (Ck w5)=.tuple #[.int .i64 y,.bool (Ck w5).isSome]by rw[hy];exact UQ _);obtain⟨t,ux,uy⟩:=p;simp only at H4;generalize (Ck w1).isSome=o1 at *
   generalize (J7 w4).isSome=o4 at *
   generalize (Ck w5).isSome=o5 at *
   have hg1:g<KS.heap.size:=Y6 c1;clear hx hp hy hrow h1 h3 h4 h5 h2;go_wp2_with fail;refine Zb (Yj w1 _ o_ HT1.out) ?_;rintro e SK ⟨rfl,hb2⟩;rw[H1.out];have c3:=Zm hb2 c3;have c4:=Zm hb2 c4;have c5:=Zm hb2 c5;have c2:=Zm hb2 c2;have Cw:=bx1.below hb2;have B2:=Zg B1 hb2;have HT2:=Z5 (HT1.out.below hb2);clear hb2 c1 bx1 B1 H1 HT1;go_wp2_with fail;refine Zb (Z1s w4 _ o_ HT2.out) ?_;rintro e Ej ⟨rfl,hb3⟩;rw[H4.out];have c3:=Zm hb3 c3;have c5:=Zm hb3 c5;have c2:=Zm hb3 c2;have C4:=Cw.below hb3;have B3:=Zg B2 hb3;have HT3:=Z5 (HT2.out.below hb3);have hg3:g<Ej.heap.size:=Y6 c5;have SL:¬ g=Ej.heap.size:=by omega
   clear hb3 c4 Cw B2 H4 HT2;go_wp2_with fail;refine Zb (Yj w5 _ o_ (HT3.out.below (Ze (Below.refl _ _) _))) ?_;rintro e E7 ⟨rfl,hb4⟩;rw[H5.out];have c3:=Zm hb4 (Zm (Ze (Below.refl _ _) _) c3);have c2:=Zm hb4 (Zm (Ze (Below.refl _ _) _) c2);have Ci:=(C4.Aj _).below hb4;have OM:=(Bk.new Ej [.int .i64 t,.int .i64 ux,.int .i64 uy] 33 _ rfl).below hb4;have B4:=Zg (Ze B3 _) hb4;have aL:=Z5 (((HT3.out.below (Ze (Below.refl _ _) _))).below hb4);clear hb4 c5 C4 B3 H5 HT3;have v0:=OM.bx.cells 0 _ rfl;have v1:=OM.bx.cells 1 _ rfl;have v2:=OM.bx.cells 2 _ rfl;have vz:=OM.lt;have SN:¬ g=E7.heap.size:=by have:=Y6 c3;simp only at this;omega
   have hne5:¬ Ej.heap.size=E7.heap.size:=by omega
   have SQ:¬ E7.heap.size=Ej.heap.size:=by omega
   by_cases hall:o1=true/\o4=true/\o5=true
   .obtain⟨rfl,rfl,rfl⟩:=hall;go_wp2_with fail;have wK:=Zm (Ze (Below.refl _ _) (.cells #[.int .i64 0,.int .i64 0,.string ⟨#[]⟩,.string ⟨#[]⟩,.int .i64 0,.int .i64 0,.int .i64 0,.int .i64 0] 35)) c3;have wL:=Zm (Ze (Below.refl _ _) (.cells #[.int .i64 0,.int .i64 0,.string ⟨#[]⟩,.string ⟨#[]⟩,.int .i64 0,.int .i64 0,.int .i64 0,.int .i64 0] 35)) v0;have wM:=Zm (Ze (Below.refl _ _) (.cells #[.int .i64 0,.int .i64 0,.string ⟨#[]⟩,.string ⟨#[]⟩,.int .i64 0,.int .i64 0,.int .i64 0,.int .i64 0] 35)) v1;have wN:=Zm (Ze (Below.refl _ _) (.cells #[.int .i64 0,.int .i64 0,.string ⟨#[]⟩,.string ⟨#[]⟩,.int .i64 0,.int .i64 0,.int .i64 0,.int .i64 0] 35)) v2;go_region;have hbn:=ZY (Ze (Below.refl E7.heap.size E7) (.cells #[.int .i64 x,.int .i64 0,.string ⟨#[]⟩,.string w3,.int .i64 t,.int .i64 ux,.int .i64 uy,.int .i64 y] 35));have F9:Bk _ E7.heap.size 35 [.int .i64 x,.int .i64 0,.string ⟨#[]⟩,.string w3,.int .i64 t,.int .i64 ux,.int .i64 uy,.int .i64 y]:=(Bk.new E7 [.int .i64 x,.int .i64 0,.string ⟨#[]⟩,.string w3,.int .i64 t,.int .i64 ux,.int .i64 uy,.int .i64 y] 35 _ rfl).below (ZY (Below.refl _ _));have c2b:=Zm hbn c2;have q0:=F9.bx.cells 0 _ rfl;have q1:=F9.bx.cells 1 _ rfl;have q2:=F9.bx.cells 2 _ rfl;have q3:=F9.bx.cells 3 _ rfl;have q4:=F9.bx.cells 4 _ rfl;have q5:=F9.bx.cells 5 _ rfl;have q6:=F9.bx.cells 6 _ rfl;have q7:=F9.bx.cells 7 _ rfl;have qf:=F9.bx.Bf;have qz:=F9.lt;go_wp2_with fail;have aM:Bk _ E7.heap.size 35 [.int .i64 x,.int .i64 0,.string w2,.string w3,.int .i64 t,.int .i64 ux,.int .i64 uy,.int .i64 y]:=(Bk.new E7 [.int .i64 x,.int .i64 0,.string w2,.string w3,.int .i64 t,.int .i64 ux,.int .i64 uy,.int .i64 y] 35 _ rfl).below (ZY (Below.refl _ _));have MG:=ZY (Ze (Below.refl E7.heap.size E7) (.cells #[.int .i64 x,.int .i64 0,.string w2,.string w3,.int .i64 t,.int .i64 ux,.int .i64 uy,.int .i64 y] 35));clear F9 hbn wK wL wM wN v0 v1 v2 vz c3 SN hne5 SQ SL hg3 hg1 q0 q1 q2 q3 q4 q5 q6 q7 qf qz c2 c2b;go_loopw [13] (fun kv wr=>∃ (k:Nat) (kk:Int),kv=.int .i64 (k:Int)/\1<=k/\k<=5/\(∀ j:Nat,1<=j->j<k->¬ Ie s ⟨x,j,w2,w3,⟨t,ux,uy⟩,y⟩)/\Bk wr E7.heap.size 35 [.int .i64 x,.int .i64 kk,.string w2,.string w3,.int .i64 t,.int .i64 ux,.int .i64 uy,.int .i64 y]/\Below E7.heap.size E7 wr) (fun kv _=>5-(intOf kv).toNat)
    case atStart=>exact⟨1,0,rfl,o_,o_,fun j hj hj2=>by omega,aM,MG⟩
    case round =>
     obtain⟨k,kk,rfl,hk1,hk,hno,px,hbr⟩:=hrel;have Fu:=Z5 hno;clear hno aM MG;have hs3:w3.size<=4194304:=by omega
     have hs2:w2.size<=4194304:=by omega
     have q0:=px.bx.cells 0 _ rfl;have q1:=px.bx.cells 1 _ rfl;have q2:=px.bx.cells 2 _ rfl;have q3:=px.bx.cells 3 _ rfl;have q4:=px.bx.cells 4 _ rfl;have q5:=px.bx.cells 5 _ rfl;have q6:=px.bx.cells 6 _ rfl;have q7:=px.bx.cells 7 _ rfl;have qf:=px.bx.Bf;have qz:=px.lt;by_cases hlt:k<5
     .have hkl:(k:Int)<=4:=by omega
      have pk:Bk (wr.setCell ⟨E7.heap.size,1,none⟩ (.int .i64 (k:Int))) E7.heap.size 35 [.int .i64 x,.int .i64 (k:Int),.string w2,.string w3,.int .i64 t,.int .i64 ux,.int .i64 uy,.int .i64 y]:=by simpa using px.set 1 (.int .i64 (k:Int))
      have hbk:=Dp hbr (p:=⟨E7.heap.size,1,none⟩) (Zd _) (.int .i64 (k:Int));cases hv:Zy ⟨x,(k:Int),w2,w3,⟨t,ux,uy⟩,y⟩with
      |false =>
       have IC:=Z5 (show ∀ j:Nat,1<=j->j<k+1->¬ Ie s ⟨x,j,w2,w3,⟨t,ux,uy⟩,y⟩from fun j hj hj2 hp=>by
        by_cases e:j=k
        .subst e;rw[hp.1]at hv;cases hv
        .exact Fu.out j hj o_ hp)
       have HV:=Z5 hv;clear hv;go_wp2_with (go_at_call 66;refine(ZE _ _ _ _ _ _ _ _ _ hs2 hs3).mono ?_;rw[HV.out];rintro e R3 ⟨rfl,hb5⟩;have BP:=pk.below hb5;have Dl:=Zg hbk hb5;have s0:=BP.bx.cells 0 _ rfl;have s1:=BP.bx.cells 1 _ rfl;have s2:=BP.bx.cells 2 _ rfl;have s3:=BP.bx.cells 3 _ rfl;have s4:=BP.bx.cells 4 _ rfl;have s5:=BP.bx.cells 5 _ rfl;have s6:=BP.bx.cells 6 _ rfl;have s7:=BP.bx.cells 7 _ rfl;have sf:=BP.bx.Bf;have sz:=BP.lt);exact⟨⟨k+1,_,s_,o_,o_,IC.out,BP,Dl⟩,by simp only[intOf];omega⟩
      |true =>
       have HV:=Z5 hv;cases he:((YM ⟨x,(k:Int),w2,w3,⟨t,ux,uy⟩,y⟩).toList == s.toList)with
       |true =>
        have HP:=Z5 (aH ((lD hv).1 he));clear hv;go_wp2_with (first |(go_at_call 66;refine(ZE _ _ _ _ _ _ _ _ _ hs2 hs3).mono ?_;rw[HV.out];rintro e R3 ⟨rfl,hb5⟩;have BP:=pk.below hb5;have Dl:=Zg hbk hb5;have s0:=BP.bx.cells 0 _ rfl;have s1:=BP.bx.cells 1 _ rfl;have s2:=BP.bx.cells 2 _ rfl;have s3:=BP.bx.cells 3 _ rfl;have s4:=BP.bx.cells 4 _ rfl;have s5:=BP.bx.cells 5 _ rfl;have s6:=BP.bx.cells 6 _ rfl;have s7:=BP.bx.cells 7 _ rfl;have sf:=BP.bx.Bf;have sz:=BP.lt)|(go_at_call 52;refine(YF _ _ _ _ _ _ _ _ _ hs2 hs3 (aL.out.below Dl).tab).mono ?_;rintro e SS ⟨rfl,hb6⟩;have CP:=BP.below hb6;have Da:=Zg Dl hb6;have t0:=CP.bx.cells 0 _ rfl;have t1:=CP.bx.cells 1 _ rfl;have t2:=CP.bx.cells 2 _ rfl;have t3:=CP.bx.cells 3 _ rfl;have t4:=CP.bx.cells 4 _ rfl;have t5:=CP.bx.cells 5 _ rfl;have t6:=CP.bx.cells 6 _ rfl;have t7:=CP.bx.cells 7 _ rfl;have tf:=CP.bx.Bf;have tz:=CP.lt;have C5:=Ci.below Da;have r0:=C5.bx.cells 0 _ rfl;have r1:=C5.bx.cells 1 _ rfl;have r2:=C5.bx.cells 2 _ rfl;have r3:=C5.bx.cells 3 _ rfl;have r4:=C5.bx.cells 4 _ rfl;have r5:=C5.bx.cells 5 _ rfl;have r6:=C5.bx.cells 6 _ rfl;have r7:=C5.bx.cells 7 _ rfl;have rf:=C5.bx.Bf;have rz:=C5.lt));refine bodyPost_ret (v:=.tuple #[Yx x (k:Int) w2 w3 t ux uy y,.bool true]) (by simp[*,results,results82,go_sem]) rfl ⟨by rw[HP.out];rfl,?_⟩;exact b8 (Zg B4 Da) (Zd _) _ _ _ _ _ _ _ _
       |false =>
        have IC:=Z5 (show ∀ j:Nat,1<=j->j<k+1->¬ Ie s ⟨x,j,w2,w3,⟨t,ux,uy⟩,y⟩from fun j hj hj2 hp=>by
         by_cases e:j=k
         .subst e;rw[(lD hv).2 hp]at he;cases he
         .exact Fu.out j hj o_ hp)
        clear hv;go_wp2_with (first |(go_at_call 66;refine(ZE _ _ _ _ _ _ _ _ _ hs2 hs3).mono ?_;rw[HV.out];rintro e R3 ⟨rfl,hb5⟩;have BP:=pk.below hb5;have Dl:=Zg hbk hb5;have s0:=BP.bx.cells 0 _ rfl;have s1:=BP.bx.cells 1 _ rfl;have s2:=BP.bx.cells 2 _ rfl;have s3:=BP.bx.cells 3 _ rfl;have s4:=BP.bx.cells 4 _ rfl;have s5:=BP.bx.cells 5 _ rfl;have s6:=BP.bx.cells 6 _ rfl;have s7:=BP.bx.cells 7 _ rfl;have sf:=BP.bx.Bf;have sz:=BP.lt)|(go_at_call 52;refine(YF _ _ _ _ _ _ _ _ _ hs2 hs3 (aL.out.below Dl).tab).mono ?_;rintro e SS ⟨rfl,hb6⟩;have CP:=BP.below hb6;have Da:=Zg Dl hb6;have t0:=CP.bx.cells 0 _ rfl;have t1:=CP.bx.cells 1 _ rfl;have t2:=CP.bx.cells 2 _ rfl;have t3:=CP.bx.cells 3 _ rfl;have t4:=CP.bx.cells 4 _ rfl;have t5:=CP.bx.cells 5 _ rfl;have t6:=CP.bx.cells 6 _ rfl;have t7:=CP.bx.cells 7 _ rfl;have tf:=CP.bx.Bf;have tz:=CP.lt));exact⟨⟨k+1,_,s_,o_,o_,IC.out,CP,Da⟩,by simp only[intOf];omega⟩
     .obtain rfl:k=5:=by omega
      have HN:=Z5 (IA.out Fu.out);have C5:=Ci.below hbr;have r0:=C5.bx.cells 0 _ rfl;have r1:=C5.bx.cells 1 _ rfl;have r2:=C5.bx.cells 2 _ rfl;have r3:=C5.bx.cells 3 _ rfl;have r4:=C5.bx.cells 4 _ rfl;have r5:=C5.bx.cells 5 _ rfl;have r6:=C5.bx.cells 6 _ rfl;have r7:=C5.bx.cells 7 _ rfl;have rf:=C5.bx.Bf;have rz:=C5.lt;go_wp2_with fail;refine bodyPost_ret (v:=.tuple #[Yx 0 0 ⟨#[]⟩ ⟨#[]⟩ 0 0 0 0,.bool false]) (by simp[*,results,results82,go_sem]) rfl ⟨by rw[HN.out];rfl,?_⟩;exact b8 (Zg B4 hbr) (Zd _) _ _ _ _ _ _ _ _
   .have HN:=Z5 (HX.out hall);have r0:=Ci.bx.cells 0 _ rfl;have r1:=Ci.bx.cells 1 _ rfl;have r2:=Ci.bx.cells 2 _ rfl;have r3:=Ci.bx.cells 3 _ rfl;have r4:=Ci.bx.cells 4 _ rfl;have r5:=Ci.bx.cells 5 _ rfl;have r6:=Ci.bx.cells 6 _ rfl;have r7:=Ci.bx.cells 7 _ rfl;have rf:=Ci.bx.Bf;have rz:=Ci.lt;cases o1<;>cases o4<;>cases o5<;>first |(exact absurd ⟨rfl,rfl,rfl⟩ hall)|(clear hall;go_wp2_with fail;(refine bodyPost_ret (v:=.tuple #[Yx 0 0 ⟨#[]⟩ ⟨#[]⟩ 0 0 0 0,.bool false]) (by simp[*,results,results82,go_sem]) rfl ⟨by rw[HN.out];rfl,?_⟩);exact b8 B4 (Zd _) _ _ _ _ _ _ _ _)
 .have HN:=Z5 (Zdc HL.out o_ o_);have hl5:¬(n:Int)=5:=by omega
  have hl6:¬(n:Int)=6:=by omega
  have Z6o:((n:Int) != 5)=true:=by simp only[bne_iff_ne,ne_eq];omega
  have Z6p:((n:Int) != 6)=true:=by simp only[bne_iff_ne,ne_eq];omega
  have r0:=bx1.bx.cells 0 _ rfl;have r1:=bx1.bx.cells 1 _ rfl;have r2:=bx1.bx.cells 2 _ rfl;have r3:=bx1.bx.cells 3 _ rfl;have r4:=bx1.bx.cells 4 _ rfl;have r5:=bx1.bx.cells 5 _ rfl;have r6:=bx1.bx.cells 6 _ rfl;have r7:=bx1.bx.cells 7 _ rfl;have rf:=bx1.bx.Bf;have rz:=bx1.lt;go_wp2_with fail;refine bodyPost_ret (v:=.tuple #[Yx 0 0 ⟨#[]⟩ ⟨#[]⟩ 0 0 0 0,.bool false]) (by simp[*,results,results82,go_sem]) rfl ⟨by rw[HN.out];rfl,?_⟩;exact b8 B1 (Zd _) _ _ _ _ _ _ _ _
theorem Zg6(h:Zy f=true):(EG f).length<=116:=by
 obtain⟨p1,p2,p3,p4,p5,p6,p7⟩:=Q1 h;have h1:=ZjG f.kind;have h2:=VQ p1 o_ o_;have h3:=VQ p2 o_ o_;have h4:=Zft p3;have h5:f.Z00.data.toList.length<=8:=by rw[Array.length_toList];rcases p7 with h|h<;>exact Jq h
 have h6:(LJ f.kind f.AL).length<=9:=by
  unfold LJ;split
  .decide
  .rename_i hk;have:=Jq (p6 hk);have e:f.AL.data.toList.length<=8:=by rw[Array.length_toList];exact this
   simp only[Zq,Zt,List.length_nil];omega
 simp only[EG,Zq,Zt];omega
theorem XU(f:A7):(YM f).size<=116:=by
 unfold YM;split
 .rename_i h;rw[Sb];exact Zg6 h
 .decide
theorem JR(h:Zy f=true):(YM f).data.toList=EG f:=by simp[YM,h]
theorem Zmw{e:Entry}(h:Yc e=true):(Ff e).length<=120:=by
 unfold Yc at h;unfold Ff;split at h
 .rename_i hr;simp only[Zc]at h;have:=VQ h.1 o_ o_;rw[if_pos hr];simp only[Zq,Zt,List.length_nil];omega
 .rename_i hr;simp only[Zc]at h;have:=Zg6 h.2;rw[if_neg hr];simp only[Zq,Zt,List.length_nil];omega
theorem wO(e:Entry)(p:Int):0<=YH e p/\YH e p<=65520:=iJ _
theorem Zkr{e:Entry}(h:Yc e=true)(p:Int):(XP e p).size<=144:=by
 have h1:=Zmw h;have h2:=wO e p;have h3:=Lib.itoa_length_le (YH e p) o_ o_;unfold XP;rw[Sb];simp only[Zq,Zt,List.length_nil];omega
theorem Zkp{e:Entry}{p n:Int}{s a0 a1 b0 b1 b2:ByteArray}(hs:s.data.toList=Ff e)(h0:Ya p++⟨#[32]⟩=a0)(h1:a0++s=a1)(hn:LD a1=n)(h2:s++⟨#[32,35]⟩=b0)(h3:b0++Ya n=b1)(h4:b1++⟨#[10]⟩=b2):
  b2=XP e p/\n=YH e p:=by
 have hN:n=YH e p:=by
  rw[<- hn,YH];congr 1;rw[<- h1,<- h0];apply Dh;simp[Ya,ByteArray.data_append,hs]
 refine⟨?_,hN⟩;rw[<- h4,<- h3,<- h2,hN];apply Dh;simp[Ya,ByteArray.data_append,hs,XP]
def Qr(b:Br):ByteArray:=if Yg b.AU b.Ab then KC b.AU b.Ab else ⟨#[]⟩
def DN(r:Int)(l:List A7)(k:Nat)(s:ByteArray):Prop:=s.data.toList++LK (l.drop k)=(KC r l).data.toList
theorem DN.next{r:Int}{k:Nat}{s u:ByteArray}(h:DN r l k s)(hf:Hid (l[k]? = some f))(hv:Zy f=true)(hu:u.data.toList=s.data.toList++59 ::(YM f).data.toList):DN r l (k+1) u:=by
 unfold DN at *
 rw[<- h,QP hf,hu,JR hv];simp[LK]
theorem DN.done{r:Int}{k n:Nat}{s:ByteArray}(h:DN r l k s)(hl:Hid (l.length=n))(hk:¬ k<n):s=KC r l:=by
 unfold DN at h;rw[QK hl hk]at h;apply Dh;simpa [LK]using h
theorem Zgc{r:Int}:∀ {l:List A7} {p:Option Int},Ka r l p=true->∀ f∈l,Zy f=true
 |[],_,_,f,hf=>by cases hf
 |g::l,p,h,f,hf=>by
  simp only[Ka,Zc]at h
  rcases Zn.1 hf with rfl|hf
  .exact h.1
  .exact Zgc h.2.2.2 f hf
theorem YT{r:Int}(h:Yg r l=true):0<=r/\r<=2/\l.length<=4/\∀ f∈l,Zy f=true:=by
 simp only[Yg,Zc]at h;obtain⟨h1,h2,h3⟩:=h;have:=Y8.1 h1;have:=Y8.1 h2;exact⟨o_,o_,o_,Zgc h3⟩
def SV(c:UInt8):List (List UInt8)->List UInt8
 |[]=>[]
 |[a]=>a
 |a::b::l=>a++c::SV c (b::l)
theorem Zad(c:UInt8)(a:List UInt8){l:List (List UInt8)}(h:l≠[]):SV c (a::l)=a++c::SV c l:=by
 cases l with
 |nil=>exact absurd rfl h
 |cons b l=>rfl
theorem wP(c:UInt8):∀ (l cur:List UInt8),SV c (Yq (Cc c) cur l)=cur++l
 |[],cur=>by simp[Yq,SV]
 |b::l,cur=>by
  rw[Yq]
  split
  .rename_i hb
   have hb:b=c:=by simpa [Cc]using hb
   rw[Zad _ _ (vX _ _ _),wP c l [],hb]
   rfl
  .rw[wP c l (cur++[b])]
   simp
theorem Zac(c:UInt8):∀ (T:List (List UInt8)) (a:List UInt8),SV c (a::T)=a++T.flatMap (fun x=>c::x)
 |[],a=>by simp[SV]
 |b::T,a=>by
  rw[Zad _ _ s_,Zac c T b]
  simp
theorem ZnN(h:Zy f=true){c:UInt8}(hc:c=59∨c=10∨c=35):∀ b∈EG f,Cc c b=false:=by
 obtain⟨h1,h2,h3,h4,h5,h6,h7⟩:=Q1 h;have hc':c=44∨c=32∨c=59∨c=10∨c=35:=.inr (.inr hc);have h32:Cc c 32=false:=by rcases hc with rfl|rfl|rfl<;>decide
 intro b hb;unfold EG at hb;simp only[Z9,Zn]at hb;rcases hb with hb|rfl|hb|rfl|hb|hb|rfl|hb|rfl|hb
 .exact KQ hc' (ZjF _ _ hb)
 .exact h32
 .exact KQ hc' (JM _ _ hb)
 .exact h32
 .unfold LJ at hb;split at hb
  .simp at hb
  .rename_i hk;simp only[Z9,Zn,List.not_mem_nil,or_false]at hb;rcases hb with hb|rfl
   .exact KQ hc' (kP (h6 hk) _ hb)
   .exact h32
 .exact KQ hc' (Zqi h _ hb)
 .exact h32
 .exact ZcE h3 (.inr hc) _ hb
 .exact h32
 .exact KQ hc' (JM _ _ hb)
theorem Zak:∀ (l:List A7) (w:List UInt8),(∀ b∈w,Cc 59 b=false)->(∀ f∈l,Zy f=true)->Yq (Cc 59) [] (w++LK l)=w::l.map EG
 |[],w,hw,_=>by
  show Yq (Cc 59) [] (w++[])= _
  rw[List.append_nil,kK _ _ hw];rfl
 |f::l,w,hw,hl=>by
  show Yq (Cc 59) [] (w++59 ::(EG f++LK l))= _
  rw[Qw (PZ 59) _ _ _ hw,Zak l (EG f) (ZnN (hl f s_) s_) (fun g hg=>hl g (by simp[hg]))]
  rfl
theorem Zdb:∀ l:List A7,LK l=(l.map EG).flatMap (fun x=>59::x)
 |[]=>rfl
 |f::l=>by
  show 59 ::(EG f++LK l)= _
  rw[Zdb l];simp
def Xa:List UInt8:=[98,117,110,100,108,101,32]
def SX(s:ByteArray)(b:Br):Prop:=Yg b.AU b.Ab=true/\KC b.AU b.Ab=s
theorem vQ(r:Int)(l:List A7):(KC r l).data.toList=(Xa++ZV r)++LK l:=by
 unfold KC Xa;simp
theorem Zpf(r:Int):∀ b∈Xa++ZV r,Cc 59 b=false:=by
 intro b hb;rcases Z9.1 hb with hb|hb
 .have:∀ b∈Xa,Cc 59 b=false:=by decide
  exact this b hb
 .exact KQ s_ (JM _ _ hb)
theorem Zm5{α:Type}{T:List ByteArray}{l:List α}{p:ByteArray->Option α}{t:α->List UInt8}(hT:T.map (fun x=>x.data.toList)=l.map t)(hp:∀ a∈l,∀ x:ByteArray,x.data.toList=t a->p x=some a):T.map p=l.map some:=by
 induction T generalizing l with
 |nil=>cases l with
  |nil=>rfl
  |cons a l=>cases hT
 |cons x T ih=>cases l with
  |nil=>cases hT
  |cons a l =>
   simp only[List.map_cons,List.cons.injEq]at hT ⊢;exact⟨hp a s_ x hT.1,ih hT.2 fun b hb=>hp b (by simp[hb])⟩
theorem aN{s:ByteArray}{b:Br}{L:List ByteArray}(h:SX s b)(hL:L.map (fun x=>x.data.toList)=Yq (Cc 59) [] s.data.toList):
  ∃ w0 T,L=w0::T/\w0.data.toList=Xa++ZV b.AU/\T.map Jf=b.Ab.map some:=by
 obtain⟨_,_,_,hv⟩:=YT h.1;rw[<- h.2,vQ,Zak _ _ (Zpf _) hv]at hL;cases L with
 |nil=>cases hL
 |cons w0 T =>
  simp only[List.map_cons,List.cons.injEq]at hL;exact⟨w0,T,rfl,hL.1,Zm5 hL.2 fun f hf x hx=>aH ⟨hv f hf,hx.symm⟩⟩
theorem Zm4{α:Type}{T:List ByteArray}{l:List α}{p:ByteArray->Option α}{t:α->List UInt8}(hT:T.map p=l.map some)(hp:∀ a x,p x=some a->t a=x.data.toList):T.map (fun x=>x.data.toList)=l.map t:=by
 induction T generalizing l with
 |nil=>cases l with
  |nil=>rfl
  |cons a l=>cases hT
 |cons x T ih=>cases l with
  |nil=>cases hT
  |cons a l =>
   simp only[List.map_cons,List.cons.injEq]at hT ⊢;exact⟨(hp a x hT.1).symm,ih hT.2⟩
theorem ZrC{s w0:ByteArray}{T:List ByteArray}{r:Int}(hL:(w0::T).map (fun x=>x.data.toList)=Yq (Cc 59) [] s.data.toList)(h0:w0.data.toList=Xa++ZV r)(hT:T.map Jf=l.map some):KC r l=s:=by
 apply Dh;have hj:=wP 59 s.data.toList [];have hT':=Zm4 (t:=EG) hT fun a x h=>(kQ h).2
 rw[<- hL,List.map_cons,h0,hT',Zac,List.nil_append,<- Zdb]at hj;rw[vQ,hj]
theorem Z68{α:Type}{l m:List α}(h:l.map some=m.map some):l=m:=by
 have:=congrArg (List.filterMap id) h;simpa using this
theorem ZpI{s:ByteArray}{b c:Br}(h:SX s b)(k:SX s c):b=c:=by
 obtain⟨L,hL⟩:=wB s 59;obtain⟨w0,T,rfl,h0,hT⟩:=aN h hL;obtain⟨v0,U,e,k0,kT⟩:=aN k hL;simp only[List.cons.injEq]at e;obtain⟨rfl,rfl⟩:=e;rw[hT]at kT;have hl:=Z68 kT;have hr:ZV b.AU=ZV c.AU:=List.append_cancel_left (h0.symm.trans k0);have r1:=YT h.1;have r2:=YT k.1;have hr:=vW o_ o_ o_ o_ hr;obtain⟨br,bl⟩:=b;obtain⟨cr,cl⟩:=c;simp only at hl hr;rw[hl,hr]
noncomputable def KH(s:ByteArray):Option Br:=the (SX s)
theorem Z9W{s:ByteArray}{p:Br}(h:SX s p):KH s=some p:=kM (fun q hq=>ZpI hq h) h
theorem wQ{s:ByteArray}(h:∀ p,¬ SX s p):KH s=none:=kN h
theorem Z9V{s:ByteArray}{p:Br}(h:KH s=some p):SX s p:=vZ h
end Go.Proofs.YtcnbphnnfmphlaaGreatDoor
