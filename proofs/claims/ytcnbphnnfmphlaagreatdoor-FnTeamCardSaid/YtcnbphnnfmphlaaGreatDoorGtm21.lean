/- Texts of this proof. -/
import Derived.Test.YtcnbphnnfmphlaaGreatDoorGtm11
import Derived.Test.YtcnbphnnfmphlaaGreatDoorGtm19
import Derived.Test.YtcnbphnnfmphlaaGreatDoorGtm23
namespace Go.Proofs.YtcnbphnnfmphlaaGreatDoor
open Bool renaming and_eq_true → Zc
open Go.Calls renaming mono → Zb
open Go.Lib renaming hid → Z5
open List renaming getElem?_eq_getElem → Z4,mem_of_getElem? → Z6,mem_append → Z9,getElem?_eq_some_iff → Za,mem_singleton → Zh,mem_cons → Zn,length_map → Zo,take_of_length_le → Zp,length_cons → Zt,all_eq_true → Zu,mem_of_mem_drop → ZG,mem_of_mem_take → ZT,mem_or_eq_of_mem_set → ZW
open Nat renaming le_refl → Zd,lt_of_lt_of_le → Zf,le_trans → Zj,zero_le → Zs
open Option.some renaming inj → Z7,injEq → Zi
open Go.Proofs.Tryz
open Go.RowKit
set_option linter.unusedVariables false
set_option linter.unusedSimpArgs false
set_option maxHeartbeats 4000000
set_option maxRecDepth 100000
variable{c':Chan}{f:A7}{got want:List ByteArray}{L1 L2 fs:List A7}{gs:List Nat}{l:List Ae}{B j m':Nat}{p:Ae}{v':Sv}{u:Value}{X w':World}
theorem Z3J(v:Sv)(b:Br)(w:World)(hm:qV b<=4194304)(hok:okB b)(hr:Og w v b)(hT:Ct w):
  Calls prog 27 #[Xn b.AU v.A v.n v.c] w fun e w'=>e=.returned (.string (Qr b))/\Below w.heap.size w w':=by
 have HT:=Z5 hT;clear hT;have hB0:Below w.heap.size w (w.alloc (.cells #[.int .i64 b.AU,.slice v.A v.n v.c] 73)):=Ze (Below.refl _ _) _;have rdb:=EQ.below hr hB0;have lJ:=Z5 (Z2O v b (w.alloc (.cells #[.int .i64 b.AU,.slice v.A v.n v.c] 73)) hm hok rdb);clear rdb hB0;cases hbv:Yg b.AU b.Ab
 .have hfin:Hid (Qr b=⟨#[]⟩):=by simp[Hid,Qr,hbv]
  have HB:=Z5 hbv;clear hbv;go_enter func27,ntmps27;go_wp2_with (go_at_call 50;refine(lJ.out).mono ?_;rw[HB.out];rintro e w1 ⟨rfl,hb1⟩);go_ret;exact⟨by rw[hfin.out];rfl,Zg (Ze (Below.refl _ _) _) hb1⟩
 .have hfin:Hid (Qr b=KC b.AU b.Ab):=by simp[Hid,Qr,hbv]
  have HB:=Z5 hbv;obtain⟨r0,r1,h4,hall⟩:=YT hbv;have hsz:=iW hm;have hl:Hid (b.Ab.length=v.n):=EQ.len hr;have hn:v.n<=4:=by have:=hl.out;omega
  have hrow:Cy w v.A v.n b.Ab:=hr;obtain⟨A,n,c⟩:=v;obtain⟨R,l⟩:=b;dsimp only at hl hn hrow r0 r1 hall hsz HB lJ;obtain⟨s0,e0,z0,c0⟩:=cat ⟨#[98,117,110,100,108,101,32]⟩ (Ya R) 7 21 AO (Y7 o_ o_) o_
  have hst:DN R l 0 s0:=by
   unfold DN;rw[<- e0.out];simp[KC,Ya,ByteArray.data_append]
  have HST:=Z5 hst;clear hr hm hok hbv hst h4;go_enter func27,ntmps27
  go_wp2_with (first
   |(go_at_call 50;refine(lJ.out).mono ?_;rw[HB.out];rintro e w1 ⟨rfl,hb1⟩;have k1:=JT hb1 w.heap.size s_;have hz1:=LC hb1;have B1:Below w.heap.size w w1:=Zg (Ze (Below.refl _ _) _) hb1)
   |(go_at_call 51;refine(ZP _ _ o_ o_ (HT.out.below (by first|with_reducible assumption|exact Ze (by with_reducible assumption) _))).mono ?_;rintro e w2 ⟨rfl,hb2⟩;have k2:=JT hb2 w.heap.size o_;have hz2:w.heap.size+1<=w2.heap.size:=(by have:=hb2.size;omega);have B2:Below w.heap.size w w2:=Zg (by with_reducible assumption) hb2))
  clear lJ k1 hb1 hz1 B1;go_loopw [3,16] (fun s i wr=>∃ (k:Nat) (t:ByteArray),k<=n/\i=.int .i64 k/\s=.string t/\DN R l k t/\t.size<=28+117*k/\Below w.heap.size w wr) (fun _ i _=>n-(intOf i).toNat)
  case atStart=>exact⟨0,_,o_,rfl,rfl,HST.out,o_,B2⟩
  case round =>
   obtain⟨k,s,hk,rfl,rfl,hi,hz,hb⟩:=hrel;by_cases hlt:k<n
   .obtain⟨f,g,off,hf,rfl,g0,g1,g2,g3,g4,g5,g6,g7⟩:=Cy.at_ (hrow.below hb) hlt;have aS:=Z5 (hsz f (Z6 hf.out));have hz0:=XU f;have lK:=hall f (Z6 hf.out);generalize hF:YM f=F at hz0;have HF:Hid (YM ⟨f.id,f.kind,f.AL,f.Z00,⟨f.Af.turn,f.Af.x,f.Af.y⟩,f.Ao⟩=F):=hF;have HZ:=Z5 hz0;obtain⟨u0,e0,z0,c0⟩:=cat ⟨#[59]⟩ F 1 116 AO HZ.out o_;obtain⟨u1,e1,z1,c1⟩:=cat s u0 (28+117*k) 117 hz z0 o_;have hnx:DN R l (k+1) u1:=hi.next hf lK (by rw[hF,<- e1.out,<- e0.out];simp[ByteArray.data_append]);have HI:=Z5 hnx;clear hF hi hnx hz0 lK;go_wp2_with (go_at_call 52;refine(YF _ _ _ _ _ _ _ _ _ aS.out.1 aS.out.2 (HT.out.below (by first|with_reducible assumption|exact Ze (by with_reducible assumption) _))).mono ?_;rw[HF.out];rintro e w1 ⟨rfl,hb1⟩);exact⟨⟨k+1,u1,o_,s_,rfl,HI.out,o_,Zg (by first|with_reducible assumption|exact Ze (by with_reducible assumption) _) hb1⟩,by simp only[intOf];omega⟩
   .have hd:=hi.done hl hlt;have HD:=Z5 hd;clear hd hi;go_wp2;go_ret;exact⟨by rw[hfin.out,<- HD.out];rfl,hb⟩
def YX(Cr:Bool)(n:Int)(t:ByteArray):Ae:=⟨Cr,n,t,Xd n t Cr⟩
def KT(p:Ae):Bool:=p.sum == Xd p.number p.text p.Cr
def Es(l:List Ae)(p:Ae):List Ae:=if 12<=l.length then l else l++[p]
def XD(l:List Ae)(k:Nat):List Ae:=l.take k++l.drop (k+1)
def FO:List ByteArray->Int->List Ae->List Ae
 |[],_,net=>net
 |s::q,n,net=>FO q (n+1) (Es net (YX false n s))
def Qj(c:Chan):Chan:={ c with net:=FO (c.queue.take 3) c.base c.net }
def CU(c:Chan)(p:Ae):Chan :=
  if KT p=true/\p.Cr=false then
    (if p.number=c.expected then { c with inbox:=c.inbox++[p.text],expected:=c.expected+1,Ai:=Es c.Ai (YX true (c.expected+1) ⟨#[]⟩)}
     else { c with Ai:=Es c.Ai (YX true c.expected ⟨#[]⟩)})
  else c
def DD(c:Chan)(p:Ae):Chan :=
 if KT p=true/\p.Cr=true/\c.base<p.number/\p.number<=c.base+c.queue.length then { c with queue:=c.queue.drop (p.number-c.base).toNat,base:=p.number }else c
def T9(l:List Ae)(k:Nat):List Ae:=match l[k]? with|some p=>l.set k { p with sum:=IntKind.i64.wrap (p.sum+1)}| none=>l
def Eb(c:Chan)(move:Int)(k:Nat):Chan :=
 match c.net[k]? with
 |none=>c
 |some p =>
  if move=4 then { c with net:=Es c.net p }
  else if move=5 then { c with net:=T9 c.net k }
  else if move=3 then { c with net:=XD c.net k }
  else CU { c with net:=XD c.net k } p
def FP(c:Chan)(move:Int)(k:Nat):Chan :=
 match c.Ai[k]? with
 |none=>c
 |some p=>if move=6 then DD { c with Ai:=XD c.Ai k } p else { c with Ai:=XD c.Ai k }
def Di(at_:Int)(n:Nat):Nat:=(at_ % (n:Int)).toNat
def Yv(c:Chan)(move at_:Int):Chan :=
 if move=1 then Qj c
 else if 2<=move/\move<=5 then (if c.net=[]then c else Eb c move (Di at_ c.net.length))
 else if 6<=move/\move<=7 then (if c.Ai=[]then c else FP c move (Di at_ c.Ai.length))
 else c
def Xp(c:Chan)(move at_:Int):Chan:=if YQ c=true then Yv c move at_ else c
def Qm:List Ae->Chan->Chan
 |[],c=>c
 |p::l,c=>Qm l (CU { c with net:=l } p)
def QQ:List Ae->Chan->Chan
 |[],c=>c
 |p::l,c=>QQ l (DD { c with Ai:=l } p)
def FQ(c:Chan):Chan :=
 let d:=Qj c
 let e:=Qm d.net d
 QQ e.Ai e
def Jl:Nat->Chan->Chan
 |0,c=>c
 |n+1,c=>Jl n (FQ c)
def Qd(c:Chan):Chan:=if YQ c=true then Jl 9 c else c
def Zql(c:Chan):Chan:={ c with inbox:=[]}
def lL(c:Chan)(s:ByteArray):Chan:={ c with queue:=c.queue++[s]}

theorem OO{a:Int}{n:Nat}(h:0<n):Di a n<n:=by
 have h1:=Int.emod_nonneg a (show(n:Int)≠0 by omega);have h2:=Int.emod_lt_of_pos a (show(0:Int)< n by omega);unfold Di;omega
theorem Rb(h:l.length<=12):(Es l p).length<=12:=by
 unfold Es;split
 .exact h
 .simp;omega
theorem Xq{P:Ae->Prop}(h:∀ x∈l,P x)(hp:P p):∀ x∈Es l p,P x:=by
 unfold Es;split
 .exact h
 .intro x hx;rcases Z9.1 hx with hx|hx
  .exact h x hx
  .simp at hx;subst hx;exact hp
theorem Ja{P:Ae->Prop}{k:Nat}(h:∀ x∈l,P x):∀ x∈XD l k,P x:=by
 intro x hx;rcases Z9.1 hx with hx|hx
 .exact h x (ZT hx)
 .exact h x (ZG hx)
theorem UU{k:Nat}(h:l.length<=12):(XD l k).length<=12:=by unfold XD;simp;omega
theorem xD(p:Ae)(l:List Ae):XD (p::l) 0=l:=by simp[XD]

def CY(want:List ByteArray)(m:Nat)(p:Ae):Prop:=p.Cr=false/\∃ i:Nat,want[i]? = some p.text/\p.number=i/\∃ j:Nat,j<=m/\p.sum=Xd p.number p.text p.Cr+j
def Fv(e:Int)(p:Ae):Prop:=p.Cr=true/\0<=p.number/\p.number<=e
structure AM(want got:List ByteArray)(m:Nat)(c:Chan):Prop where
 b0:0<=c.base
 be:c.base<=c.expected
 ew:c.expected<=want.length
 q:c.queue=want.drop c.base.toNat
 q8:c.queue.length<=8
 bq:c.base+c.queue.length=want.length
 NS:got++c.inbox=want.take c.expected.toNat
 net:∀ p∈c.net,CY want m p
 n12:c.net.length<=12
 Ai:∀ p∈c.Ai,Fv c.expected p
 a12:c.Ai.length<=12
theorem vS(n:Int)(t:ByteArray)(a:Bool):0<=Xd n t a/\Xd n t a<=65520:=iJ _
theorem Fv.mono{e e':Int}(h:Fv e p)(he:e<=e'):Fv e' p:=⟨h.1,h.2.1,by have:=h.2.2;omega⟩
theorem CY.mono{m:Nat}(h:CY want m p)(he:m<=m'):CY want m' p:=by
 obtain⟨h1,i,h2,h3,j,h4,h5⟩:=h;exact⟨h1,i,h2,h3,j,o_,h5⟩
theorem CY.more{m:Nat}(h:CY want m p)(s:ByteArray):CY (want++[s]) m p:=by
 obtain⟨h1,i,h2,h3,h4⟩:=h;refine⟨h1,i,?_,h3,h4⟩;rw[List.getElem?_append_left (Za.1 h2).1];exact h2
theorem AM.isChan{m:Nat}{c:Chan}(h:AM want got m c)(hw:want.length<=1000)(hs:∀ s∈want,s.size<=300):YQ c=true:=by
 have h1:=h.b0;have h2:=h.be;have h3:=h.ew;have h4:=h.q8;have h5:=h.bq;unfold YQ;simp only[Zc,decide_eq_true_eq,Zu];refine⟨fun s hq=>hs s ?_,h4,Y8.2 ⟨h1,o_⟩,Y8.2 ⟨h2,o_⟩,h.n12,h.a12⟩;rw[h.q]at hq;exact ZG hq
theorem AM.offer{m:Nat}{c:Chan}(h:AM want got m c)(hq:c.queue.length<8)(s:ByteArray):AM (want++[s]) got m (lL c s):=by
 have h1:=h.b0;have h2:=h.be;have h3:=h.ew;have h4:=h.q8;have h5:=h.bq;refine⟨h1,h2,by simp[lL];omega,?_,by simp[lL];omega,by simp[lL];omega,?_,fun p hp=>(h.net p hp).more s,h.n12,h.Ai,h.a12⟩
 .show c.queue++[s]= _;show _=(want++[s]).drop c.base.toNat
  rw[List.drop_append_of_le_length o_,<- h.q]
 .show got++c.inbox=_;rw[List.take_append_of_le_length (by show c.expected.toNat<=_;omega)];exact h.NS
theorem AM.take{m:Nat}{c:Chan}(h:AM want got m c):AM want (got++c.inbox) m (Zql c):=
 ⟨h.b0,h.be,h.ew,h.q,h.q8,h.bq,by show(got++c.inbox)++[]= _;rw[List.append_nil];exact h.NS,h.net,h.n12,h.Ai,h.a12⟩
theorem Zfe{want:List ByteArray}{m:Nat}:∀ (q:List ByteArray) (n:Nat) (net:List Ae),(∀ (j:Nat) (s:ByteArray),q[j]? = some s->want[n+j]? = some s)->(∀ p∈net,CY want m p)->net.length<=12 ->
  (∀ p∈FO q (n:Int) net,CY want m p)/\(FO q (n:Int) net).length<=12
 |[],n,net,_,h,hl=>⟨h,hl⟩
 |s::q,n,net,hq,h,hl=>by
  have:=Zfe (m:=m) q (n+1) (Es net (YX false n s)) (fun j t ht=>by have:=hq (j+1) t (by simpa using ht);rw[show n+1+j=n+(j+1)by omega];exact this)
   (Xq h ⟨rfl,n,by have:=hq 0 s rfl;simpa [YX]using this,rfl,0,Zs _,by simp[YX]⟩) (Rb hl)
  simpa [FO]using this
theorem AM.send{m:Nat}{c:Chan}(h:AM want got m c):AM want got m (Qj c):=by
 obtain⟨b,hb⟩:=Int.eq_ofNat_of_zero_le h.b0
 have:=Zfe (want:=want) (m:=m) (c.queue.take 3) b c.net (fun j s hs=>by
  rw[h.q,hb,List.getElem?_take]at hs;split at hs
  .rw[Int.toNat_natCast,List.getElem?_drop]at hs;exact hs
  .cases hs) h.net h.n12
 rw[<- hb]at this;exact⟨h.b0,h.be,h.ew,h.q,h.q8,h.bq,h.NS,this.1,this.2,h.Ai,h.a12⟩
theorem AM.Bo{m:Nat}{c:Chan}(h:AM want got m c)(hl:∀ p∈l,CY want m' p)(h12:l.length<=12):AM want got m' { c with net:=l }:=
 ⟨h.b0,h.be,h.ew,h.q,h.q8,h.bq,h.NS,hl,h12,h.Ai,h.a12⟩
theorem AM.BN{m:Nat}{c:Chan}(h:AM want got m c)(hl:∀ p∈l,Fv c.expected p)(h12:l.length<=12):AM want got m { c with Ai:=l }:=
 ⟨h.b0,h.be,h.ew,h.q,h.q8,h.bq,h.NS,h.net,h.n12,hl,h12⟩
theorem Zca{α:Type}{l:List α}{i:Nat}{x:α}(h:l[i]? = some x):l.take i++[x]=l.take (i+1):=by
 obtain⟨hi,rfl⟩:=Za.1 h;simp
theorem AM.CU{m:Nat}{c:Chan}(h:AM want got m c)(hp:CY want m p):AM want got m (CU c p):=by
 have h1:=h.b0;have h2:=h.be;have h3:=h.ew;have h5:=h.bq;obtain⟨ha,i,hi,hn,j,hj,hs⟩:=hp;have hil:=(Za.1 hi).1;unfold Go.Proofs.YtcnbphnnfmphlaaGreatDoor.CU;split
 .split
  .rename_i he;refine⟨h1,by show c.base<=c.expected+1;omega,by show c.expected+1<=_;omega,h.q,h.q8,h5,?_,h.net,h.n12,?_,Rb h.a12⟩
   .show got++(c.inbox++[p.text])=want.take (c.expected+1).toNat
    rw[<- List.append_assoc,h.NS];have e1:c.expected.toNat=i:=by omega
    have e2:(c.expected+1).toNat=i+1:=by omega
    rw[e1,e2];exact Zca hi
   .exact Xq (fun x hx=>(h.Ai x hx).mono (by show c.expected<=c.expected+1;omega)) ⟨rfl,by show 0<=c.expected+1;omega,Int.le_refl _⟩
  .exact h.BN (Xq h.Ai ⟨rfl,by show 0<=c.expected;omega,Int.le_refl _⟩) (Rb h.a12)
 .exact h
theorem AM.Iy{m:Nat}{c:Chan}(h:AM want got m c)(hp:Fv c.expected p):AM want got m (DD c p):=by
 have h1:=h.b0;have h2:=h.be;have h3:=h.ew;have h5:=h.bq;have h4:=h.q8;obtain⟨ha,hn0,hn1⟩:=hp;unfold DD;split
 .rename_i hc;obtain⟨_,_,c1,c2⟩:=hc;refine⟨hn0,hn1,h3,?_,by show(c.queue.drop _).length<=8;simp;omega,by show p.number+((c.queue.drop _).length:Int)= _;simp;omega,h.NS,h.net,h.n12,h.Ai,h.a12⟩;show c.queue.drop _=_;rw[h.q,List.drop_drop];congr 1;show _=p.number.toNat;omega
 .exact h
theorem Zlp{m:Nat}(hm:m<=1000)(h:∀ p∈l,CY want m p)(k:Nat):(∀ p∈T9 l k,CY want (m+1) p)/\(T9 l k).length=l.length:=by
 unfold T9;split
 .rename_i p hp;refine⟨fun x hx=>?_,s_⟩;rcases ZW hx with hx|rfl
  .exact(h x hx).mono o_
  .obtain⟨h1,i,h2,h3,j,h4,h5⟩:=h p (Z6 hp);refine⟨h1,i,h2,h3,j+1,o_,?_⟩;have hb:=vS p.number p.text p.Cr;show IntKind.i64.wrap (p.sum+1)= _;rw[IntKind.wrap_i64];show _=Xd p.number p.text p.Cr+_;omega
 .exact⟨fun x hx=>(h x hx).mono o_,rfl⟩
theorem AM.move{m:Nat}{c:Chan}(h:AM want got m c)(hm:m<=1000)(move at_:Int):AM want got (m+1) (Yv c move at_):=by
 have hup:AM want got (m+1) c:=h.Bo (fun p hp=>(h.net p hp).mono o_) h.n12;unfold Yv;split
 .exact hup.send
 split
 .split
  .exact hup
  .rename_i hne;have hk:=OO (a:=at_) (n:=c.net.length) (by cases hc:c.net with|nil=>exact absurd hc hne|cons=>simp);unfold Eb;rw[Z4 hk];dsimp only;have hp:=h.net _ (List.getElem_mem hk);split
   .exact h.Bo (Xq (fun p hp=>(h.net p hp).mono o_) (hp.mono o_)) (Rb h.n12)
   split
   .have:=Zlp hm h.net (Di at_ c.net.length);exact h.Bo this.1 (by rw[this.2];exact h.n12)
   have hd:=hup.Bo (Ja (k:=Di at_ c.net.length) hup.net) (UU h.n12);split
   .exact hd
   .exact hd.CU (hp.mono o_)
 split
 .split
  .exact hup
  .rename_i hne;have hk:=OO (a:=at_) (n:=c.Ai.length) (by cases hc:c.Ai with|nil=>exact absurd hc hne|cons=>simp);unfold FP;rw[Z4 hk];dsimp only;have hp:=h.Ai _ (List.getElem_mem hk);have hd:=hup.BN (Ja (k:=Di at_ c.Ai.length) hup.Ai) (UU h.a12);split
   .exact hd.Iy hp
   .exact hd
 .exact hup

theorem AM.IJ{want got:List ByteArray}{m:Nat}:∀ (l:List Ae) {c:Chan},AM want got m c->(∀ p∈l,CY want m p)->l.length<=12->AM want got m (Qm l c)
 |[],_,h,_,_=>h
 |p::l,c,h,hl,h12=>AM.IJ l ((h.Bo (fun x hx=>hl x (by simp[hx])) (by simp at h12;omega)).CU (hl p s_)) (fun x hx=>hl x (by simp[hx])) (by simp at h12;omega)
theorem Zn8(c:Chan)(p:Ae):(DD c p).expected=c.expected:=by unfold DD;split<;>rfl
theorem AM.MH{want got:List ByteArray}{m:Nat}:∀ (l:List Ae) {c:Chan},AM want got m c->(∀ p∈l,Fv c.expected p)->l.length<=12->AM want got m (QQ l c)
 |[],_,h,_,_=>h
 |p::l,c,h,hl,h12=>AM.MH l ((h.BN (fun x hx=>hl x (by simp[hx])) (by simp at h12;omega)).Iy (hl p s_)) (fun x hx=>by rw[Zn8];exact hl x (by simp[hx])) (by simp at h12;omega)
theorem AM.MJ{m:Nat}{c:Chan}(h:AM want got m c):AM want got m (FQ c):=by
 have h1:=h.send;have h2:=h1.IJ _ h1.net h1.n12;exact h2.MH _ h2.Ai h2.a12
theorem lM(c:Chan)(p:Ae):(CU c p).net=c.net:=by unfold CU;repeat(first|rfl|split)
theorem Zgp(c:Chan)(p:Ae):(DD c p).net=c.net:=by unfold DD;split<;>rfl
theorem kG(c:Chan)(p:Ae):(DD c p).Ai=c.Ai:=by unfold DD;split<;>rfl
theorem Z9X:∀ (l:List Ae) (c:Chan),c.net=l->(Qm l c).net=[]
 |[],c,h=>h
 |p::l,c,h=>Z9X l _ (by rw[lM])
theorem Zax:∀ (l:List Ae) (c:Chan),(QQ l c).net=c.net
 |[],c=>rfl
 |p::l,c=>by rw[QQ,Zax l];rw[Zgp]
theorem Z8W:∀ (l:List Ae) (c:Chan),c.Ai=l->(QQ l c).Ai=[]
 |[],c,h=>h
 |p::l,c,h=>Z8W l _ (by rw[kG])
theorem YO(c:Chan):(FQ c).net=[]/\(FQ c).Ai=[]:=
 ⟨by unfold FQ;rw[Zax];exact Z9X _ _ rfl,by unfold FQ;exact Z8W _ _ rfl⟩
theorem Zg9(c:Chan)(p:Ae):(CU c p).base=c.base/\(CU c p).queue=c.queue:=by unfold CU;repeat(first|exact⟨rfl,rfl⟩| split)
theorem XS:∀ (l:List Ae) (c:Chan),(Qm l c).base=c.base/\(Qm l c).queue=c.queue
 |[],c=>⟨rfl,rfl⟩
 |p::l,c=>by
  have h1:=XS l (CU { c with net:=l } p)
  have h2:=Zg9 { c with net:=l } p
  exact⟨h1.1.trans h2.1,h1.2.trans h2.2⟩
theorem xE(a:Bool)(n:Int)(t:ByteArray):KT (YX a n t)=true:=by simp[KT,YX]
theorem Zpy(c:Chan)(p:Ae):c.expected<=(CU c p).expected:=by
 unfold CU;split
 .split
  .show c.expected<=c.expected+1;omega
  .exact Int.le_refl _
 .exact Int.le_refl _
theorem xF:∀ (l:List Ae) (c:Chan),c.expected<=(Qm l c).expected
 |[],c=>Int.le_refl _
 |p::l,c=>Int.le_trans (Zpy { c with net:=l } p) (xF l _)
def lN(c:Chan):Prop:=(∀ p∈c.Ai,KT p=true/\p.Cr=true/\p.number<=c.expected)/\∃ p∈c.Ai,p.number=c.expected
theorem Zfr(h:l.length<12):p∈Es l p:=by unfold Es;rw[if_neg o_];simp
theorem ZmC{c:Chan}(hi:KT p=true)(ha:p.Cr=false)(hl:c.Ai.length<12)(h:∀ p∈c.Ai,KT p=true/\p.Cr=true/\p.number<=c.expected):lN (CU c p):=by
 unfold CU;rw[if_pos ⟨hi,ha⟩];split
 .refine⟨Xq (fun x hx=>⟨(h x hx).1,(h x hx).2.1,by show x.number<=c.expected+1;have:=(h x hx).2.2;omega⟩) ⟨xE _ _ _,rfl,Int.le_refl _⟩,YX true (c.expected+1) ⟨#[]⟩,Zfr hl,rfl⟩
 .exact⟨Xq h ⟨xE _ _ _,rfl,Int.le_refl _⟩,YX true c.expected ⟨#[]⟩,Zfr hl,rfl⟩
theorem Zdf(c:Chan)(p:Ae):(CU c p).Ai.length<=c.Ai.length+1:=by
 have hp:∀ q,(Es c.Ai q).length<=c.Ai.length+1:=fun q=>by
  unfold Es;split
  .omega
  .simp
 unfold CU;split
 .split
  .exact hp _
  .exact hp _
 .omega
theorem Z8g:∀ (l:List Ae) (c:Chan),(∀ p∈l,KT p=true/\p.Cr=false)->c.Ai.length+l.length<=12->(∀ p∈c.Ai,KT p=true/\p.Cr=true/\p.number<=c.expected)->(lN c∨l≠[])->lN (Qm l c)
 |[],c,_,_,_,h=>by rcases h with h|h;exact h;exact absurd rfl h
 |p::l,c,hl,h12,ha,_=>by
  have h1:=hl p s_
  have hg:=ZmC (c:={ c with net:=l }) h1.1 h1.2 (by show c.Ai.length<12;simp at h12;omega) ha
  have hlen:=Zdf { c with net:=l } p
  exact Z8g l _ (fun x hx=>hl x (by simp[hx])) (by simp at h12 hlen;omega) hg.1 (.inl hg)
theorem ZkT(c:Chan)(p:Ae):c.base<=(DD c p).base:=by
 unfold DD;split
 .rename_i h;have:=h.2.2.1;show c.base<=p.number;omega
 .exact Int.le_refl _
theorem xG:∀ (l:List Ae) (c:Chan),c.base<=(QQ l c).base
 |[],c=>Int.le_refl _
 |p::l,c=>Int.le_trans (ZkT { c with Ai:=l } p) (xG l _)
theorem xH(c:Chan)(p:Ae):(DD c p).base+(DD c p).queue.length=c.base+c.queue.length:=by
 unfold DD;split
 .rename_i h;obtain⟨_,_,h1,h2⟩:=h;show p.number+((c.queue.drop _).length:Int)= _;simp;omega
 .rfl
theorem Z6j:∀ (l:List Ae) (c:Chan) (n:Int),(∀ p∈l,KT p=true/\p.Cr=true/\p.number<=n)->n<=c.base+c.queue.length->(∃ p∈l,p.number=n)->n<=(QQ l c).base
 |[],c,n,_,_,h=>by obtain⟨p,hp,_⟩:=h;cases hp
 |p::l,c,n,hl,hn,h=>by
  rw[QQ]
  by_cases hpn:p.number=n
  .refine Int.le_trans ?_ (xG l _)
   have h1:=hl p s_
   by_cases hb:c.base<n
   .unfold DD
    rw[if_pos ⟨h1.1,h1.2.1,by show c.base<p.number;omega,by show p.number<=c.base+c.queue.length;omega⟩]
    show n<=p.number;omega
   .exact Int.le_trans (by show n<=c.base;omega) (ZkT { c with Ai:=l } p)
  .refine Z6j l _ n (fun x hx=>hl x (by simp[hx])) (by rw[xH];exact hn) ?_
   obtain⟨x,hx,he⟩:=h
   rcases Zn.1 hx with rfl|hx
   .exact absurd he hpn
   .exact⟨x,hx,he⟩
theorem Z9O:∀ (q:List ByteArray) (n:Int) (net:List Ae),net.length+q.length<=12->∃ l,FO q n net=net++l/\l.length=q.length/\(∀ p∈l,KT p=true/\p.Cr=false)/\(∀ (j:Nat) (p:Ae),l[j]? = some p->p.number=n+j)
 |[],n,net,_=>⟨[],by simp[FO],rfl,s_,s_⟩
 |s::q,n,net,h=>by
  simp only[Zt]at h
  obtain⟨l,h1,h2,h3,h4⟩:=Z9O q (n+1) (net++[YX false n s]) AR
  refine⟨YX false n s::l,?_,by simp[h2],?_,?_⟩
  .rw[FO,Es,if_neg o_,h1];simp
  .intro p hp
   rcases Zn.1 hp with rfl|hp
   .exact⟨xE _ _ _,rfl⟩
   .exact h3 p hp
  .intro j p hp
   cases j with
   |zero=>simp at hp;subst hp;simp[YX]
   |succ j=>simp only[List.getElem?_cons_succ]at hp;have:=h4 j p hp;push_cast;omega
theorem ZhI{m:Nat}{c:Chan}(h:AM want got m c)(hn:c.net=[])(ha:c.Ai=[])(hq:c.queue≠[]):c.base <(FQ c).base:=by
 have h1:=h.b0;have h2:=h.be;have h3:=h.ew;have h5:=h.bq;have h4:=h.q8;have hq0:0<c.queue.length:=by cases hc:c.queue with|nil=>exact absurd hc hq|cons=>simp
 obtain⟨l,e1,e2,e3,e4⟩:=Z9O (c.queue.take 3) c.base c.net (by rw[hn];simp;omega);rw[hn,List.nil_append]at e1;have hsn:(Qj c).net=l:=by show FO _ _ c.net=l;rw[hn,e1]
 have hs:=h.send;have hl0:0<l.length:=by rw[e2];simp;omega
 have hl3:l.length<=3:=by rw[e2];simp;omega
 have hg:lN (Qm l (Qj c)):=Z8g l (Qj c) e3 (by show c.Ai.length+_<=_;rw[ha];simp;omega) (by intro p hp;have:p∈c.Ai:=hp;rw[ha]at this;cases this) (.inr (by intro e;rw[e]at hl0;simp at hl0));have hsame:=XS l (Qj c);have hinv:=hs.IJ l (by rw[<- hsn];exact hs.net) o_
 have xI:c.base <(Qm l (Qj c)).expected:=by
  by_cases hbe:c.base<c.expected
  .exact Int.lt_of_lt_of_le hbe (xF l (Qj c))
  .match l,e1,e3,e4,hl0 with
   |p::l,e1,e3,e4,hl0 =>
    rw[Qm];refine Int.lt_of_lt_of_le ?_ (xF l _);have hp:=e3 p s_;have hpn:=e4 0 p rfl;unfold CU;rw[if_pos hp,if_pos (by show p.number=c.expected;simp at hpn;omega)];show c.base<c.expected+1;omega
 have he:FQ c=QQ (Qm l (Qj c)).Ai (Qm l (Qj c)):=by show QQ (Qm (Qj c).net (Qj c)).Ai (Qm (Qj c).net (Qj c))= _;rw[hsn]
 rw[he];refine Int.lt_of_lt_of_le xI (Z6j _ _ _ hg.1 ?_ hg.2);have:=hinv.ew;have:=hinv.bq;omega
theorem AM.Kk{want got:List ByteArray}{m:Nat}:∀ (n:Nat) {c:Chan},AM want got m c->AM want got m (Jl n c)
 |0,_,h=>h
 |n+1,_,h=>AM.Kk n h.MJ
theorem Zap{want got:List ByteArray}{m:Nat}:∀ (n:Nat) {c:Chan},AM want got m c->c.net=[]->c.Ai=[]->c.queue.length<=n->(Jl n c).queue=[]
 |0,c,_,_,_,h=>by
  show c.queue=[]
  exact List.eq_nil_of_length_eq_zero o_
 |n+1,c,h,hn,ha,hl=>by
  have hc:=h.MJ
  have he:=YO c
  refine Zap n hc he.1 he.2 ?_
  have h5:=h.bq;have h6:=hc.bq
  by_cases hq:c.queue=[]
  .have hge:c.base<=(FQ c).base:=by
    have e1:(Qm (Qj c).net (Qj c)).base=c.base:=(XS _ _).1;rw[<- e1];exact xG _ _
   rw[hq]at h5;simp at h5;omega
  .have:=ZhI h hn ha hq;omega
theorem AM.MF{m:Nat}{c:Chan}(h:AM want got m c)(hc:YQ c=true):(Qd c).queue=[]/\got++(Qd c).inbox=want:=by
 unfold Qd;rw[if_pos hc];have h1:=h.MJ;have he:=YO c;have hd:=Zap 8 h1 he.1 he.2 h1.q8;have hi:=(h1.Kk 8);refine⟨hd,?_⟩;have h5:=hi.bq;have h6:=hi.be;have h7:=hi.ew;have h8:=hi.NS;rw[hd]at h5;simp at h5;rw[Zp o_]at h8;exact h8
theorem ZI{v:CV}{q:Nat}  :q∈AP v↔q∈AQ v.q.A∨q∈AQ v.i.A∨q∈AQ v.n.A∨q∈AQ v.a.A:=by simp[AP]
theorem XC{v:CV}  :(AP v).Nodup ↔((∀ q∈AQ v.q.A,q ∉ AQ v.i.A)/\(∀ q∈AQ v.q.A,q ∉ AQ v.n.A)/\(∀ q∈AQ v.q.A,q ∉ AQ v.a.A)/\(∀ q∈AQ v.i.A,q ∉ AQ v.n.A)/\(∀ q∈AQ v.i.A,q ∉ AQ v.a.A)/\(∀ q∈AQ v.n.A,q ∉ AQ v.a.A)):=by
 simp only[AP,List.nodup_append,Zjf,true_and,Z9];constructor
 .rintro⟨⟨h3,h2⟩,h1⟩;exact⟨fun q a b=>h1 q a q (.inl b) rfl,fun q a b=>h1 q a q (.inr (.inl b)) rfl,fun q a b=>h1 q a q (.inr (.inr b)) rfl,fun q a b=>h2 q a q (.inl b) rfl,fun q a b=>h2 q a q (.inr b) rfl,fun q a b=>h3 q a q b rfl⟩
 .rintro⟨h1,h2,h3,h4,h5,h6⟩;refine⟨⟨fun x a y b e=>h6 x a (e▸b),fun x a y b e=>?_⟩,fun x a y b e=>?_⟩
  .subst e;rcases b with b|b;exact h4 x a b;exact h5 x a b
  .subst e;rcases b with b|b|b;exact h1 x a b;exact h2 x a b;exact h3 x a b
def CZ(w:World)(v v':Sv):Prop:=∀ q∈AQ v'.A,q∈AQ v.A∨w.heap.size<=q
theorem CZ.refl(w:World)(v:Sv):CZ w v v:=fun q hq=>.inl hq
theorem BM.aT{w:World}{v:CV}{c:Chan}{l:List ByteArray}(h:BM w v c)(hf:Ag B w (AP v))(hB:B<=w.heap.size)(ho:Own w' 0 9 1 v'.A v'.n v'.c (l.map ZZ))(hu:Aw (AQ v.q.A) w w')(hv:CZ w v.q v'):
  BM w' { v with q:=v' } { c with queue:=l }/\Ag B w' (AP { v with q:=v' }):=by
 obtain⟨D0,D1,D2,D3,D4,D5⟩:=XC.1 hf.nodup;have Lq:∀ k∈AQ v.q.A,k<w.heap.size:=fun k hk=>hf.hi k (ZI.2 (.inl hk))
 have Li:∀ k∈AQ v.i.A,k<w.heap.size:=fun k hk=>hf.hi k (ZI.2 (.inr (.inl hk)))
 have Ln:∀ k∈AQ v.n.A,k<w.heap.size:=fun k hk=>hf.hi k (ZI.2 (.inr (.inr (.inl hk))))
 have La:∀ k∈AQ v.a.A,k<w.heap.size:=fun k hk=>hf.hi k (ZI.2 (.inr (.inr (.inr hk))))
 have hW:BM w' { v with q:=v' } { c with queue:=l }:=⟨ho,h.i.upd hu (fun k hk hm=>D0 k hm hk),h.n.upd hu (fun k hk hm=>D1 k hm hk),h.a.upd hu (fun k hk hm=>D2 k hm hk)⟩;refine⟨hW,XC.2 ⟨fun q hq hb=>(hv q hq).elim (fun h1=>D0 q h1 hb) (fun h1=>by have:=Li q hb;omega),fun q hq hb=>(hv q hq).elim (fun h1=>D1 q h1 hb) (fun h1=>by have:=Ln q hb;omega),fun q hq hb=>(hv q hq).elim (fun h1=>D2 q h1 hb) (fun h1=>by have:=La q hb;omega),D3,D4,D5⟩,fun q hq=>?_,hW.lt⟩;rcases ZI.1 hq with h1|h1|h1|h1
 .rcases hv q h1 with h2|h2
  .exact hf.lo q (ZI.2 (.inl h2))
  .omega
 .exact hf.lo q (ZI.2 (.inr (.inl h1)))
 .exact hf.lo q (ZI.2 (.inr (.inr (.inl h1))))
 .exact hf.lo q (ZI.2 (.inr (.inr (.inr h1))))
theorem lQ{v:CV}  :∀ q∈AQ v.q.A,q∈AP v:=fun q hq=>ZI.2 (.inl hq)
theorem BM.aU{w:World}{v:CV}{c:Chan}{l:List ByteArray}(h:BM w v c)(hf:Ag B w (AP v))(hB:B<=w.heap.size)(ho:Own w' 0 9 1 v'.A v'.n v'.c (l.map ZZ))(hu:Aw (AQ v.i.A) w w')(hv:CZ w v.i v'):
  BM w' { v with i:=v' } { c with inbox:=l }/\Ag B w' (AP { v with i:=v' }):=by
 obtain⟨D0,D1,D2,D3,D4,D5⟩:=XC.1 hf.nodup;have Lq:∀ k∈AQ v.q.A,k<w.heap.size:=fun k hk=>hf.hi k (ZI.2 (.inl hk))
 have Li:∀ k∈AQ v.i.A,k<w.heap.size:=fun k hk=>hf.hi k (ZI.2 (.inr (.inl hk)))
 have Ln:∀ k∈AQ v.n.A,k<w.heap.size:=fun k hk=>hf.hi k (ZI.2 (.inr (.inr (.inl hk))))
 have La:∀ k∈AQ v.a.A,k<w.heap.size:=fun k hk=>hf.hi k (ZI.2 (.inr (.inr (.inr hk))))
 have hW:BM w' { v with i:=v' } { c with inbox:=l }:=⟨h.q.upd hu (fun k hk hm=>D0 k hk hm),ho,h.n.upd hu (fun k hk hm=>D3 k hm hk),h.a.upd hu (fun k hk hm=>D4 k hm hk)⟩;refine⟨hW,XC.2 ⟨fun q ha hq=>(hv q hq).elim (fun h1=>D0 q ha h1) (fun h1=>by have:=Lq q ha;omega),D1,D2,fun q hq hb=>(hv q hq).elim (fun h1=>D3 q h1 hb) (fun h1=>by have:=Ln q hb;omega),fun q hq hb=>(hv q hq).elim (fun h1=>D4 q h1 hb) (fun h1=>by have:=La q hb;omega),D5⟩,fun q hq=>?_,hW.lt⟩;rcases ZI.1 hq with h1|h1|h1|h1
 .exact hf.lo q (ZI.2 (.inl h1))
 .rcases hv q h1 with h2|h2
  .exact hf.lo q (ZI.2 (.inr (.inl h2)))
  .omega
 .exact hf.lo q (ZI.2 (.inr (.inr (.inl h1))))
 .exact hf.lo q (ZI.2 (.inr (.inr (.inr h1))))
theorem lS{v:CV}  :∀ q∈AQ v.i.A,q∈AP v:=fun q hq=>ZI.2 (.inr (.inl hq))
theorem BM.aV{w:World}{v:CV}{c:Chan}(h:BM w v c)(hf:Ag B w (AP v))(hB:B<=w.heap.size)(ho:Own w' 0 139 4 v'.A v'.n v'.c (l.map Ae.cells))(hu:Aw (AQ v.n.A) w w')(hv:CZ w v.n v'):
  BM w' { v with n:=v' } { c with net:=l }/\Ag B w' (AP { v with n:=v' }):=by
 obtain⟨D0,D1,D2,D3,D4,D5⟩:=XC.1 hf.nodup;have Lq:∀ k∈AQ v.q.A,k<w.heap.size:=fun k hk=>hf.hi k (ZI.2 (.inl hk))
 have Li:∀ k∈AQ v.i.A,k<w.heap.size:=fun k hk=>hf.hi k (ZI.2 (.inr (.inl hk)))
 have Ln:∀ k∈AQ v.n.A,k<w.heap.size:=fun k hk=>hf.hi k (ZI.2 (.inr (.inr (.inl hk))))
 have La:∀ k∈AQ v.a.A,k<w.heap.size:=fun k hk=>hf.hi k (ZI.2 (.inr (.inr (.inr hk))))
 have hW:BM w' { v with n:=v' } { c with net:=l }:=⟨h.q.upd hu (fun k hk hm=>D1 k hk hm),h.i.upd hu (fun k hk hm=>D3 k hk hm),ho,h.a.upd hu (fun k hk hm=>D5 k hm hk)⟩;refine⟨hW,XC.2 ⟨D0,fun q ha hq=>(hv q hq).elim (fun h1=>D1 q ha h1) (fun h1=>by have:=Lq q ha;omega),D2,fun q ha hq=>(hv q hq).elim (fun h1=>D3 q ha h1) (fun h1=>by have:=Li q ha;omega),D4,fun q hq hb=>(hv q hq).elim (fun h1=>D5 q h1 hb) (fun h1=>by have:=La q hb;omega)⟩,fun q hq=>?_,hW.lt⟩;rcases ZI.1 hq with h1|h1|h1|h1
 .exact hf.lo q (ZI.2 (.inl h1))
 .exact hf.lo q (ZI.2 (.inr (.inl h1)))
 .rcases hv q h1 with h2|h2
  .exact hf.lo q (ZI.2 (.inr (.inr (.inl h2))))
  .omega
 .exact hf.lo q (ZI.2 (.inr (.inr (.inr h1))))
theorem aW{v:CV}  :∀ q∈AQ v.n.A,q∈AP v:=fun q hq=>ZI.2 (.inr (.inr (.inl hq)))
theorem BM.aX{w:World}{v:CV}{c:Chan}(h:BM w v c)(hf:Ag B w (AP v))(hB:B<=w.heap.size)(ho:Own w' 0 139 4 v'.A v'.n v'.c (l.map Ae.cells))(hu:Aw (AQ v.a.A) w w')(hv:CZ w v.a v'):
  BM w' { v with a:=v' } { c with Ai:=l }/\Ag B w' (AP { v with a:=v' }):=by
 obtain⟨D0,D1,D2,D3,D4,D5⟩:=XC.1 hf.nodup;have Lq:∀ k∈AQ v.q.A,k<w.heap.size:=fun k hk=>hf.hi k (ZI.2 (.inl hk))
 have Li:∀ k∈AQ v.i.A,k<w.heap.size:=fun k hk=>hf.hi k (ZI.2 (.inr (.inl hk)))
 have Ln:∀ k∈AQ v.n.A,k<w.heap.size:=fun k hk=>hf.hi k (ZI.2 (.inr (.inr (.inl hk))))
 have La:∀ k∈AQ v.a.A,k<w.heap.size:=fun k hk=>hf.hi k (ZI.2 (.inr (.inr (.inr hk))))
 have hW:BM w' { v with a:=v' } { c with Ai:=l }:=⟨h.q.upd hu (fun k hk hm=>D2 k hk hm),h.i.upd hu (fun k hk hm=>D4 k hk hm),h.n.upd hu (fun k hk hm=>D5 k hk hm),ho⟩;refine⟨hW,XC.2 ⟨D0,D1,fun q ha hq=>(hv q hq).elim (fun h1=>D2 q ha h1) (fun h1=>by have:=Lq q ha;omega),D3,fun q ha hq=>(hv q hq).elim (fun h1=>D4 q ha h1) (fun h1=>by have:=Li q ha;omega),fun q ha hq=>(hv q hq).elim (fun h1=>D5 q ha h1) (fun h1=>by have:=Ln q ha;omega)⟩,fun q hq=>?_,hW.lt⟩;rcases ZI.1 hq with h1|h1|h1|h1
 .exact hf.lo q (ZI.2 (.inl h1))
 .exact hf.lo q (ZI.2 (.inr (.inl h1)))
 .exact hf.lo q (ZI.2 (.inr (.inr (.inl h1))))
 .rcases hv q h1 with h2|h2
  .exact hf.lo q (ZI.2 (.inr (.inr (.inr h2))))
  .omega
theorem lT{v:CV}  :∀ q∈AQ v.a.A,q∈AP v:=fun q hq=>ZI.2 (.inr (.inr (.inr hq)))
theorem BM.nums{w:World}{v:CV}{c:Chan}(h:BM w v c)(b e:Int):BM w v { c with base:=b,expected:=e }:=⟨h.q,h.i,h.n,h.a⟩
structure BA where
 b:Nat
 t:TypeId
 cs:List Value
def BA.ok(w:World)(s:BA):Prop:=Own w 0 s.t s.cs.length (some ⟨s.b,0,none⟩) 1 1 [s.cs]
structure CB(w0:World)(fs:List Nat)(B b0:Nat)(v:CV)(c:Chan)(sd:List BA)(w:World):Prop where
 ow:BM w v c
 fr:Ag B w (AP v)
 mv:∀ q∈AP v,q∈fs∨w0.heap.size<=q
 nb:b0 ∉ AP v
 bx:Own w 0 77 6 (some ⟨b0,0,none⟩) 1 1 [Ql v c.base c.expected]
 lo:w0.heap.size<=b0
 hB:B<=w0.heap.size
 Ih:∀ s∈sd,s.ok w/\s.b ∉ AP v/\s.b≠b0/\w0.heap.size<=s.b
 up:Aw fs w0 w
def UW(w0:World)(fs:List Nat)(B:Nat)(c:Chan)(e:Ending)(w':World):Prop :=
 ∃ v',e=.returned (YA v' c.base c.expected)/\BM w' v' c/\Ag B w' (AP v')/\(∀ q∈AP v',q∈fs∨w0.heap.size<=q)/\Aw fs w0 w'
section
variable{w0 w w' w1:World}{fs:List Nat}{B b0:Nat}{v:CV}{c:Chan}{sd:List BA}
theorem Own.UX{t sz b:Nat}{css:List (List Value)}(h:Own w 0 t sz (some ⟨b,0,none⟩) 1 1 css):b<w.heap.size:=(h.lt b rfl).2
theorem CB.lt(h:CB w0 fs B b0 v c sd w):b0<w.heap.size:=h.bx.UX
theorem CB.slt(h:CB w0 fs B b0 v c sd w){s:BA}(hs:s∈sd):s.b<w.heap.size:=(h.Ih s hs).1.UX
theorem UY(h:BM w0 v c)(hf:Ag B w0 (AP v))(hB:B<=w0.heap.size):CB w0 (AP v) B w0.heap.size v c [] (w0.alloc (.cells (Ql v c.base c.expected).toArray 77)):=
 ⟨h.below (Ze (Below.refl _ _) _),⟨hf.nodup,hf.lo,fun q hq=>by have:=hf.hi q hq;simp;omega⟩,fun q hq=>.inl hq,fun hm=>by have:=hf.hi _ hm;omega,Own.box (heap_alloc_new w0 _) rfl,Zd _,hB,fun s hs=>(by cases hs),(Aw.refl _ _).Aj _⟩
theorem CB.upd(h:CB w0 fs B b0 v c sd w)(hu:Aw gs w w')(h1:∀ q∈gs,q ∉ AP v)(h2:b0 ∉ gs)(h3:∀ s∈sd,s.b ∉ gs)(h4:∀ q∈gs,w0.heap.size<=q):CB w0 fs B b0 v c sd w' :=
 ⟨h.ow.upd hu (fun q hq hm=>h1 q hm hq),⟨h.fr.nodup,h.fr.lo,fun q hq=>Zf (h.fr.hi q hq) hu.size⟩,h.mv,h.nb,h.bx.upd hu (fun q hq hm=>by simp[AQ,ob]at hq;exact h2 (hq▸hm)),h.lo,h.hB,fun s hs =>
  have H:=h.Ih s hs
  ⟨H.1.upd hu (fun q hq hm=>by simp[AQ,ob]at hq;exact h3 s hs (hq▸hm)),H.2⟩,
  ⟨hu.os.trans h.up.os,hu.tape.trans h.up.tape,hu.output.trans h.up.output,Zj h.up.size hu.size,fun i hi hn=>(hu.block i (Zf hi h.up.size) (fun hm=>by have:=h4 i hm;omega)).trans (h.up.block i hi hn)⟩⟩
theorem CB.below(h:CB w0 fs B b0 v c sd w)(hb:Below w.heap.size w w'):CB w0 fs B b0 v c sd w' :=
 h.upd (gs:=[]) (Q9 hb) (fun q hq=>by cases hq) (fun hq=>by cases hq) (fun s hs hq=>(by cases hq)) (fun q hq=>by cases hq)
theorem Jm(h:CB w0 fs B b0 v c sd w)(t:TypeId)(cs:List Value):CB w0 fs B b0 v c (⟨w.heap.size,t,cs⟩:: sd) (w.alloc (.cells cs.toArray t)):=by
 have k:=h.below (Ze (Below.refl _ _) (.cells cs.toArray t));have hlt:=h.lt;have hs:=h.up.size;refine⟨k.ow,k.fr,k.mv,k.nb,k.bx,k.lo,k.hB,fun s hm=>?_,k.up⟩;rcases Zn.1 hm with rfl|hm
 .exact⟨Own.box (heap_alloc_new w _) rfl,fun hq=>by have:=h.fr.hi _ hq;simp at this,AR,hs⟩
 .exact k.Ih s hm
theorem CB.c0(h:CB w0 fs B b0 v c sd w):w.cell? ⟨b0,0,none⟩=some (.slice v.q.A v.q.n v.q.c):=h.bx.BG 0 _ rfl
theorem CB.c1(h:CB w0 fs B b0 v c sd w):w.cell? ⟨b0,1,none⟩=some (.int .i64 c.base):=h.bx.BG 1 _ rfl
theorem CB.c2(h:CB w0 fs B b0 v c sd w):w.cell? ⟨b0,2,none⟩=some (.int .i64 c.expected):=h.bx.BG 2 _ rfl
theorem CB.c3(h:CB w0 fs B b0 v c sd w):w.cell? ⟨b0,3,none⟩=some (.slice v.i.A v.i.n v.i.c):=h.bx.BG 3 _ rfl
theorem CB.c4(h:CB w0 fs B b0 v c sd w):w.cell? ⟨b0,4,none⟩=some (.slice v.n.A v.n.n v.n.c):=h.bx.BG 4 _ rfl
theorem CB.c5(h:CB w0 fs B b0 v c sd w):w.cell? ⟨b0,5,none⟩=some (.slice v.a.A v.a.n v.a.c):=h.bx.BG 5 _ rfl
theorem CB.fz(h:CB w0 fs B b0 v c sd w)(o:Nat):w.frozen? ⟨b0,o,none⟩=false:=h.bx.frozen rfl o
theorem CB.Db(h:CB w0 fs B b0 v c sd w){b t:Nat}{cs:List Value}(hs:(⟨b,t,cs⟩:BA)∈sd)(j:Nat)(u:Value)(hu:cs[j]? = some u):w.cell? ⟨b,j,none⟩=some u:=(h.Ih _ hs).1.BG j u hu
theorem CB.xJ(h:CB w0 fs B b0 v c sd w){b t:Nat}{cs:List Value}(hs:(⟨b,t,cs⟩:BA)∈sd)(o:Nat):w.frozen? ⟨b,o,none⟩=false:=(h.Ih _ hs).1.frozen rfl o
theorem QS(h:CB w0 fs B b0 v c sd w){s:BA}(hs:s∈sd)(hu:Aw [s.b] w w'):BM w' v c/\Ag B w' (AP v)/\(∀ q∈AP v,q∈fs∨w0.heap.size<=q)/\Aw fs w0 w':=by
 have H:=h.Ih s hs;have hb:=h.lo;refine⟨h.ow.upd hu (fun q hq hm=>by simp only[Zh]at hm;exact H.2.1 (hm▸hq)),⟨h.fr.nodup,h.fr.lo,fun q hq=>Zf (h.fr.hi q hq) hu.size⟩,h.mv,⟨hu.os.trans h.up.os,hu.tape.trans h.up.tape,hu.output.trans h.up.output,Zj h.up.size hu.size,fun i hi hn=>(hu.block i (Zf hi h.up.size) (fun hm=>by simp only[Zh]at hm;have:=H.2.2.2;omega)).trans (h.up.block i hi hn)⟩⟩
theorem aY{b t:Nat}{cs:List Value}{sz:Nat}(h:Own w 0 t sz (some ⟨b,0,none⟩) 1 1 [cs])(hj:j<sz):Own (w.setCell ⟨b,j,none⟩ u) 0 t sz (some ⟨b,0,none⟩) 1 1 [cs.set j u]:=by
 have:=(h.cell (k:=0) (j:=j) rfl hj u).1;simpa using this
theorem CB.kept(h:CB w0 fs B b0 v c sd w)(hu:Aw gs w w1)(hg:∀ q∈gs,q∈AP v):(∀ o,w1.cell? ⟨b0,o,none⟩=w.cell? ⟨b0,o,none⟩)/\(∀ o,w1.frozen? ⟨b0,o,none⟩=false):=
 ⟨fun o=>F5 hu b0 h.lt (fun hm=>h.nb (hg _ hm)) o,fun o=>(NB hu b0 h.lt (fun hm=>h.nb (hg _ hm)) o).trans (h.fz o)⟩
theorem CB.MK(h:CB w0 fs B b0 v c sd w)(hu:Aw gs w w1)(hg:∀ q∈gs,q∈AP v){b t:Nat}{cs:List Value}(hs:(⟨b,t,cs⟩:BA)∈sd):(∀ o,w1.cell? ⟨b,o,none⟩=w.cell? ⟨b,o,none⟩)/\(∀ o,w1.frozen? ⟨b,o,none⟩=false):=
 have H:=h.Ih _ hs
 ⟨fun o=>F5 hu b (h.slt hs) (fun hm=>H.2.1 (hg _ hm)) o,fun o=>(NB hu b (h.slt hs) (fun hm=>H.2.1 (hg _ hm)) o).trans (h.xJ hs o)⟩
theorem XK(h:CB w0 fs B b0 v c sd w)(hu:Aw gs w w1)(hg:∀ q∈gs,q∈AP v):w1.cell? ⟨b0,0,none⟩=some (.slice v.q.A v.q.n v.q.c)/\w1.cell? ⟨b0,1,none⟩=some (.int .i64 c.base)/\w1.cell? ⟨b0,2,none⟩=some (.int .i64 c.expected)/\w1.cell? ⟨b0,3,none⟩=some (.slice v.i.A v.i.n v.i.c)/\w1.cell? ⟨b0,4,none⟩=some (.slice v.n.A v.n.n v.n.c)/\w1.cell? ⟨b0,5,none⟩=some (.slice v.a.A v.a.n v.a.c)/\(∀ o,w1.frozen? ⟨b0,o,none⟩=false)/\b0<w1.heap.size :=
 have K:=h.kept hu hg
 ⟨(K.1 0).trans h.c0,(K.1 1).trans h.c1,(K.1 2).trans h.c2,(K.1 3).trans h.c3,(K.1 4).trans h.c4,(K.1 5).trans h.c5,K.2,Zf h.lt hu.size⟩
theorem CB.DR(h:CB w0 fs B b0 v c sd w):w.cell? ⟨b0,0,none⟩=some (.slice v.q.A v.q.n v.q.c)/\w.cell? ⟨b0,1,none⟩=some (.int .i64 c.base)/\w.cell? ⟨b0,2,none⟩=some (.int .i64 c.expected)/\w.cell? ⟨b0,3,none⟩=some (.slice v.i.A v.i.n v.i.c)/\w.cell? ⟨b0,4,none⟩=some (.slice v.n.A v.n.n v.n.c)/\w.cell? ⟨b0,5,none⟩=some (.slice v.a.A v.a.n v.a.c)/\(∀ o,w.frozen? ⟨b0,o,none⟩=false)/\b0<w.heap.size :=
 ⟨h.c0,h.c1,h.c2,h.c3,h.c4,h.c5,h.fz,h.lt⟩
def zC:List Value:=[.slice none 0 0,.int .i64 0,.int .i64 0,.slice none 0 0,.slice none 0 0,.slice none 0 0]
theorem CB.Bg(h:CB w0 fs B b0 v c sd w)(hu:Aw gs w w1)(hg:∀ q∈gs,q∈AP v){b t:Nat}(hs:(⟨b,t,zC⟩:BA)∈sd):w1.cell? ⟨b,0,none⟩=some (.slice none 0 0)/\w1.cell? ⟨b,1,none⟩=some (.int .i64 0)/\w1.cell? ⟨b,2,none⟩=some (.int .i64 0)/\w1.cell? ⟨b,3,none⟩=some (.slice none 0 0)/\w1.cell? ⟨b,4,none⟩=some (.slice none 0 0)/\w1.cell? ⟨b,5,none⟩=some (.slice none 0 0)/\(∀ o,w1.frozen? ⟨b,o,none⟩=false)/\b<w1.heap.size :=
 have K:=h.MK hu hg hs
 ⟨(K.1 0).trans (h.Db hs 0 _ rfl),(K.1 1).trans (h.Db hs 1 _ rfl),(K.1 2).trans (h.Db hs 2 _ rfl),(K.1 3).trans (h.Db hs 3 _ rfl),(K.1 4).trans (h.Db hs 4 _ rfl),(K.1 5).trans (h.Db hs 5 _ rfl),K.2,Zf (h.slt hs) hu.size⟩
theorem Rc(h:CB w0 fs B b0 v c sd w)(hu:Aw gs w w1)(hg:∀ q∈gs,q∈AP v){b t:Nat}(hs:(⟨b,t,p.cells⟩:BA)∈sd):w1.cell? ⟨b,0,none⟩=some (.bool p.Cr)/\w1.cell? ⟨b,1,none⟩=some (.int .i64 p.number)/\w1.cell? ⟨b,2,none⟩=some (.string p.text)/\w1.cell? ⟨b,3,none⟩=some (.int .i64 p.sum)/\(∀ o,w1.frozen? ⟨b,o,none⟩=false)/\b<w1.heap.size :=
 have K:=h.MK hu hg hs
 ⟨(K.1 0).trans (h.Db hs 0 _ rfl),(K.1 1).trans (h.Db hs 1 _ rfl),(K.1 2).trans (h.Db hs 2 _ rfl),(K.1 3).trans (h.Db hs 3 _ rfl),K.2,Zf (h.slt hs) hu.size⟩
theorem Znk(h:CB w0 fs B b0 v c sd w){g k:Nat}(hA:v.n.A=some ⟨g,0,none⟩)(hp:c.net[k]? = some p)(u:Int):
  CB w0 fs B b0 v { c with net:=c.net.set k { p with sum:=u }} sd (w.setCell ⟨g,k*4+3,none⟩ (.int .i64 u)):=by
 have hon:=h.ow.n;rw[hA]at hon;have hcs:(c.net.map Ae.cells)[k]? = some p.cells:=by rw[List.getElem?_map,hp];rfl
 obtain⟨ho,hg⟩:=hon.cell hcs (show 3<4 by omega) (.int .i64 u)
 have e:(c.net.map Ae.cells).set k (p.cells.set 3 (.int .i64 u))=(c.net.set k { p with sum:=u }).map Ae.cells:=by
  rw[List.map_set];rfl
 rw[e]at ho;have hgm:g∈AP v:=aW g (by rw[hA];simp[AQ,ob]);obtain⟨D0,D1,D2,D3,D4,D5⟩:=XC.1 h.fr.nodup;have hgn:g∈AQ v.n.A:=by rw[hA];simp[AQ,ob]
 have hu:Aw [g] w (w.setCell ⟨g,k*4+3,none⟩ (.int .i64 u)):=Cs;have hbg:b0≠g:=fun e=>h.nb (e▸hgm)
 refine⟨⟨h.ow.q.upd hu (fun q hq hm=>by simp only[Zh]at hm;subst hm;exact D1 q hq hgn),h.ow.i.upd hu (fun q hq hm=>by simp only[Zh]at hm;subst hm;exact D3 q hq hgn),by rw[hA];exact ho,h.ow.a.upd hu (fun q hq hm=>by simp only[Zh]at hm;subst hm;exact D5 q hgn hq)⟩,
  ⟨h.fr.nodup,h.fr.lo,fun q hq=>Zf (h.fr.hi q hq) hu.size⟩,h.mv,h.nb,h.bx.upd hu (fun q hq hm=>by simp[AQ,ob]at hq;simp only[Zh]at hm;omega),h.lo,h.hB,fun s hs=>?_,?_⟩
 .have H:=h.Ih s hs;exact⟨H.1.upd hu (fun q hq hm=>by simp[AQ,ob]at hq;simp only[Zh]at hm;exact H.2.1 (by rw[<- hq,hm];exact hgm)),H.2⟩
 .exact⟨hu.os.trans h.up.os,hu.tape.trans h.up.tape,hu.output.trans h.up.output,Zj h.up.size hu.size,fun i hi hn=>(hu.block i (Zf hi h.up.size) (fun hm=>by simp only[Zh]at hm;subst hm;exact(h.mv i hgm).elim hn (fun hh=>by omega))).trans (h.up.block i hi hn)⟩
theorem uT{k:Nat}(hp:l[k]? = some p):T9 l k=l.set k { p with sum:=IntKind.i64.wrap (p.sum+1)}:=by unfold T9;rw[hp]
theorem YI{w w':World}(h:Below w.heap.size w w')(gs:List Nat):Aw gs w w':=Q9 h
theorem QF{w w':World}{v:Sv}{e sz:Nat}{css:List (List Value)}(h:Own w' w.heap.size e sz v'.A v'.n v'.c css):CZ w v v':=fun q hq=>.inr (h.lt q (ZR.1 hq)).1
theorem CB.put(h:CB w0 fs B b0 v c sd w){v':CV}(hj:j<6)(ho:BM w v' c')(hf:Ag B w (AP v'))(hm:∀ q∈AP v',q∈fs∨w0.heap.size<=q)(hnb:b0 ∉ AP v')(hsd:∀ s∈sd,s.b ∉ AP v')(hc:(Ql v c.base c.expected).set j u=Ql v' c'.base c'.expected):
  CB w0 fs B b0 v' c' sd (w.setCell ⟨b0,j,none⟩ u):=by
 have hu:Aw [b0] w (w.setCell ⟨b0,j,none⟩ u):=Cs;have hx:=aY (u:=u) h.bx hj;rw[hc]at hx
 exact⟨ho.upd hu (fun q hq hm=>by simp only[Zh]at hm;exact hnb (hm▸hq)),⟨hf.nodup,hf.lo,fun q hq=>Zf (hf.hi q hq) hu.size⟩,hm,hnb,hx,h.lo,h.hB,fun s hs =>
  have H:=h.Ih s hs
  ⟨H.1.upd hu (fun q hq hm=>by simp[AQ,ob]at hq;simp only[Zh]at hm;exact H.2.2.1 (hq▸hm)),hsd s hs,H.2.2⟩,
  ⟨hu.os.trans h.up.os,hu.tape.trans h.up.tape,hu.output.trans h.up.output,Zj h.up.size hu.size,fun i hi hn=>(hu.block i (Zf hi h.up.size) (fun hm=>by simp only[Zh]at hm;have:=h.lo;omega)).trans (h.up.block i hi hn)⟩⟩
theorem ZrX(h:CB w0 fs B b0 v c sd w)(e:Int):CB w0 fs B b0 v { c with expected:=e } sd (w.setCell ⟨b0,2,none⟩ (.int .i64 e)):=
 h.put o_ (h.ow.nums c.base e) h.fr h.mv h.nb (fun s hs=>(h.Ih s hs).2.1) rfl
theorem CB.base(h:CB w0 fs B b0 v c sd w)(e:Int):CB w0 fs B b0 v { c with base:=e } sd (w.setCell ⟨b0,1,none⟩ (.int .i64 e)):=
 h.put o_ (h.ow.nums e c.expected) h.fr h.mv h.nb (fun s hs=>(h.Ih s hs).2.1) rfl
theorem ZdM(h:CB w0 fs B b0 v c sd w){l:List ByteArray}(ho:Own w1 0 9 1 v'.A v'.n v'.c (l.map ZZ))(hu:Aw (AQ v.q.A) w w1)(hv:CZ w v.q v'):
  CB w0 fs B b0 { v with q:=v' } { c with queue:=l } sd (w1.setCell ⟨b0,0,none⟩ (.slice v'.A v'.n v'.c)):=by
 have hsz:=h.up.size;obtain⟨h1,h2⟩:=h.ow.aT h.fr (Zj h.hB hsz) ho hu hv;have hx:=h.bx.upd hu (fun q hq hm=>by simp[AQ,ob]at hq;exact h.nb (lQ _ (hq▸hm)))
 have hmem:∀ q∈AP { v with q:=v' },q∈AP v∨w.heap.size<=q:=fun q hq=>by
  rcases ZI.1 hq with k|k|k|k
  .exact(hv q k).imp (lQ q) id
  .exact .inl (ZI.2 (.inr (.inl k)))
  .exact .inl (ZI.2 (.inr (.inr (.inl k))))
  .exact .inl (ZI.2 (.inr (.inr (.inr k))))
 have hu':Aw [b0] w1 (w1.setCell ⟨b0,0,none⟩ (.slice v'.A v'.n v'.c)):=Cs;have hx2:=aY (j:=0) (u:=.slice v'.A v'.n v'.c) hx o_;have hnb:b0 ∉ AP { v with q:=v' }:=fun hm=>(hmem _ hm).elim h.nb (fun hh=>by have:=h.lt;omega)
 have EC:Aw fs w0 w1:=⟨hu.os.trans h.up.os,hu.tape.trans h.up.tape,hu.output.trans h.up.output,Zj h.up.size hu.size,fun i hi hn=>(hu.block i (Zf hi h.up.size) (fun hm=>(h.mv i (lQ i hm)).elim hn (fun hh=>by omega))).trans (h.up.block i hi hn)⟩
 exact⟨h1.upd hu' (fun q hq hm=>by simp only[Zh]at hm;exact hnb (hm▸hq)),⟨h2.nodup,h2.lo,fun q hq=>Zf (h2.hi q hq) hu'.size⟩,fun q hq=>(hmem q hq).elim (h.mv q) (fun hh=>.inr o_),hnb,hx2,h.lo,h.hB,fun s hs =>
  have H:=h.Ih s hs;have hns:s.b ∉ AP { v with q:=v' }:=fun hm=>(hmem _ hm).elim H.2.1 (fun hh=>by have:=h.slt hs;omega)
  ⟨(H.1.upd hu (fun q hq hm=>by simp[AQ,ob]at hq;exact H.2.1 (lQ _ (hq▸hm)))).upd hu' (fun q hq hm=>by simp[AQ,ob]at hq;simp only[Zh]at hm;exact H.2.2.1 (hq▸hm)),hns,H.2.2⟩,
  ⟨hu'.os.trans EC.os,hu'.tape.trans EC.tape,hu'.output.trans EC.output,Zj EC.size hu'.size,fun i hi hn=>(hu'.block i (Zf hi EC.size) (fun hm=>by simp only[Zh]at hm;have:=h.lo;omega)).trans (EC.block i hi hn)⟩⟩
theorem Zl1(h:CB w0 fs B b0 v c sd w){l:List ByteArray}(ho:Own w1 0 9 1 v'.A v'.n v'.c (l.map ZZ))(hu:Aw (AQ v.i.A) w w1)(hv:CZ w v.i v'):
  CB w0 fs B b0 { v with i:=v' } { c with inbox:=l } sd (w1.setCell ⟨b0,3,none⟩ (.slice v'.A v'.n v'.c)):=by
 have hsz:=h.up.size;obtain⟨h1,h2⟩:=h.ow.aU h.fr (Zj h.hB hsz) ho hu hv;have hx:=h.bx.upd hu (fun q hq hm=>by simp[AQ,ob]at hq;exact h.nb (lS _ (hq▸hm)))
 have hmem:∀ q∈AP { v with i:=v' },q∈AP v∨w.heap.size<=q:=fun q hq=>by
  rcases ZI.1 hq with k|k|k|k
  .exact .inl (ZI.2 (.inl k))
  .exact(hv q k).imp (lS q) id
  .exact .inl (ZI.2 (.inr (.inr (.inl k))))
  .exact .inl (ZI.2 (.inr (.inr (.inr k))))
 have hu':Aw [b0] w1 (w1.setCell ⟨b0,3,none⟩ (.slice v'.A v'.n v'.c)):=Cs;have hx2:=aY (j:=3) (u:=.slice v'.A v'.n v'.c) hx o_;have hnb:b0 ∉ AP { v with i:=v' }:=fun hm=>(hmem _ hm).elim h.nb (fun hh=>by have:=h.lt;omega)
 have EC:Aw fs w0 w1:=⟨hu.os.trans h.up.os,hu.tape.trans h.up.tape,hu.output.trans h.up.output,Zj h.up.size hu.size,fun i hi hn=>(hu.block i (Zf hi h.up.size) (fun hm=>(h.mv i (lS i hm)).elim hn (fun hh=>by omega))).trans (h.up.block i hi hn)⟩
 exact⟨h1.upd hu' (fun q hq hm=>by simp only[Zh]at hm;exact hnb (hm▸hq)),⟨h2.nodup,h2.lo,fun q hq=>Zf (h2.hi q hq) hu'.size⟩,fun q hq=>(hmem q hq).elim (h.mv q) (fun hh=>.inr o_),hnb,hx2,h.lo,h.hB,fun s hs =>
  have H:=h.Ih s hs;have hns:s.b ∉ AP { v with i:=v' }:=fun hm=>(hmem _ hm).elim H.2.1 (fun hh=>by have:=h.slt hs;omega)
  ⟨(H.1.upd hu (fun q hq hm=>by simp[AQ,ob]at hq;exact H.2.1 (lS _ (hq▸hm)))).upd hu' (fun q hq hm=>by simp[AQ,ob]at hq;simp only[Zh]at hm;exact H.2.2.1 (hq▸hm)),hns,H.2.2⟩,
  ⟨hu'.os.trans EC.os,hu'.tape.trans EC.tape,hu'.output.trans EC.output,Zj EC.size hu'.size,fun i hi hn=>(hu'.block i (Zf hi EC.size) (fun hm=>by simp only[Zh]at hm;have:=h.lo;omega)).trans (EC.block i hi hn)⟩⟩
theorem lU(h:CB w0 fs B b0 v c sd w)(ho:Own w1 0 139 4 v'.A v'.n v'.c (l.map Ae.cells))(hu:Aw (AQ v.n.A) w w1)(hv:CZ w v.n v'):
  CB w0 fs B b0 { v with n:=v' } { c with net:=l } sd (w1.setCell ⟨b0,4,none⟩ (.slice v'.A v'.n v'.c)):=by
 have hsz:=h.up.size;obtain⟨h1,h2⟩:=h.ow.aV h.fr (Zj h.hB hsz) ho hu hv;have hx:=h.bx.upd hu (fun q hq hm=>by simp[AQ,ob]at hq;exact h.nb (aW _ (hq▸hm)))
 have hmem:∀ q∈AP { v with n:=v' },q∈AP v∨w.heap.size<=q:=fun q hq=>by
  rcases ZI.1 hq with k|k|k|k
  .exact .inl (ZI.2 (.inl k))
  .exact .inl (ZI.2 (.inr (.inl k)))
  .exact(hv q k).imp (aW q) id
  .exact .inl (ZI.2 (.inr (.inr (.inr k))))
 have hu':Aw [b0] w1 (w1.setCell ⟨b0,4,none⟩ (.slice v'.A v'.n v'.c)):=Cs;have hx2:=aY (j:=4) (u:=.slice v'.A v'.n v'.c) hx o_;have hnb:b0 ∉ AP { v with n:=v' }:=fun hm=>(hmem _ hm).elim h.nb (fun hh=>by have:=h.lt;omega)
 have EC:Aw fs w0 w1:=⟨hu.os.trans h.up.os,hu.tape.trans h.up.tape,hu.output.trans h.up.output,Zj h.up.size hu.size,fun i hi hn=>(hu.block i (Zf hi h.up.size) (fun hm=>(h.mv i (aW i hm)).elim hn (fun hh=>by omega))).trans (h.up.block i hi hn)⟩
 exact⟨h1.upd hu' (fun q hq hm=>by simp only[Zh]at hm;exact hnb (hm▸hq)),⟨h2.nodup,h2.lo,fun q hq=>Zf (h2.hi q hq) hu'.size⟩,fun q hq=>(hmem q hq).elim (h.mv q) (fun hh=>.inr o_),hnb,hx2,h.lo,h.hB,fun s hs =>
  have H:=h.Ih s hs;have hns:s.b ∉ AP { v with n:=v' }:=fun hm=>(hmem _ hm).elim H.2.1 (fun hh=>by have:=h.slt hs;omega)
  ⟨(H.1.upd hu (fun q hq hm=>by simp[AQ,ob]at hq;exact H.2.1 (aW _ (hq▸hm)))).upd hu' (fun q hq hm=>by simp[AQ,ob]at hq;simp only[Zh]at hm;exact H.2.2.1 (hq▸hm)),hns,H.2.2⟩,
  ⟨hu'.os.trans EC.os,hu'.tape.trans EC.tape,hu'.output.trans EC.output,Zj EC.size hu'.size,fun i hi hn=>(hu'.block i (Zf hi EC.size) (fun hm=>by simp only[Zh]at hm;have:=h.lo;omega)).trans (EC.block i hi hn)⟩⟩
theorem lV(h:CB w0 fs B b0 v c sd w)(ho:Own w1 0 139 4 v'.A v'.n v'.c (l.map Ae.cells))(hu:Aw (AQ v.a.A) w w1)(hv:CZ w v.a v'):
  CB w0 fs B b0 { v with a:=v' } { c with Ai:=l } sd (w1.setCell ⟨b0,5,none⟩ (.slice v'.A v'.n v'.c)):=by
 have hsz:=h.up.size;obtain⟨h1,h2⟩:=h.ow.aX h.fr (Zj h.hB hsz) ho hu hv;have hx:=h.bx.upd hu (fun q hq hm=>by simp[AQ,ob]at hq;exact h.nb (lT _ (hq▸hm)))
 have hmem:∀ q∈AP { v with a:=v' },q∈AP v∨w.heap.size<=q:=fun q hq=>by
  rcases ZI.1 hq with k|k|k|k
  .exact .inl (ZI.2 (.inl k))
  .exact .inl (ZI.2 (.inr (.inl k)))
  .exact .inl (ZI.2 (.inr (.inr (.inl k))))
  .exact(hv q k).imp (lT q) id
 have hu':Aw [b0] w1 (w1.setCell ⟨b0,5,none⟩ (.slice v'.A v'.n v'.c)):=Cs;have hx2:=aY (j:=5) (u:=.slice v'.A v'.n v'.c) hx o_;have hnb:b0 ∉ AP { v with a:=v' }:=fun hm=>(hmem _ hm).elim h.nb (fun hh=>by have:=h.lt;omega)
 have EC:Aw fs w0 w1:=⟨hu.os.trans h.up.os,hu.tape.trans h.up.tape,hu.output.trans h.up.output,Zj h.up.size hu.size,fun i hi hn=>(hu.block i (Zf hi h.up.size) (fun hm=>(h.mv i (lT i hm)).elim hn (fun hh=>by omega))).trans (h.up.block i hi hn)⟩
 exact⟨h1.upd hu' (fun q hq hm=>by simp only[Zh]at hm;exact hnb (hm▸hq)),⟨h2.nodup,h2.lo,fun q hq=>Zf (h2.hi q hq) hu'.size⟩,fun q hq=>(hmem q hq).elim (h.mv q) (fun hh=>.inr o_),hnb,hx2,h.lo,h.hB,fun s hs =>
  have H:=h.Ih s hs;have hns:s.b ∉ AP { v with a:=v' }:=fun hm=>(hmem _ hm).elim H.2.1 (fun hh=>by have:=h.slt hs;omega)
  ⟨(H.1.upd hu (fun q hq hm=>by simp[AQ,ob]at hq;exact H.2.1 (lT _ (hq▸hm)))).upd hu' (fun q hq hm=>by simp[AQ,ob]at hq;simp only[Zh]at hm;exact H.2.2.1 (hq▸hm)),hns,H.2.2⟩,
  ⟨hu'.os.trans EC.os,hu'.tape.trans EC.tape,hu'.output.trans EC.output,Zj EC.size hu'.size,fun i hi hn=>(hu'.block i (Zf hi EC.size) (fun hm=>by simp only[Zh]at hm;have:=h.lo;omega)).trans (EC.block i hi hn)⟩⟩
end
theorem ZdB{w:World}{e sz n c:Nat}{A:Option Addr}{css:List (List Value)}(h:Own w B e sz A n c css):Own w.drew B e sz A n c css:=h.keep fun _ _=>rfl
theorem Zgr(w:World)(A:Option Addr)(sz:Nat):Row w A 0 sz []:=⟨rfl,fun i cs h=>by simp at h⟩
theorem Zdx{α:Type}{w:World}{g off n sz:Nat}{l:List α}{c:α->List Value}(h:Row w (some ⟨g,off,none⟩) n sz (l.map c)){k:Nat}(hk:k<=n):Row w (some ⟨g,off+k*sz,none⟩) (n-k) sz ((l.drop k).map c):=by
 have hl:l.length=n:=h.len;refine⟨by simp[hl],fun i cs hi=>⟨g,off+k*sz,rfl,fun j v hj=>?_⟩⟩;have h1:(l.map c)[k+i]? = some cs:=by rw[<- hi,List.map_drop,List.getElem?_drop]
 obtain⟨g',off',hA,hc⟩:=h.2 (k+i) cs h1;simp only[Zi,Addr.mk.injEq,and_true]at hA;obtain⟨rfl,rfl⟩:=hA;have:=hc j v hj;rw[Nat.add_mul]at this;rw[<- this];congr 2;omega
theorem ZeF(l:List Ae)(k:Nat):(XD l k).map Ae.cells=(l.take k).map Ae.cells++(l.drop (k+1)).map Ae.cells:=by simp[XD]
theorem Zdw{w:World}{A:Option Addr}{n:Nat}(h:Row w A n 4 (l.map Ae.cells)){k:Nat}(hk:k<=n):Row w A k 4 ((l.take k).map Ae.cells):=by
 have hl:l.length=n:=by have:=h.len.out;simpa using this
 refine⟨by simp[hl];omega,fun i cs hi=>?_⟩
 have hik:i<k:=by
  have:=(Za.1 hi).1;simp at this;omega
 refine h.2 i cs ?_;rw[<- hi,List.map_take,List.getElem?_take];simp[hik]
theorem Zle(a:Int)(n:Nat)(hn:0<n):(if a.tmod n<0 then a.tmod n+n else a.tmod n)=(Di a n:Int):=by
 unfold Di;have h1:=Int.emod_nonneg a (show(n:Int)≠0 by omega);rw[Int.toNat_of_nonneg h1];have h2:=Int.emod_lt_of_pos a (show(0:Int)< n by omega);have h3:=Int.tmod_add_mul_tdiv a n;by_cases h0:0<=a
 .rw[Int.tmod_eq_emod_of_nonneg h0,if_neg o_]
 .have hb:-(n:Int)< a.tmod n:=by
   have:=Int.neg_tmod a n;have h5:=Int.emod_lt_of_pos (-a) (show(0:Int)< n by omega);have h6:(-a).tmod n=(-a) % n:=Int.tmod_eq_emod_of_nonneg o_;omega
  have hle:a.tmod n<=0:=by
   have:=Int.neg_tmod a n;have h5:=Int.emod_nonneg (-a) (show(n:Int)≠0 by omega);have h6:(-a).tmod n=(-a) % n:=Int.tmod_eq_emod_of_nonneg o_;omega
  have hd:(a.tmod n) % n=a % n:=by
   have e:a=a.tmod n+n *(a.tdiv n):=h3.symm;conv=>rhs;rw[e]
   rw[Int.add_mul_emod_self_left]
  by_cases hz:a.tmod n<0
  .rw[if_pos hz,<- hd];have e:a.tmod n % n=(a.tmod n+n*1) % n:=by rw[Int.add_mul_emod_self_left]
   rw[e,Int.mul_one];exact(Int.emod_eq_of_lt o_ o_).symm
  .have hz0:a.tmod n=0:=by omega
   rw[if_neg hz,<- hd,hz0];simp
theorem lW(v:Sv)(l:List Ae)(p:Ae)(w:World)(hm:l.length<=4194304)(ho:Own w 0 139 4 v.A v.n v.c (l.map Ae.cells)):
  Calls prog 74 #[.slice v.A v.n v.c,Nz p.Cr p.number p.text p.sum] w fun e w'=>∃ v':Sv,e=.returned (.slice v'.A v'.n v'.c)/\Own w' 0 139 4 v'.A v'.n v'.c ((Es l p).map Ae.cells)/\Aw (AQ v.A) w w'/\CZ w v v':=by
 obtain⟨j0,hjj,hr0,hr1,hr2⟩:=info_parts qP;obtain⟨A,n,c⟩:=v;dsimp only at *
 have hn:l.length=n:=by have:=ho.len;simpa using this
 by_cases h12:12<=n
 .have hd:(12:Int)<=(n:Int):=by omega
  have e:Es l p=l:=by unfold Es;rw[if_pos o_]
  go_enter func74,ntmps74;go_wp2_with fail;go_ret;exact⟨⟨A,n,c⟩,rfl,by rw[e];exact ho.Aj _,(Aw.refl _ _).Aj _,CZ.refl _ _⟩
 .have hd:¬(12:Int)<=(n:Int):=by omega
  have e:Es l p=l++[p]:=by unfold Es;rw[if_neg o_]
  go_enter func74,ntmps74;go_wp2_with (at_builtin;refine ZX rfl (.tmp 9) (.tmp 11) 75 rfl 0 139 4 40 j0 _ underlying75 hjj hr0 hr1 hr2 rfl o_ A n c _ rfl ((ho.Aj _).Aj _) _ 1 1 [p.cells] rfl (Yh _ _ _ 4 _ s_) (by simp[Ae.cells]) (by simp[Ae.cells,Value.oneCell']) (by simp only[maxLen];omega) o_ (Zs _) ?_;intro A2 c2 w2 ho2 hg2 Ol);go_ret;refine⟨⟨A2,n+1,c2⟩,rfl,by first |(rw[e];simpa using ho2)| simpa using ho2,(((Aw.refl _ _).Aj _).Aj _).trans (XV hg2),fun q hq=>?_⟩;rcases Ol with h1|h1
  .exact .inl (ZR.2 (h1▸ZR.1 hq))
  .right;have h2:=ZR.1 hq;rw[h1]at h2;have:=Z7 h2;simp at this;omega
theorem JC(a:Int)(n:Nat)(w:World)(h0:0<n)(hn:n<=4194304)(ha:-9223372036854775808<=a/\a<=9223372036854775807):
  Calls prog 77 #[.int .i64 a,.int .i64 (n:Int)] w fun e w'=>e=LA (Di a n)/\w=w':=by
 have hs:=Zle a n h0;have hlt:=OO (a:=a) h0;have hnz:¬(n:Int)=0:=by omega
 have hab:-(n:Int)<=a.tmod n/\a.tmod n<n:=by
  by_cases hc:a.tmod n<0
  .rw[if_pos hc]at hs;omega
  .rw[if_neg hc]at hs;omega
 generalize hS:(Di a n:Int)=S at *
 have HS:=Z5 hs;clear hs hS;generalize hT:a.tmod (n:Int)=T at *
 have hw:IntKind.i64.wrap T=T:=by rw[IntKind.wrap_i64];omega
 have hw2:IntKind.i64.wrap (T+n)=T+n:=by rw[IntKind.wrap_i64];omega
 by_cases hc:T<0
 .have hv:T+(n:Int)=S:=by have:=HS.out;rw[if_pos hc]at this;exact this
  have HV:=Z5 hv;clear hv HS;go_enter func77,ntmps77;go_wp2;go_ret;refine⟨?_,rfl⟩;rw[<- HV.out]
  rfl
 .have hv:T=S:=by have:=HS.out;rw[if_neg hc]at this;exact this
  have HV:=Z5 hv;clear hv HS;go_enter func77,ntmps77;go_wp2;go_ret;refine⟨?_,rfl⟩;rw[<- HV.out]
  rfl
theorem Z9s(n:Int)(s:ByteArray)(w:World)(h0:-9223372036854775808<=n)(h1:n<=9223372036854775807)(hs:s.size<=4194304)(hT:Ct w):
  Calls prog 75 #[.bool false,.int .i64 n,.string s] w fun e w'=>e=.returned (Nz (YX false n s).Cr (YX false n s).number (YX false n s).text (YX false n s).sum)/\Below w.heap.size w w':=by
 have HH:=Z5 (Jn n s 0 (((w.alloc (.cells #[.bool false,.int .i64 0,.string ⟨#[]⟩,.int .i64 0] 139)).alloc (.cells #[.bool false,.int .i64 n,.string s,.int .i64 0] 139))) h0 h1 hs (hT.below (Ze (Ze (Below.refl _ _) _) _)));go_enter func75,ntmps75;go_wp2_with fail;refine Zb HH.out ?_;rintro e w1 ⟨rfl,hb1⟩;have k0:=JT hb1 w.heap.size AR;have f0:=Q6 hb1 w.heap.size AR;have k1:=JT hb1 (w.heap.size+1) s_;have f1:=Q6 hb1 (w.heap.size+1) s_;have z1:w.heap.size+2<=w1.heap.size:=RX hb1;clear HH;generalize hP:Xd n s false=P at *
 go_wp2_with fail;refine bodyPost_ret (v:=Nz false n s P) (by simp[*,results,results75,go_sem]) rfl ⟨by simp[YX,hP],?_⟩;exact Dq (Zg (Ze (Ze (Below.refl w.heap.size w) _) _) hb1) (fs:=[w.heap.size,w.heap.size+1]) (by repeat(first|with_reducible exact Aw.refl _ _ |((with_reducible refine Aw.AA ?_ ?_ _);rotate_left;simp))) s_
theorem Z4u(n:Int)(s:ByteArray)(w:World)(h0:-9223372036854775808<=n)(h1:n<=9223372036854775807)(hs:s.size<=4194304)(hT:Ct w):
  Calls prog 75 #[.bool true,.int .i64 n,.string s] w fun e w'=>e=.returned (Nz (YX true n s).Cr (YX true n s).number (YX true n s).text (YX true n s).sum)/\Below w.heap.size w w':=by
 have HH:=Z5 (JQ n s 0 (((w.alloc (.cells #[.bool false,.int .i64 0,.string ⟨#[]⟩,.int .i64 0] 139)).alloc (.cells #[.bool true,.int .i64 n,.string s,.int .i64 0] 139))) h0 h1 hs (hT.below (Ze (Ze (Below.refl _ _) _) _)));go_enter func75,ntmps75;go_wp2_with fail;refine Zb HH.out ?_;rintro e w1 ⟨rfl,hb1⟩;have k0:=JT hb1 w.heap.size AR;have f0:=Q6 hb1 w.heap.size AR;have k1:=JT hb1 (w.heap.size+1) s_;have f1:=Q6 hb1 (w.heap.size+1) s_;have z1:w.heap.size+2<=w1.heap.size:=RX hb1;clear HH;generalize hP:Xd n s true=P at *
 go_wp2_with fail;refine bodyPost_ret (v:=Nz true n s P) (by simp[*,results,results75,go_sem]) rfl ⟨by simp[YX,hP],?_⟩;exact Dq (Zg (Ze (Ze (Below.refl w.heap.size w) _) _) hb1) (fs:=[w.heap.size,w.heap.size+1]) (by repeat(first|with_reducible exact Aw.refl _ _ |((with_reducible refine Aw.AA ?_ ?_ _);rotate_left;simp))) s_
theorem lX(v:Sv)(l:List Ae)(k:Nat)(w:World)(hm:l.length<=4194304)(hk:k<l.length)(ho:Own w 0 139 4 v.A v.n v.c (l.map Ae.cells)):
  Calls prog 106 #[.slice v.A v.n v.c,.int .i64 (k:Int)] w fun e w'=>∃ v':Sv,e=.returned (.slice v'.A v'.n v'.c)/\Own w' w.heap.size 139 4 v'.A v'.n v'.c ((XD l k).map Ae.cells)/\Below w.heap.size w w':=by
 obtain⟨j0,hjj,hr0,hr1,hr2⟩:=info_parts qP;obtain⟨A,n,c⟩:=v;dsimp only at *
 have hn:l.length=n:=by have:=ho.len;simpa using this
 obtain⟨hnc,hcm⟩:=ho.nc;unfold maxLen at hcm;rcases ho.cases with⟨_,h0,_⟩|⟨g,rfl,_,hgl,_⟩
 .omega
 have hk0:(0:Int)<=(k:Int):=by omega
 have hkc:(k:Int)<=(c:Int):=by omega
 have NL:IntKind.i64.wrap ((k:Int)+1)=(k:Int)+1:=by rw[IntKind.wrap_i64];omega
 have hk1:(k:Int)+1<=(n:Int):=by omega
 have hkn:(n:Int)<=(c:Int):=by omega
 have hk10:(0:Int)<=(k:Int)+1:=by omega
 have hrow:=Z5 ho.row;have hDK:=Z5 (ZeF l k);by_cases hcc:k+1=c
 .subst hcc;obtain rfl:n=k+1:=by omega
  have hkk:¬(k:Int)+1 <((k+1:Nat):Int):=by omega
  have tO:(k:Int)<=(k:Int)+1:=by omega
  go_enter func106,ntmps106;go_wp2_with fail
  go_region_law (first
   |(refine YB rfl (.tmp 5) (.tmp 8) 75 rfl w.heap.size 139 4 40 j0 _ underlying75 hjj hr0 hr1 hr2 rfl o_ (some ⟨w.heap.size,0,none⟩) 0 0 [] rfl (ZdB (VS w 139 4 (Zd _) rfl)) (some ⟨g,0,none⟩) k (k+1) ((l.take k).map Ae.cells) rfl (Row.below (Zdw hrow.out o_) (ZY (Ze (Below.refl _ _) _))) VT VU (by simp only[maxLen];omega) o_ s_ ?_;intro A4 c4 w4 C9 hg4 E5;simp only[Nat.zero_add,List.nil_append]at C9;have h4:Below w.heap.size w w4:=Qn (ZY (Ze (Below.refl _ _) _)) hg4 (fun q hq=>by simp[ob]at hq;omega))
   |(refine YB rfl (.tmp 9) (.tmp 13) 75 rfl w.heap.size 139 4 40 j0 _ underlying75 hjj hr0 hr1 hr2 rfl o_ A4 k c4 _ rfl C9 (some ⟨g,0,none⟩) 0 0 [] rfl (Zgr _ _ _) s_ s_ (by simp only[maxLen];omega) o_ h4.size ?_;intro A5 c5 w5 Cn hg5 Eo))
  all_goals
   have H5:=Qn h4 hg5 (fun q hq=>(C9.lt q hq).1);go_wp2_with fail;go_ret;exact⟨⟨A5,k+0,c5⟩,rfl,by rw[hDK.out];rw[show l.drop (k+1)=[]from List.drop_of_length_le o_];simpa using Cn,H5⟩
 .have Z6w:(k:Int)+1 <(c:Int):=by omega
  have hce:¬ c=k+1:=by omega
  go_enter func106,ntmps106;go_wp2_with fail
  go_region_law (first
   |(refine YB rfl (.tmp 5) (.tmp 8) 75 rfl w.heap.size 139 4 40 j0 _ underlying75 hjj hr0 hr1 hr2 rfl o_ (some ⟨w.heap.size,0,none⟩) 0 0 [] rfl (ZdB (VS w 139 4 (Zd _) rfl)) (some ⟨g,0,none⟩) k c ((l.take k).map Ae.cells) rfl (Row.below (Zdw hrow.out o_) (ZY (Ze (Below.refl _ _) _))) VT VU (by simp only[maxLen];omega) o_ s_ ?_;intro A4 c4 w4 C9 hg4 E5;simp only[Nat.zero_add,List.nil_append]at C9;have h4:Below w.heap.size w w4:=Qn (ZY (Ze (Below.refl _ _) _)) hg4 (fun q hq=>by simp[ob]at hq;omega))
   |(refine YB rfl (.tmp 9) (.tmp 13) 75 rfl w.heap.size 139 4 40 j0 _ underlying75 hjj hr0 hr1 hr2 rfl o_ A4 k c4 _ rfl C9 (some ⟨g,(k+1)* 4,none⟩) (n-(k+1)) (c-(k+1)) ((l.drop (k+1)).map Ae.cells) rfl (Row.below (by have:=Zdx (k:=k+1) hrow.out o_;simpa using this) h4) VT VU (by simp only[maxLen];omega) o_ h4.size ?_;intro A5 c5 w5 Cn hg5 Eo))
  all_goals
   have H5:=Qn h4 hg5 (fun q hq=>(C9.lt q hq).1);go_wp2_with fail;go_ret;exact⟨⟨A5,k+(n-(k+1)),c5⟩,rfl,by rw[hDK.out];exact Cn,H5⟩
theorem CB.at_{w0 w R:World}{fs:List Nat}{b0:Nat}{v:CV}{c:Chan}{sd:List BA}(h:CB w0 fs B b0 v c sd w)(e:Hid (R=w)):CB w0 fs B b0 v c sd R:=by rw[e.out];exact h
structure CG(m:Int)(c:Chan):Prop where
 m0:0<=m
 m1:m<=1000000
 q:∀ s∈c.queue,s.size<=4194304
 net:∀ p∈c.net,p.text.size<=4194304/\-9223372036854775808<=p.number/\p.number<=9223372036854775807
 Ai:∀ p∈c.Ai,p.text.size<=4194304/\-9223372036854775808<=p.number/\p.number<=9223372036854775807
 lq:c.queue.length<=8
 li:(c.inbox.length:Int)<=4194304+m
 ln:c.net.length<=12
 la:c.Ai.length<=12
 b0:0<=c.base
 b1:c.base+c.queue.length<=1000008
 e0:0<=c.expected
 e1:c.expected<=1000008+m
theorem Zhs(v:CV)(c:Chan)(kk:Nat)(Wb:World)(w:World){m:Int}(hok:CG m c)(hkk:kk<c.net.length)(ho:BM w v c)(hf:Ag Wb.heap.size w (AP v))(hB:Wb.heap.size<=w.heap.size)(hT:Ct Wb)(Cq:Below Wb.heap.size Wb w):
  Calls prog 76 #[YA v c.base c.expected,.int .i64 4,.int .i64 (kk:Int)] w fun e w'=>UW w (AP v) Wb.heap.size (Eb c 4 kk) e w':=by
 have Hq:∀ (b0:Nat) (v2:CV) (c2:Chan) (sd:List BA) (w':World),CB w (AP v) Wb.heap.size b0 v2 c2 sd w'->Ct w':=fun _ _ _ _ _ h=>hT.below (Dq Cq h.up hf.lo)
 have HT:=Z5 Hq;clear Hq hT Cq;obtain⟨vq,vi,⟨nA,nn,nc⟩,va⟩:=v;have hln:c.net.length=nn:=by have:=ho.n.len;simpa using this
 have hpi:(0:Int)<=(kk:Int):=by omega
 have hpl:(kk:Int)<(nn:Int):=by omega
 obtain⟨g,rfl,hgw⟩:∃ g,nA=some ⟨g,0,none⟩/\g<w.heap.size:=by
  rcases ho.n.cases with⟨_,h0,_⟩|⟨g,h1,_,h2,_⟩
  .exact absurd (show nn=0 from h0) o_
  .exact⟨g,h1,h2⟩
 obtain⟨p,g',off',hp,hA,y0,y1,y2,y3⟩:=RowK.at_ ho.n.row (k:=kk) (by rw[<- hln];exact hkk);simp only[Zi,Addr.mk.injEq,and_true]at hA;obtain⟨rfl,rfl⟩:=hA;simp only[Nat.zero_add]at y0 y1 y2 y3;have hpm:p∈c.net:=Z6 hp.out;obtain⟨hp1,hp2,hp3⟩:=hok.net p hpm;have ED:=Z5 hok;clear hok hpm
 have hE:Hid (Eb c 4 kk ={ c with net:=Es c.net p }):=by
  unfold Hid Eb;rw[hp.out];rfl
 rw[hE.out];clear hE;have Ba:=Z5 (Jm (UY ho hf hB) 77 zC);have DY:=Z5 (Jm Ba.out 139 p.cells);have UZ:∀ o,w.frozen? ⟨g,o,none⟩=false:=ho.n.frozen rfl;clear ho hf Ba hln;go_enter func76,ntmps76;go_wp2_with fail;refine Zb (lW ⟨some ⟨g,0,none⟩,nn,nc⟩ c.net p _ (by have:=ED.out.ln;omega) ?_) ?_
 .exact DY.out.ow.n
 rintro e w1 ⟨v',rfl,ho1,hu1,hv1⟩;have Ii:=Z5 (lU DY.out ho1 hu1 hv1);obtain⟨x0,x1,x2,x3,x4,x5,xf,xz⟩:=XK DY.out hu1 (fun q hq=>ZI.2 (.inr (.inr (.inl hq))));obtain⟨r0,r1,r2,r3,r4,r5,rf,rz⟩:=CB.Bg DY.out hu1 (fun q hq=>ZI.2 (.inr (.inr (.inl hq)))) (b:=w.heap.size+1) (t:=77) s_;clear ho1 hu1 hv1;go_wp2_with fail;refine bodyPost_ret (v:=YA ⟨vq,vi,v',va⟩ c.base c.expected) (by simp[*,results,results76,go_sem]) rfl ?_;refine⟨_,rfl,?_⟩;exact QS Ii.out (s:=⟨w.heap.size+1,77,zC⟩) s_ (((((((Aw.refl _ _).AA s_ _).AA s_ _).AA s_ _).AA s_ _).AA s_ _).AA s_ _)
theorem Zhr(v:CV)(c:Chan)(kk:Nat)(Wb:World)(w:World){m:Int}(hok:CG m c)(hkk:kk<c.net.length)(ho:BM w v c)(hf:Ag Wb.heap.size w (AP v))(hB:Wb.heap.size<=w.heap.size)(hT:Ct Wb)(Cq:Below Wb.heap.size Wb w):
  Calls prog 76 #[YA v c.base c.expected,.int .i64 5,.int .i64 (kk:Int)] w fun e w'=>UW w (AP v) Wb.heap.size (Eb c 5 kk) e w':=by
 have Hq:∀ (b0:Nat) (v2:CV) (c2:Chan) (sd:List BA) (w':World),CB w (AP v) Wb.heap.size b0 v2 c2 sd w'->Ct w':=fun _ _ _ _ _ h=>hT.below (Dq Cq h.up hf.lo)
 have HT:=Z5 Hq;clear Hq hT Cq;obtain⟨vq,vi,⟨nA,nn,nc⟩,va⟩:=v;have hln:c.net.length=nn:=by have:=ho.n.len;simpa using this
 have hpi:(0:Int)<=(kk:Int):=by omega
 have hpl:(kk:Int)<(nn:Int):=by omega
 obtain⟨g,rfl,hgw⟩:∃ g,nA=some ⟨g,0,none⟩/\g<w.heap.size:=by
  rcases ho.n.cases with⟨_,h0,_⟩|⟨g,h1,_,h2,_⟩
  .exact absurd (show nn=0 from h0) o_
  .exact⟨g,h1,h2⟩
 obtain⟨p,g',off',hp,hA,y0,y1,y2,y3⟩:=RowK.at_ ho.n.row (k:=kk) (by rw[<- hln];exact hkk);simp only[Zi,Addr.mk.injEq,and_true]at hA;obtain⟨rfl,rfl⟩:=hA;simp only[Nat.zero_add]at y0 y1 y2 y3;have hpm:p∈c.net:=Z6 hp.out;obtain⟨hp1,hp2,hp3⟩:=hok.net p hpm;have ED:=Z5 hok;clear hok hpm
 have hE:Hid (Eb c 5 kk ={ c with net:=T9 c.net kk }):=by
  unfold Hid Eb;rw[hp.out];rfl
 rw[hE.out];clear hE;rw[uT hp.out];generalize hW:IntKind.i64.wrap (p.sum+1)=SU;have Ba:=Z5 (Jm (UY ho hf hB) 77 zC);have DY:=Z5 (Jm Ba.out 139 p.cells);have UZ:∀ o,w.frozen? ⟨g,o,none⟩=false:=ho.n.frozen rfl;clear ho hf Ba hln;go_enter func76,ntmps76;have hb3:Below w.heap.size w (((w.alloc (.cells #[.slice vq.A vq.n vq.c,.int .i64 c.base,.int .i64 c.expected,.slice vi.A vi.n vi.c,.slice (some ⟨g,0,none⟩) nn nc,.slice va.A va.n va.c] 77)).alloc (.cells #[.slice none 0 0,.int .i64 0,.int .i64 0,.slice none 0 0,.slice none 0 0,.slice none 0 0] 77)).alloc (.cells #[.bool p.Cr,.int .i64 p.number,.string p.text,.int .i64 p.sum] 139)):=Ze (Ze (Ze (Below.refl _ _) _) _) _;have y33:=Zm hb3 y3;have yf3:=fun o=>(Q6 hb3 g hgw o).trans (UZ o)
 clear hb3;have Ii:=Z5 (Znk DY.out rfl hp.out SU);go_wp2_with fail;refine bodyPost_ret (v:=YA ⟨vq,vi,⟨some ⟨g,0,none⟩,nn,nc⟩,va⟩ c.base c.expected) (by simp[*,results,results76,go_sem]) rfl ?_;refine⟨_,rfl,?_⟩;exact QS Ii.out (s:=⟨w.heap.size+1,77,zC⟩) s_ (((((((Aw.refl _ _).AA s_ _).AA s_ _).AA s_ _).AA s_ _).AA s_ _).AA s_ _)
theorem Zht(v:CV)(c:Chan)(kk:Nat)(Wb:World)(w:World){m:Int}(hok:CG m c)(hkk:kk<c.net.length)(ho:BM w v c)(hf:Ag Wb.heap.size w (AP v))(hB:Wb.heap.size<=w.heap.size)(hT:Ct Wb)(Cq:Below Wb.heap.size Wb w):
  Calls prog 76 #[YA v c.base c.expected,.int .i64 3,.int .i64 (kk:Int)] w fun e w'=>UW w (AP v) Wb.heap.size (Eb c 3 kk) e w':=by
 have Hq:∀ (b0:Nat) (v2:CV) (c2:Chan) (sd:List BA) (w':World),CB w (AP v) Wb.heap.size b0 v2 c2 sd w'->Ct w':=fun _ _ _ _ _ h=>hT.below (Dq Cq h.up hf.lo)
 have HT:=Z5 Hq;clear Hq hT Cq;obtain⟨vq,vi,⟨nA,nn,nc⟩,va⟩:=v;have hln:c.net.length=nn:=by have:=ho.n.len;simpa using this
 have hpi:(0:Int)<=(kk:Int):=by omega
 have hpl:(kk:Int)<(nn:Int):=by omega
 obtain⟨g,rfl,hgw⟩:∃ g,nA=some ⟨g,0,none⟩/\g<w.heap.size:=by
  rcases ho.n.cases with⟨_,h0,_⟩|⟨g,h1,_,h2,_⟩
  .exact absurd (show nn=0 from h0) o_
  .exact⟨g,h1,h2⟩
 obtain⟨p,g',off',hp,hA,y0,y1,y2,y3⟩:=RowK.at_ ho.n.row (k:=kk) (by rw[<- hln];exact hkk);simp only[Zi,Addr.mk.injEq,and_true]at hA;obtain⟨rfl,rfl⟩:=hA;simp only[Nat.zero_add]at y0 y1 y2 y3;have hpm:p∈c.net:=Z6 hp.out;obtain⟨hp1,hp2,hp3⟩:=hok.net p hpm;have ED:=Z5 hok;clear hok hpm
 have hE:Hid (Eb c 3 kk ={ c with net:=XD c.net kk }):=by
  unfold Hid Eb;rw[hp.out];rfl
 rw[hE.out];clear hE;have Ba:=Z5 (Jm (UY ho hf hB) 77 zC);have DY:=Z5 (Jm Ba.out 139 p.cells);have UZ:∀ o,w.frozen? ⟨g,o,none⟩=false:=ho.n.frozen rfl;clear ho hf Ba hln;go_enter func76,ntmps76;go_wp2_with fail;refine Zb (lX ⟨some ⟨g,0,none⟩,nn,nc⟩ c.net kk _ (by have:=ED.out.ln;omega) hkk ?_) ?_
 .exact DY.out.ow.n
 rintro e w1 ⟨v',rfl,ho1,hb1⟩;have Ii:=Z5 (lU DY.out ho1.zero (YI hb1 _) (QF ho1));obtain⟨x0,x1,x2,x3,x4,x5,xf,xz⟩:=XK DY.out (YI hb1 _) (fun q hq=>ZI.2 (.inr (.inr (.inl hq))));obtain⟨r0,r1,r2,r3,r4,r5,rf,rz⟩:=CB.Bg DY.out (YI hb1 _) (fun q hq=>ZI.2 (.inr (.inr (.inl hq)))) (b:=w.heap.size+1) (t:=77) s_;obtain⟨p0,p1,p2,p3,pf,pz⟩:=Rc DY.out (YI hb1 _) (fun q hq=>ZI.2 (.inr (.inr (.inl hq)))) (b:=w.heap.size+1+1) (t:=139) (p:=p) s_;clear ho1 hb1 DY y0 y1 y2 y3 UZ;go_wp2_with fail;refine bodyPost_ret (v:=YA ⟨vq,vi,v',va⟩ c.base c.expected) (by simp[*,results,results76,go_sem]) rfl ?_;refine⟨_,rfl,?_⟩;exact QS Ii.out (s:=⟨w.heap.size+1,77,zC⟩) s_ (((((((Aw.refl _ _).AA s_ _).AA s_ _).AA s_ _).AA s_ _).AA s_ _).AA s_ _)
theorem Zhu(v:CV)(c:Chan)(kk:Nat)(Wb:World)(w:World){m:Int}(hok:CG m c)(hkk:kk<c.net.length)(ho:BM w v c)(hf:Ag Wb.heap.size w (AP v))(hB:Wb.heap.size<=w.heap.size)(hT:Ct Wb)(Cq:Below Wb.heap.size Wb w):
  Calls prog 76 #[YA v c.base c.expected,.int .i64 2,.int .i64 (kk:Int)] w fun e w'=>UW w (AP v) Wb.heap.size (Eb c 2 kk) e w':=by
 have Hq:∀ (b0:Nat) (v2:CV) (c2:Chan) (sd:List BA) (w':World),CB w (AP v) Wb.heap.size b0 v2 c2 sd w'->Ct w':=fun _ _ _ _ _ h=>hT.below (Dq Cq h.up hf.lo)
 have HT:=Z5 Hq;clear Hq hT Cq;obtain⟨vq,vi,⟨nA,nn,nc⟩,va⟩:=v;have hln:c.net.length=nn:=by have:=ho.n.len;simpa using this
 have hpi:(0:Int)<=(kk:Int):=by omega
 have hpl:(kk:Int)<(nn:Int):=by omega
 obtain⟨g,rfl,hgw⟩:∃ g,nA=some ⟨g,0,none⟩/\g<w.heap.size:=by
  rcases ho.n.cases with⟨_,h0,_⟩|⟨g,h1,_,h2,_⟩
  .exact absurd (show nn=0 from h0) o_
  .exact⟨g,h1,h2⟩
 obtain⟨p,g',off',hp,hA,y0,y1,y2,y3⟩:=RowK.at_ ho.n.row (k:=kk) (by rw[<- hln];exact hkk);simp only[Zi,Addr.mk.injEq,and_true]at hA;obtain⟨rfl,rfl⟩:=hA;simp only[Nat.zero_add]at y0 y1 y2 y3;have hpm:p∈c.net:=Z6 hp.out;obtain⟨hp1,hp2,hp3⟩:=hok.net p hpm;have ED:=Z5 hok;clear hok hpm
 have hE:Hid (Eb c 2 kk=CU { c with net:=XD c.net kk } p):=by
  unfold Hid Eb;rw[hp.out];rfl
 rw[hE.out];clear hE;generalize hin:KT p=bi;have NQ:Hid ((p.sum == Xd p.number p.text p.Cr)=bi):=hin;clear hin;have Ba:=Z5 (Jm (UY ho hf hB) 77 zC);have DY:=Z5 (Jm Ba.out 139 p.cells);have UZ:∀ o,w.frozen? ⟨g,o,none⟩=false:=ho.n.frozen rfl;clear ho hf Ba hln;go_enter func76,ntmps76;go_wp2_with fail;refine Zb (lX ⟨some ⟨g,0,none⟩,nn,nc⟩ c.net kk _ (by have:=ED.out.ln;omega) hkk ?_) ?_
 .exact DY.out.ow.n
 rintro e w1 ⟨v',rfl,ho1,hb1⟩;have Ii:=Z5 (lU DY.out ho1.zero (YI hb1 _) (QF ho1));obtain⟨x0,x1,x2,x3,x4,x5,xf,xz⟩:=XK DY.out (YI hb1 _) (fun q hq=>ZI.2 (.inr (.inr (.inl hq))));obtain⟨r0,r1,r2,r3,r4,r5,rf,rz⟩:=CB.Bg DY.out (YI hb1 _) (fun q hq=>ZI.2 (.inr (.inr (.inl hq)))) (b:=w.heap.size+1) (t:=77) s_;obtain⟨p0,p1,p2,p3,pf,pz⟩:=Rc DY.out (YI hb1 _) (fun q hq=>ZI.2 (.inr (.inr (.inl hq)))) (b:=w.heap.size+1+1) (t:=139) (p:=p) s_;clear ho1 hb1 DY y0 y1 y2 y3 UZ;go_wp2_with fail;refine Zb (Z1Z p.Cr p.number p.text p.sum _ hp2 hp3 hp1 (HT.out _ _ _ _ _ Ii.out)) ?_;rw[NQ.out];rintro e w2 ⟨rfl,hb2⟩;have DZ:=Z5 (CB.below Ii.out hb2);obtain⟨x0,x1,x2,x3,x4,x5,xf,xz⟩:=CB.DR DZ.out;obtain⟨r0,r1,r2,r3,r4,r5,rf,rz⟩:=CB.Bg DZ.out (Aw.refl [] _) (fun q hq=>by cases hq) (b:=w.heap.size+1) (t:=77) s_;obtain⟨p0,p1,p2,p3,pf,pz⟩:=Rc DZ.out (Aw.refl [] _) (fun q hq=>by cases hq) (b:=w.heap.size+1+1) (t:=139) (p:=p) s_;clear hb2 Ii;by_cases KU:bi=true/\p.Cr=false;rotate_left
 .have hE2:Hid (CU { c with net:=XD c.net kk } p ={ c with net:=XD c.net kk }):=by
   unfold Hid CU;rw[if_neg];rintro⟨h1,h2⟩;exact KU ⟨NQ.out.symm.trans h1,h2⟩
  cases hb:bi
  .subst hb;go_wp2_with fail;refine bodyPost_ret (v:=YA ⟨vq,vi,v',va⟩ c.base c.expected) (by simp[*,results,results76,go_sem]) rfl ?_;rw[hE2.out];refine⟨_,rfl,?_⟩;exact QS DZ.out (s:=⟨w.heap.size+1,77,zC⟩) s_ Cs
  .subst hb;have G4:p.Cr=true:=by cases hq:p.Cr with|true=>rfl|false=>exact absurd ⟨rfl,hq⟩ KU
   rw[G4]at p0;go_wp2_with fail;refine bodyPost_ret (v:=YA ⟨vq,vi,v',va⟩ c.base c.expected) (by simp[*,results,results76,go_sem]) rfl ?_;rw[hE2.out];refine⟨_,rfl,?_⟩;exact QS DZ.out (s:=⟨w.heap.size+1,77,zC⟩) s_ Cs
 obtain⟨rfl,G4⟩:=KU;rw[G4]at p0;have aZ:vi.n=c.inbox.length:=by have h1:=DZ.out.ow.i.len;simp at h1;exact h1.symm
 have Z6x:(vi.n:Int)<=5194304:=by have h1:=ED.out.li;have h2:=ED.out.m1;omega
 have hex:0<=c.expected/\c.expected<=2000008:=by have h1:=ED.out.e0;have h2:=ED.out.e1;have h3:=ED.out.m1;exact⟨h1,o_⟩
 obtain⟨Z6y,Z6z⟩:=hex;have hla:c.Ai.length<=4194304:=by have:=ED.out.la;omega
 clear aZ;by_cases Hm:p.number=c.expected
 .have hE2:Hid (CU { c with net:=XD c.net kk } p ={ c with net:=XD c.net kk,inbox:=c.inbox++[p.text],expected:=c.expected+1,Ai:=Es c.Ai (YX true (c.expected+1) ⟨#[]⟩)}):=by
   unfold Hid CU;rw[if_pos ⟨NQ.out,G4⟩,if_pos Hm]
  have hw:IntKind.i64.wrap (c.expected+1)=c.expected+1:=by rw[IntKind.wrap_i64];omega
  obtain⟨i0,hii,hq0,hq1,hq2⟩:=info_parts JO;rw[Hm]at p1;clear Hm;have tok:True:=trivial;go_wp2_with (at_builtin;have _t:=tok;refine ZX rfl (.tmp 60) (.tmp 63) 74 rfl 0 9 1 16 i0 _ underlying74 hii hq0 hq1 hq2 rfl o_ vi.A vi.n vi.c (c.inbox.map ZZ) rfl (DZ.out.ow.i.Aj _) _ 1 1 [[.string p.text]] rfl (Yh _ _ [.string p.text] 1 _ s_) s_ (by simp[Value.oneCell']) (by simp only[maxLen];omega) o_ (Zs _) ?_;clear tok _t;intro A5 c5 w5 Cn hg5 Eo;have u5:Aw (AQ vi.A) w2 w5:=((Aw.refl _ _).Aj _).trans (XV hg5);obtain⟨x0,x1,x2,x3,x4,x5,xf,xz⟩:=XK DZ.out u5 (fun q hq=>ZI.2 (.inr (.inl hq)));obtain⟨r0,r1,r2,r3,r4,r5,rf,rz⟩:=CB.Bg DZ.out u5 (fun q hq=>ZI.2 (.inr (.inl hq))) (b:=w.heap.size+1) (t:=77) s_)
  have hv5:CZ w2 vi ⟨A5,vi.n+1,c5⟩:=fun q hq=>by
   rcases Eo with h1|h1
   .exact .inl (ZR.2 (h1▸ZR.1 hq))
   .right;have h2:=ZR.1 hq;rw[h1]at h2;have:=Z7 h2;simp at this;omega
  have CB5:=Zl1 DZ.out (v':=⟨A5,vi.n+1,c5⟩) (l:=c.inbox++[p.text]) (by rw[List.map_append];exact Cn) u5 hv5;have V3:=Z5 (ZrX CB5 (c.expected+1));clear CB5 Cn hg5 Eo u5 hv5 DZ;refine ZQ fun R hR=>?_
  have LY:=Z5 (CB.at_ V3.out hR);have OP:=Z5 (CB.below LY.out (ZY (Below.refl _ _)));obtain⟨x0,x1,x2,x3,x4,x5,xf,xz⟩:=CB.DR LY.out;obtain⟨r0,r1,r2,r3,r4,r5,rf,rz⟩:=CB.Bg LY.out (Aw.refl [] _) (fun q hq=>by cases hq) (b:=w.heap.size+1) (t:=77) s_;clear hR V3
  go_region_law (first
   |(go_simp;go_at_call 75;refine(Z4u (c.expected+1) ⟨#[]⟩ _ o_ o_ AO (HT.out _ _ _ _ _ OP.out)).mono ?_;rintro e w7 ⟨rfl,FU⟩;have G5:=Z5 (CB.below OP.out FU);obtain⟨x0,x1,x2,x3,x4,x5,xf,xz⟩:=CB.DR G5.out;obtain⟨r0,r1,r2,r3,r4,r5,rf,rz⟩:=CB.Bg G5.out (Aw.refl [] _) (fun q hq=>by cases hq) (b:=w.heap.size+1) (t:=77) s_)
   |(go_simp;go_at_call 74;refine(lW va c.Ai (YX true (c.expected+1) ⟨#[]⟩) _ hla ?_).mono ?_;exact G5.out.ow.a;rintro e w8 ⟨v8,rfl,OQ,NU,Ta⟩;have V4:=Z5 (lV G5.out OQ NU Ta);obtain⟨x0,x1,x2,x3,x4,x5,xf,xz⟩:=XK G5.out NU (fun q hq=>ZI.2 (.inr (.inr (.inr hq))));obtain⟨r0,r1,r2,r3,r4,r5,rf,rz⟩:=CB.Bg G5.out NU (fun q hq=>ZI.2 (.inr (.inr (.inr hq)))) (b:=w.heap.size+1) (t:=77) s_))
  all_goals
   clear G5;go_wp2_with fail;refine bodyPost_ret (v:=YA ⟨vq,⟨A5,vi.n+1,c5⟩,v',v8⟩ c.base (c.expected+1)) (by simp[*,results,results76,go_sem]) rfl ?_;rw[hE2.out];refine⟨_,rfl,?_⟩;exact QS V4.out (s:=⟨w.heap.size+1,77,zC⟩) s_ Cs
 .have hE2:Hid (CU { c with net:=XD c.net kk } p ={ c with net:=XD c.net kk,Ai:=Es c.Ai (YX true c.expected ⟨#[]⟩)}):=by
   unfold Hid CU;rw[if_pos ⟨NQ.out,G4⟩,if_neg Hm]
  go_wp2_with fail;refine ZQ fun R hR=>?_
  have LY:=Z5 (CB.at_ DZ.out hR);have OP:=Z5 (CB.below LY.out (ZY (Below.refl _ _)));obtain⟨x0,x1,x2,x3,x4,x5,xf,xz⟩:=CB.DR LY.out;obtain⟨r0,r1,r2,r3,r4,r5,rf,rz⟩:=CB.Bg LY.out (Aw.refl [] _) (fun q hq=>by cases hq) (b:=w.heap.size+1) (t:=77) s_;clear hR DZ
  go_region_law (first
   |(go_simp;go_at_call 75;refine(Z4u c.expected ⟨#[]⟩ _ o_ o_ AO (HT.out _ _ _ _ _ OP.out)).mono ?_;rintro e w7 ⟨rfl,FU⟩;have G5:=Z5 (CB.below OP.out FU);obtain⟨x0,x1,x2,x3,x4,x5,xf,xz⟩:=CB.DR G5.out;obtain⟨r0,r1,r2,r3,r4,r5,rf,rz⟩:=CB.Bg G5.out (Aw.refl [] _) (fun q hq=>by cases hq) (b:=w.heap.size+1) (t:=77) s_)
   |(go_simp;go_at_call 74;refine(lW va c.Ai (YX true c.expected ⟨#[]⟩) _ hla ?_).mono ?_;exact G5.out.ow.a;rintro e w8 ⟨v8,rfl,OQ,NU,Ta⟩;have V4:=Z5 (lV G5.out OQ NU Ta);obtain⟨x0,x1,x2,x3,x4,x5,xf,xz⟩:=XK G5.out NU (fun q hq=>ZI.2 (.inr (.inr (.inr hq))));obtain⟨r0,r1,r2,r3,r4,r5,rf,rz⟩:=CB.Bg G5.out NU (fun q hq=>ZI.2 (.inr (.inr (.inr hq)))) (b:=w.heap.size+1) (t:=77) s_))
  all_goals
   clear G5;go_wp2_with fail;refine bodyPost_ret (v:=YA ⟨vq,vi,v',v8⟩ c.base c.expected) (by simp[*,results,results76,go_sem]) rfl ?_;rw[hE2.out];refine⟨_,rfl,?_⟩;exact QS V4.out (s:=⟨w.heap.size+1,77,zC⟩) s_ Cs
theorem Zhw(v:CV)(c:Chan)(kk:Nat)(Wb:World)(w:World){m:Int}(hok:CG m c)(hkk:kk<c.Ai.length)(ho:BM w v c)(hf:Ag Wb.heap.size w (AP v))(hB:Wb.heap.size<=w.heap.size)(hT:Ct Wb)(Cq:Below Wb.heap.size Wb w):
  Calls prog 78 #[YA v c.base c.expected,.int .i64 7,.int .i64 (kk:Int)] w fun e w'=>UW w (AP v) Wb.heap.size (FP c 7 kk) e w':=by
 have Hq:∀ (b0:Nat) (v2:CV) (c2:Chan) (sd:List BA) (w':World),CB w (AP v) Wb.heap.size b0 v2 c2 sd w'->Ct w':=fun _ _ _ _ _ h=>hT.below (Dq Cq h.up hf.lo)
 have HT:=Z5 Hq;clear Hq hT Cq;obtain⟨vq,vi,vn,⟨nA,nn,nc⟩⟩:=v;have hln:c.Ai.length=nn:=by have:=ho.a.len;simpa using this
 have hpi:(0:Int)<=(kk:Int):=by omega
 have hpl:(kk:Int)<(nn:Int):=by omega
 obtain⟨g,rfl,hgw⟩:∃ g,nA=some ⟨g,0,none⟩/\g<w.heap.size:=by
  rcases ho.a.cases with⟨_,h0,_⟩|⟨g,h1,_,h2,_⟩
  .exact absurd (show nn=0 from h0) o_
  .exact⟨g,h1,h2⟩
 obtain⟨p,g',off',hp,hA,y0,y1,y2,y3⟩:=RowK.at_ ho.a.row (k:=kk) (by rw[<- hln];exact hkk);simp only[Zi,Addr.mk.injEq,and_true]at hA;obtain⟨rfl,rfl⟩:=hA;simp only[Nat.zero_add]at y0 y1 y2 y3;have hpm:p∈c.Ai:=Z6 hp.out;obtain⟨hp1,hp2,hp3⟩:=hok.Ai p hpm;have ED:=Z5 hok;clear hok hpm
 have hE:Hid (FP c 7 kk ={ c with Ai:=XD c.Ai kk }):=by
  unfold Hid FP;rw[hp.out];rfl
 rw[hE.out];clear hE;have Ba:=Z5 (Jm (UY ho hf hB) 77 zC);have DY:=Z5 (Jm Ba.out 139 p.cells);clear ho hf Ba hln;go_enter func78,ntmps78;go_wp2_with fail;refine Zb (lX ⟨some ⟨g,0,none⟩,nn,nc⟩ c.Ai kk _ (by have:=ED.out.la;omega) hkk ?_) ?_
 .exact DY.out.ow.a
 rintro e w1 ⟨v',rfl,ho1,hb1⟩;have Ii:=Z5 (lV DY.out ho1.zero (YI hb1 _) (QF ho1));obtain⟨x0,x1,x2,x3,x4,x5,xf,xz⟩:=XK DY.out (YI hb1 _) (fun q hq=>ZI.2 (.inr (.inr (.inr hq))));obtain⟨r0,r1,r2,r3,r4,r5,rf,rz⟩:=CB.Bg DY.out (YI hb1 _) (fun q hq=>ZI.2 (.inr (.inr (.inr hq)))) (b:=w.heap.size+1) (t:=77) s_;obtain⟨p0,p1,p2,p3,pf,pz⟩:=Rc DY.out (YI hb1 _) (fun q hq=>ZI.2 (.inr (.inr (.inr hq)))) (b:=w.heap.size+1+1) (t:=139) (p:=p) s_;clear ho1 hb1 DY y0 y1 y2 y3;go_wp2_with fail;refine bodyPost_ret (v:=YA ⟨vq,vi,vn,v'⟩ c.base c.expected) (by simp[*,results,results78,go_sem]) rfl ?_;refine⟨_,rfl,?_⟩;exact QS Ii.out (s:=⟨w.heap.size+1,77,zC⟩) s_ (((((((Aw.refl _ _).AA s_ _).AA s_ _).AA s_ _).AA s_ _).AA s_ _).AA s_ _)
theorem Zhx(v:CV)(c:Chan)(kk:Nat)(Wb:World)(w:World){m:Int}(hok:CG m c)(hkk:kk<c.Ai.length)(ho:BM w v c)(hf:Ag Wb.heap.size w (AP v))(hB:Wb.heap.size<=w.heap.size)(hT:Ct Wb)(Cq:Below Wb.heap.size Wb w):
  Calls prog 78 #[YA v c.base c.expected,.int .i64 6,.int .i64 (kk:Int)] w fun e w'=>UW w (AP v) Wb.heap.size (FP c 6 kk) e w':=by
 have Hq:∀ (b0:Nat) (v2:CV) (c2:Chan) (sd:List BA) (w':World),CB w (AP v) Wb.heap.size b0 v2 c2 sd w'->Ct w':=fun _ _ _ _ _ h=>hT.below (Dq Cq h.up hf.lo)
 have HT:=Z5 Hq;clear Hq hT Cq;obtain⟨vq,vi,vn,⟨nA,nn,nc⟩⟩:=v;have hln:c.Ai.length=nn:=by have:=ho.a.len;simpa using this
 have hpi:(0:Int)<=(kk:Int):=by omega
 have hpl:(kk:Int)<(nn:Int):=by omega
 obtain⟨g,rfl,hgw⟩:∃ g,nA=some ⟨g,0,none⟩/\g<w.heap.size:=by
  rcases ho.a.cases with⟨_,h0,_⟩|⟨g,h1,_,h2,_⟩
  .exact absurd (show nn=0 from h0) o_
  .exact⟨g,h1,h2⟩
 obtain⟨p,g',off',hp,hA,y0,y1,y2,y3⟩:=RowK.at_ ho.a.row (k:=kk) (by rw[<- hln];exact hkk);simp only[Zi,Addr.mk.injEq,and_true]at hA;obtain⟨rfl,rfl⟩:=hA;simp only[Nat.zero_add]at y0 y1 y2 y3;have hpm:p∈c.Ai:=Z6 hp.out;obtain⟨hp1,hp2,hp3⟩:=hok.Ai p hpm;have ED:=Z5 hok;clear hok hpm
 have hE:Hid (FP c 6 kk=DD { c with Ai:=XD c.Ai kk } p):=by
  unfold Hid FP;rw[hp.out];rfl
 rw[hE.out];clear hE;generalize hin:KT p=bi;have NQ:Hid ((p.sum == Xd p.number p.text p.Cr)=bi):=hin;clear hin;have Ba:=Z5 (Jm (UY ho hf hB) 77 zC);have DY:=Z5 (Jm Ba.out 139 p.cells);clear ho hf Ba hln;go_enter func78,ntmps78;go_wp2_with fail;refine Zb (lX ⟨some ⟨g,0,none⟩,nn,nc⟩ c.Ai kk _ (by have:=ED.out.la;omega) hkk ?_) ?_
 .exact DY.out.ow.a
 rintro e w1 ⟨v',rfl,ho1,hb1⟩;have Ii:=Z5 (lV DY.out ho1.zero (YI hb1 _) (QF ho1));obtain⟨x0,x1,x2,x3,x4,x5,xf,xz⟩:=XK DY.out (YI hb1 _) (fun q hq=>ZI.2 (.inr (.inr (.inr hq))));obtain⟨r0,r1,r2,r3,r4,r5,rf,rz⟩:=CB.Bg DY.out (YI hb1 _) (fun q hq=>ZI.2 (.inr (.inr (.inr hq)))) (b:=w.heap.size+1) (t:=77) s_;obtain⟨p0,p1,p2,p3,pf,pz⟩:=Rc DY.out (YI hb1 _) (fun q hq=>ZI.2 (.inr (.inr (.inr hq)))) (b:=w.heap.size+1+1) (t:=139) (p:=p) s_;clear ho1 hb1 DY y0 y1 y2 y3;have V5:Hid (vq.n=c.queue.length):=by have h1:=Ii.out.ow.q.len;simp at h1;exact h1.symm
 have hlq:c.queue.length<=8:=ED.out.lq;have WI:=ED.out.b0;have hbb:=ED.out.b1;go_wp2_with fail;refine Zb (Z1Z p.Cr p.number p.text p.sum _ hp2 hp3 hp1 (HT.out _ _ _ _ _ Ii.out)) ?_;rw[NQ.out];rintro e w2 ⟨rfl,hb2⟩;have DZ:=Z5 (CB.below Ii.out hb2);obtain⟨x0,x1,x2,x3,x4,x5,xf,xz⟩:=CB.DR DZ.out;obtain⟨r0,r1,r2,r3,r4,r5,rf,rz⟩:=CB.Bg DZ.out (Aw.refl [] _) (fun q hq=>by cases hq) (b:=w.heap.size+1) (t:=77) s_;obtain⟨p0,p1,p2,p3,pf,pz⟩:=Rc DZ.out (Aw.refl [] _) (fun q hq=>by cases hq) (b:=w.heap.size+1+1) (t:=139) (p:=p) s_;clear hb2 Ii
 have hno:∀ (h:¬(bi=true/\p.Cr=true/\c.base<p.number/\p.number<=c.base+c.queue.length)),Hid (DD { c with Ai:=XD c.Ai kk } p ={ c with Ai:=XD c.Ai kk }):=fun h=>by
  unfold Hid DD;rw[if_neg];rintro⟨h1,h2,h3,h4⟩;exact h ⟨NQ.out.symm.trans h1,h2,h3,h4⟩
 have Fu:=Z5 hno;clear hno;cases bi with
 |false =>
  have hE2:=Fu.out s_;go_wp2_with fail;refine bodyPost_ret (v:=YA ⟨vq,vi,vn,v'⟩ c.base c.expected) (by simp[*,results,results78,go_sem]) rfl ?_;rw[hE2.out];refine⟨_,rfl,?_⟩;exact QS DZ.out (s:=⟨w.heap.size+1,77,zC⟩) s_ Cs
 |true =>
  cases G4:p.Cr with
  |false =>
   have hE2:=Fu.out (by rw[G4];simp);rw[G4]at p0;go_wp2_with fail;refine bodyPost_ret (v:=YA ⟨vq,vi,vn,v'⟩ c.base c.expected) (by simp[*,results,results78,go_sem]) rfl ?_;rw[hE2.out];refine⟨_,rfl,?_⟩;exact QS DZ.out (s:=⟨w.heap.size+1,77,zC⟩) s_ Cs
  |true =>
   rw[G4]at p0;have hw1:IntKind.i64.wrap (c.base+1)=c.base+1:=by rw[IntKind.wrap_i64];omega
   have hw2:IntKind.i64.wrap (c.base+(vq.n:Int))=c.base+(vq.n:Int):=by have:=V5.out;rw[IntKind.wrap_i64];omega
   by_cases hrn:c.base<p.number/\p.number<=c.base+c.queue.length;rotate_left
   .have hE2:=Fu.out (by rintro⟨_,_,h3,h4⟩;exact hrn ⟨h3,h4⟩);have hrx:¬(c.base<p.number/\p.number<=c.base+(vq.n:Int)):=by rw[V5.out];exact hrn
    by_cases hr1:c.base<p.number
    .have hr2:¬ p.number<=c.base+(vq.n:Int):=fun h=>hrx ⟨hr1,h⟩
     clear hrx;go_wp2_with fail;refine bodyPost_ret (v:=YA ⟨vq,vi,vn,v'⟩ c.base c.expected) (by simp[*,results,results78,go_sem]) rfl ?_;rw[hE2.out];refine⟨_,rfl,?_⟩;exact QS DZ.out (s:=⟨w.heap.size+1,77,zC⟩) s_ Cs
    .clear hrx;go_wp2_with fail;refine bodyPost_ret (v:=YA ⟨vq,vi,vn,v'⟩ c.base c.expected) (by simp[*,results,results78,go_sem]) rfl ?_;rw[hE2.out];refine⟨_,rfl,?_⟩;exact QS DZ.out (s:=⟨w.heap.size+1,77,zC⟩) s_ Cs
   .obtain⟨hr1,hr2⟩:=hrn;obtain⟨k0,hk0⟩:∃ k0:Nat,p.number=c.base+(k0:Int):=⟨(p.number-c.base).toNat,o_⟩
    have hE2:Hid (DD { c with Ai:=XD c.Ai kk } p ={ c with Ai:=XD c.Ai kk,queue:=c.queue.drop k0,base:=c.base+(k0:Int)}):=by
     unfold Hid DD;rw[if_pos ⟨NQ.out,G4,hr1,hr2⟩,hk0];have e:(c.base+(k0:Int)-c.base).toNat=k0:=by omega
     simp only[e]
    have hk1:0<k0:=by omega
    have hk8:(k0:Int)<=8:=by omega
    have hk2:k0<=vq.n:=by have:=V5.out;omega
    rw[hk0]at p1;have HK:=Z5 hk0;clear hr1 hr2 hk0 Fu;have hk3:(0:Int)<=(k0:Int):=by omega
    have hk4:(k0:Int)<=(vq.n:Int):=by omega
    have hr1:c.base<c.base+(k0:Int):=by omega
    have hr2:c.base+(k0:Int)<=c.base+(vq.n:Int):=by omega
    have hw3:IntKind.i64.wrap (c.base+(k0:Int)-c.base)=(k0:Int):=by rw[IntKind.wrap_i64];omega
    have hw4:IntKind.i64.wrap (k0:Int)=(k0:Int):=by rw[IntKind.wrap_i64];omega
    obtain⟨qA,qn,qc⟩:=vq;dsimp only at *
    obtain⟨gq,rfl⟩:∃ gq,qA=some ⟨gq,0,none⟩:=by
     rcases DZ.out.ow.q.cases with⟨_,h0,_⟩|⟨g,h1,_⟩
     .exact absurd (show qn=0 from h0) o_
     .exact⟨g,h1⟩
    obtain⟨hqc,hqm⟩:=DZ.out.ow.q.nc;dsimp only at hqc hqm;unfold maxLen at hqm;have hrow:=Z5 DZ.out.ow.q.row;have hqi:(qn:Int)<=(qc:Int):=by omega
    have hq8:qn<=8:=by have:=V5.out;omega
    have LH:Hid (c.queue.length=qn):=V5.out.symm;clear V5;by_cases hkc:k0=qc
    .subst hkc;obtain rfl:qn=k0:=by omega
     have hdn:c.queue.drop qn=[]:=List.drop_of_length_le (by have:=LH.out;omega);have HDN:=Z5 hdn;clear hdn;go_wp2_with fail;refine Zb (Jz ⟨some ⟨gq,0,none⟩,0,0⟩ [] _ (by dsimp only;omega) ?_) ?_
     .exact Zgr _ _ _
     rintro e w5 ⟨A5,c5,rfl,Cn,hb5⟩;obtain⟨x0,x1,x2,x3,x4,x5,xf,xz⟩:=XK DZ.out (YI hb5 []) (fun q hq=>by cases hq);obtain⟨r0,r1,r2,r3,r4,r5,rf,rz⟩:=CB.Bg DZ.out (YI hb5 []) (fun q hq=>by cases hq) (b:=w.heap.size+1) (t:=77) s_;obtain⟨p0,p1,p2,p3,pf,pz⟩:=Rc DZ.out (YI hb5 []) (fun q hq=>by cases hq) (b:=w.heap.size+1+1) (t:=139) (p:=p) s_;rw[HK.out]at p1;have V3:=Z5 (CB.base (ZdM DZ.out (v':=⟨A5,0,c5⟩) (l:=c.queue.drop qn) (by rw[HDN.out];exact Cn.zero) (YI hb5 _) (QF Cn)) (c.base+(qn:Int)));clear DZ Cn;go_wp2_with fail;refine bodyPost_ret (v:=YA ⟨⟨A5,0,c5⟩,vi,vn,v'⟩ (c.base+(qn:Int)) c.expected) (by simp[*,results,results78,go_sem]) rfl ?_;rw[hE2.out];refine⟨_,rfl,?_⟩;exact QS V3.out (s:=⟨w.heap.size+1,77,zC⟩) s_ Cs
    .have WC:¬ qc=k0:=fun e=>hkc e.symm
     go_wp2_with fail;refine Zb (Jz ⟨some ⟨gq,k0,none⟩,qn-k0,qc-k0⟩ (c.queue.drop k0) _ (by dsimp only;omega) ?_) ?_
     .have h9:=Zdx (k:=k0) hrow.out o_;rw[Nat.mul_one,Nat.zero_add]at h9;exact h9
     rintro e w5 ⟨A5,c5,rfl,Cn,hb5⟩;obtain⟨x0,x1,x2,x3,x4,x5,xf,xz⟩:=XK DZ.out (YI hb5 []) (fun q hq=>by cases hq);obtain⟨r0,r1,r2,r3,r4,r5,rf,rz⟩:=CB.Bg DZ.out (YI hb5 []) (fun q hq=>by cases hq) (b:=w.heap.size+1) (t:=77) s_;obtain⟨p0,p1,p2,p3,pf,pz⟩:=Rc DZ.out (YI hb5 []) (fun q hq=>by cases hq) (b:=w.heap.size+1+1) (t:=139) (p:=p) s_;rw[HK.out]at p1;have V3:=Z5 (CB.base (ZdM DZ.out (v':=⟨A5,qn-k0,c5⟩) (l:=c.queue.drop k0) Cn.zero (YI hb5 _) (QF Cn)) (c.base+(k0:Int)));clear DZ Cn;go_wp2_with fail;refine bodyPost_ret (v:=YA ⟨⟨A5,qn-k0,c5⟩,vi,vn,v'⟩ (c.base+(k0:Int)) c.expected) (by simp[*,results,results78,go_sem]) rfl ?_;rw[hE2.out];refine⟨_,rfl,?_⟩;exact QS V3.out (s:=⟨w.heap.size+1,77,zC⟩) s_ Cs
theorem Z9N:∀ (l:List ByteArray) (s:ByteArray) (n:Int) (net:List Ae),FO (l++[s]) n net=Es (FO l n net) (YX false (n+l.length) s)
 |[],s,n,net=>by simp[FO]
 |x::l,s,n,net=>by
  simp only[List.cons_append,FO,Zt]
  rw[Z9N l s]
  congr 2
  push_cast;omega
def ML(c:Chan)(i:Nat):List Ae:=FO (c.queue.take (min i 3)) c.base c.net
theorem ZgR(c:Chan):ML c 0=c.net:=by simp[ML,FO]
theorem ZgS(c:Chan){i:Nat}{s:ByteArray}(h:i<3)(hs:c.queue[i]? = some s):ML c (i+1)=Es (ML c i) (YX false (c.base+i) s):=by
 unfold ML;have e1:min (i+1) 3=i+1:=by omega
 have e2:min i 3=i:=by omega
 obtain⟨hi,rfl⟩:=Za.1 hs;rw[e1,e2,List.take_succ_eq_append_getElem hi,Z9N];congr 2;simp only[List.length_take];omega
theorem ZiE(c:Chan){i:Nat}(h:c.queue.length<=i∨3<=i):ML c i=FO (c.queue.take 3) c.base c.net:=by
 unfold ML;congr 1;by_cases h3:3<=i
 .rw[show min i 3=3 by omega]
 .have hl:c.queue.length<=i:=by omega
  rw[Zp o_,Zp o_]
theorem xK:∀ (l:List ByteArray) (n:Int) (net:List Ae),net.length<=12->(FO l n net).length<=12
 |[],n,net,h=>h
 |s::l,n,net,h=>xK l (n+1) _ (Rb h)
theorem ZiD(c:Chan)(i:Nat)(h:c.net.length<=12):(ML c i).length<=12:=xK _ _ _ h
def Tc(p:Ae):Prop:=p.text.size<=4194304/\-9223372036854775808<=p.number/\p.number<=9223372036854775807
theorem CG.KV{m:Int}{c:Chan}(h:CG m c):∀ p∈c.net,Tc p:=h.net
theorem CG.OU{m:Int}{c:Chan}(h:CG m c):∀ p∈c.Ai,Tc p:=h.Ai
theorem CG.up{m m':Int}{c:Chan}(h:CG m c)(h1:m<=m')(h2:m'<=1000000):CG m' c :=
 ⟨Int.le_trans h.m0 h1,h2,h.q,h.net,h.Ai,h.lq,by have:=h.li;omega,h.ln,h.la,h.b0,h.b1,h.e0,by have:=h.e1;omega⟩
theorem CG.Bo{m:Int}{c:Chan}(h:CG m c)(hl:∀ p∈l,Tc p)(h12:l.length<=12):CG m { c with net:=l }:=
 ⟨h.m0,h.m1,h.q,hl,h.Ai,h.lq,h.li,h12,h.la,h.b0,h.b1,h.e0,h.e1⟩
theorem CG.BN{m:Int}{c:Chan}(h:CG m c)(hl:∀ p∈l,Tc p)(h12:l.length<=12):CG m { c with Ai:=l }:=
 ⟨h.m0,h.m1,h.q,h.net,hl,h.lq,h.li,h.ln,h12,h.b0,h.b1,h.e0,h.e1⟩
theorem Zcx:∀ (q:List ByteArray) (n:Int) (net:List Ae),(∀ s∈q,s.size<=4194304)->0<=n->n+q.length<=2000000->(∀ p∈net,Tc p)->∀ p∈FO q n net,Tc p
 |[],n,net,_,_,_,h=>h
 |s::q,n,net,hq,h0,h1,h=>by
  simp only[Zt]at h1
  exact Zcx q (n+1) _ (fun t ht=>hq t (by simp[ht])) o_ (by push_cast at h1;omega) (Xq h ⟨hq s s_,by show _<=n;omega,by show n<=_;push_cast at h1;omega⟩)
theorem CG.send{m:Int}{c:Chan}(h:CG m c):CG m (Qj c):=by
 have h1:=h.b0;have h2:=h.b1;have h3:=h.lq;refine h.Bo (Zcx _ _ _ (fun s hs=>h.q s (ZT hs)) h1 (by have h9:(c.queue.take 3).length<=c.queue.length:=List.length_take_le' _ _;omega) h.KV) (xK _ _ _ h.ln)
theorem CG.CU{m:Int}{c:Chan}(h:CG m c)(hm:m<1000000)(hp:Tc p):CG (m+1) (CU c p):=by
 have hu:=h.up (m':=m+1) o_ o_;have h1:=h.e0;have h2:=h.e1;have h3:=h.li;have hnil:(⟨#[]⟩:ByteArray).size<=4194304:=by decide
 unfold Go.Proofs.YtcnbphnnfmphlaaGreatDoor.CU;split
 .split
  .refine⟨hu.m0,hu.m1,h.q,h.net,Xq h.OU ⟨hnil,by show _<=c.expected+1;omega,by show c.expected+1<=_;omega⟩,h.lq,?_,h.ln,Rb h.la,h.b0,h.b1,by show 0<=c.expected+1;omega,by show c.expected+1<=_;omega⟩;show((c.inbox++[p.text]).length:Int)<=_;simp;omega
  .exact hu.BN (Xq h.OU ⟨hnil,by show _<=c.expected;omega,by show c.expected<=_;omega⟩) (Rb h.la)
 .exact hu
theorem CG.Iy{m:Int}{c:Chan}(h:CG m c)(p:Ae):CG m (DD c p):=by
 have h1:=h.b0;have h2:=h.b1;have h3:=h.lq;unfold DD;split
 .rename_i hc;obtain⟨_,_,c1,c2⟩:=hc;exact⟨h.m0,h.m1,fun s hs=>h.q s (ZG hs),h.net,h.Ai,by show(c.queue.drop _).length<=8;simp;omega,h.li,h.ln,h.la,by show 0<=p.number;omega,by show p.number+((c.queue.drop _).length:Int)<=_;simp;omega,h.e0,h.e1⟩
 .exact h
theorem CG.Sz{m:Int}{c:Chan}(h:CG m c)(hm:m<1000000)(mv:Int)(k:Nat):CG (m+1) (Eb c mv k):=by
 have hu:=h.up (m':=m+1) o_ o_;unfold Eb;split
 .exact hu
 .rename_i p hp;have hpm:=h.KV p (Z6 hp);split
  .exact hu.Bo (Xq h.KV hpm) (Rb h.ln)
  split
  .rw[uT hp];refine hu.Bo (fun x hx=>?_) (by simpa using h.ln);rcases ZW hx with hx|rfl
   .exact h.KV x hx
   .exact hpm
  split
  .exact hu.Bo (Ja h.KV) (UU h.ln)
  .exact(h.Bo (Ja h.KV) (UU h.ln)).CU hm hpm
theorem CG.Oz{m:Int}{c:Chan}(h:CG m c)(mv:Int)(k:Nat):CG m (FP c mv k):=by
 unfold FP;split
 .exact h
 .split
  .exact(h.BN (Ja h.OU) (UU h.la)).Iy _
  .exact h.BN (Ja h.OU) (UU h.la)
theorem CG.move{m:Int}{c:Chan}(h:CG m c)(hm:m<1000000)(mv at_:Int):CG (m+1) (Yv c mv at_):=by
 have hu:=h.up (m':=m+1) o_ o_;unfold Yv;split
 .exact hu.send
 split
 .split
  .exact hu
  .exact h.Sz hm mv _
 split
 .split
  .exact hu
  .exact hu.Oz mv _
 .exact hu
theorem lY{n:Int}(h:F6 n):-9223372036854775808<=n/\n<=9223372036854775807:=by
 simp[F6,Lit.wf,IntKind.min,IntKind.max,IntKind.signed,IntKind.bits]at h;omega
theorem WN{c:Chan}(h:YQ c=true)(hm:Xb c<=4194304)(hok:KA c):CG 0 c:=by
 unfold YQ at h;simp only[Zc,decide_eq_true_eq,Zu]at h;obtain⟨h1,h2,h3,h4,h5,h6⟩:=h;have b:=Y8.1 h3;have e:=Y8.1 h4;unfold Xb at hm;obtain⟨o0,o1,o2,o3,_,_⟩:=hok;refine⟨Int.le_refl _,o_,fun s hs=>by have:=h1 s hs;omega,fun p hp=>?_,fun p hp=>?_,h2,o_,h5,h6,b.1,o_,o_,o_⟩
 .have:=XY (c:=Ae.bulk) hp;have hw:=lY (o2 p hp).2.1;simp only[Ae.bulk]at this;exact⟨o_,hw⟩
 .have:=XY (c:=Ae.bulk) hp;have hw:=lY (o3 p hp).2.1;simp only[Ae.bulk]at this;exact⟨o_,hw⟩
def top(c:Chan):Int:=c.base+c.queue.length
def Zbt(t:Int)(l:List Ae):Nat:=(l.filter fun p=>decide (t<=p.number)).length
def Gn(t:Int)(l:List Ae)(c:Chan):Nat:=c.inbox.length+(t-c.expected).toNat+Zbt t l
theorem Zfi{t:Int}{l2:List Ae}{c:Chan}  :Gn t l (CU { c with net:=l2 } p)<=Gn t (p::l) c:=by
 unfold Gn Zbt;rw[List.filter_cons];unfold CU;split
 .split
  .rename_i hn;have hn':p.number=c.expected:=hn;show(c.inbox++[p.text]).length+(t-(c.expected+1)).toNat+_<=c.inbox.length+(t-c.expected).toNat+_;by_cases ht:t<=p.number
   .rw[if_pos (by simpa using ht)];simp only[List.length_append,Zt,List.length_nil];omega
   .rw[if_neg (by simpa using ht)];simp only[List.length_append,Zt,List.length_nil];omega
  .show c.inbox.length+(t-c.expected).toNat+_<=_;split
   .simp only[Zt];omega
   .exact Zd _
 .show c.inbox.length+(t-c.expected).toNat+_<=_;split
  .simp only[Zt];omega
  .exact Zd _
theorem Z80:∀ (l:List Ae) (c:Chan) (t:Int),Gn t [] (Qm l c)<=Gn t l c
 |[],c,t=>Zd _
 |p::l,c,t=>Zj (Z80 l _ t) Zfi
theorem Zmb{t:Int}(h:p.number<t):Zbt t (Es l p)=Zbt t l:=by
 unfold Zbt Es;split
 .rfl
 .rw[List.filter_append];simp;omega
theorem xL:∀ (q:List ByteArray) (n t:Int) (net:List Ae),n+q.length<=t->Zbt t (FO q n net)=Zbt t net
 |[],n,t,net,_=>rfl
 |s::q,n,t,net,h=>by
  simp only[Zt]at h
  rw[FO,xL q (n+1) t _ (by push_cast at h;omega),Zmb (by show n<t;push_cast at h;omega)]
theorem Z8U:∀ (l:List Ae) (c:Chan),(QQ l c).inbox=c.inbox/\(QQ l c).expected=c.expected/\top (QQ l c)=top c
 |[],c=>⟨rfl,rfl,rfl⟩
 |p::l,c=>by
  obtain⟨h1,h2,h3⟩:=Z8U l (DD { c with Ai:=l } p)
  have e1:(DD { c with Ai:=l } p).inbox=c.inbox:=by unfold DD;split<;>rfl
  have e2:(DD { c with Ai:=l } p).expected=c.expected:=by unfold DD;split<;>rfl
  have e3:top (DD { c with Ai:=l } p)=top c:=by unfold top;exact xH { c with Ai:=l } p
  exact⟨h1.trans e1,h2.trans e2,h3.trans e3⟩
theorem Zgx(l:List Ae)(c:Chan):top (Qm l c)=top c:=by
 have h:=XS l c;unfold top;rw[h.1,h.2]
theorem Z9S(c:Chan):Gn (top c) [] (FQ c)<=Gn (top c) c.net c/\top (FQ c)=top c:=by
 unfold FQ;have ha:=Z8U (Qm (Qj c).net (Qj c)).Ai (Qm (Qj c).net (Qj c));have ht:top (Qj c)=top c:=rfl;have hn:=Z80 (Qj c).net (Qj c) (top c);refine⟨?_,by rw[ha.2.2,Zgx];rfl⟩
 have e:Gn (top c) (Qj c).net (Qj c)=Gn (top c) c.net c:=by
  unfold Gn;have:Zbt (top c) (Qj c).net=Zbt (top c) c.net:=xL _ _ _ _ (by unfold top;have h9:(c.queue.take 3).length<=c.queue.length:=List.length_take_le' _ _;omega);rw[this];rfl
 rw[e]at hn;refine Zj (Nat.le_of_eq ?_) hn;unfold Gn;rw[ha.1,ha.2.1]
theorem Z9R:∀ (n:Nat) (c:Chan) (t:Int),c.net=[]->top c=t->(Jl n c).inbox.length<=Gn t [] c
 |0,c,t,_,_=>by unfold Gn;show c.inbox.length<=_;omega
 |n+1,c,t,hn,ht=>by
  have h1:=Z9S c
  have he:=(YO c).1
  have h2:=Z9R n (FQ c) t he (h1.2.trans ht)
  rw[hn,ht]at h1
  exact Zj h2 h1.1
theorem ZhH{c:Chan}(h:YQ c=true):(Qd c).inbox.length<=c.inbox.length+c.queue.length+c.net.length:=by
 unfold Qd;rw[if_pos h];unfold YQ at h;simp only[Zc,decide_eq_true_eq,Zu]at h;have e:=Y8.1 h.2.2.2.1;have h1:=Z9S c;have h2:=Z9R 8 (FQ c) (top c) (YO c).1 h1.2
 have h3:Gn (top c) c.net c<=c.inbox.length+c.queue.length+c.net.length:=by
  unfold Gn Zbt top;have:=List.length_filter_le (fun p:Ae=>decide (c.base+(c.queue.length:Int)<=p.number)) c.net;omega
 exact Zj h2 (Zj h1.1 h3)
theorem Zkw(c:Chan)(p:Ae):(CU c p).inbox.length<=c.inbox.length+1:=by
 unfold CU;split
 .split
  .show(c.inbox++[p.text]).length<=_;simp
  .show c.inbox.length<=_;omega
 .omega
theorem Zen(c:Chan)(mv at_:Int):(Yv c mv at_).inbox.length<=c.inbox.length+c.net.length:=by
 unfold Yv;split
 .show c.inbox.length<=_;omega
 split
 .split
  .omega
  .unfold Eb;split
   .omega
   .rename_i p hp;have hl:=(Za.1 hp).1;split
    .show c.inbox.length<=_;omega
    split
    .show c.inbox.length<=_;omega
    split
    .show c.inbox.length<=_;omega
    .have:=Zkw { c with net:=XD c.net (Di at_ c.net.length)} p;simp only at this;omega
 split
 .split
  .omega
  .unfold FP;split
   .omega
   .split
    .unfold DD;split
     .show c.inbox.length<=_;omega
     .show c.inbox.length<=_;omega
    .show c.inbox.length<=_;omega
 .omega
theorem Zkh{c:Chan}(hm:Xb c<=4194304)(hok:KA c)(mv at_:Int):EP (Xp c mv at_):=by
 have hf:=Uv hm;unfold Xp;split
 .rename_i h;have h1:=(WN h hm hok).move o_ mv at_;have h2:=Zen c mv at_;unfold Xb at hm;exact⟨by have:=h1.lq;omega,o_,by have:=h1.ln;omega,by have:=h1.la;omega⟩
 .exact hf
theorem xM(n:Nat):Di 0 n=0:=by simp[Di]
theorem ZfC{c:Chan}(h:c.net≠[]):Yv c 2 0=Eb c 2 (Di 0 c.net.length)/\Qm (Yv c 2 0).net (Yv c 2 0)=Qm c.net c/\(Yv c 2 0).net.length+1=c.net.length:=by
 obtain⟨p,l,hl⟩:∃ p l,c.net=p::l:=by cases hc:c.net with|nil=>exact absurd hc h|cons p l=>exact⟨p,l,rfl⟩
 have e1:Yv c 2 0=Eb c 2 (Di 0 c.net.length):=by
  unfold Yv;rw[if_neg AO,if_pos AO,if_neg h]
 have e2:Yv c 2 0=CU { c with net:=l } p:=by
  rw[e1,xM];unfold Eb;have h0:c.net[0]? = some p:=by rw[hl];rfl
  rw[h0];show(if (2:Int)=4 then _ else _)= _;rw[if_neg AO,if_neg AO,if_neg AO];congr 2;rw[hl,xD]
 refine⟨e1,?_,?_⟩
 .rw[e2,lM,hl];rfl
 .rw[e2,lM,hl];rfl
theorem Zgq{c:Chan}(h:c.Ai≠[]):Yv c 6 0=FP c 6 (Di 0 c.Ai.length)/\QQ (Yv c 6 0).Ai (Yv c 6 0)=QQ c.Ai c/\(Yv c 6 0).Ai.length+1=c.Ai.length/\(Yv c 6 0).net=c.net/\(Yv c 6 0).inbox=c.inbox/\(Yv c 6 0).expected=c.expected/\top (Yv c 6 0)=top c:=by
 obtain⟨p,l,hl⟩:∃ p l,c.Ai=p::l:=by cases hc:c.Ai with|nil=>exact absurd hc h|cons p l=>exact⟨p,l,rfl⟩
 have e1:Yv c 6 0=FP c 6 (Di 0 c.Ai.length):=by
  unfold Yv;rw[if_neg AO,if_neg AO,if_pos AO,if_neg h]
 have e2:Yv c 6 0=DD { c with Ai:=l } p:=by
  rw[e1,xM];unfold FP;have h0:c.Ai[0]? = some p:=by rw[hl];rfl
  rw[h0];show(if (6:Int)=6 then _ else _)= _;rw[if_pos rfl];congr 2;rw[hl,xD]
 refine⟨e1,?_,?_,?_,?_,?_,?_⟩
 .rw[e2,kG,hl];rfl
 .rw[e2,kG,hl];rfl
 .rw[e2,Zgp]
 .rw[e2];unfold DD;split<;>rfl
 .rw[e2];unfold DD;split<;>rfl
 .rw[e2];exact xH { c with Ai:=l } p
structure KI(t m:Int)(c:Chan):Prop where
 ok:CG m c
 tp:top c=t
 rm:Gn t c.net c<=4194304
theorem KI.few{t m:Int}{c:Chan}(h:KI t m c):EP c:=by
 have h1:=h.rm;unfold Gn at h1;exact⟨by have:=h.ok.lq;omega,o_,by have:=h.ok.ln;omega,by have:=h.ok.la;omega⟩
theorem KI.send{t m:Int}{c:Chan}(h:KI t m c):KI t m (Qj c):=by
 refine⟨h.ok.send,h.tp,Zj (Nat.le_of_eq ?_) h.rm⟩;have ht:=h.tp;unfold top at ht;unfold Gn;have:Zbt t (Qj c).net=Zbt t c.net:=xL _ _ _ _ (by have h9:(c.queue.take 3).length<=c.queue.length:=List.length_take_le' _ _;omega);rw[this];rfl
theorem KI.net{t m:Int}{c:Chan}(h:KI t m c)(hm:m<1000000)(hn:c.net≠[]):KI t (m+1) (Yv c 2 0):=by
 obtain⟨p,l,hl⟩:∃ p l,c.net=p::l:=by cases hc:c.net with|nil=>exact absurd hc hn|cons p l=>exact⟨p,l,rfl⟩
 have e1:=(ZfC hn).1
 have e2:Yv c 2 0=CU { c with net:=l } p:=by
  rw[e1,xM];unfold Eb;have h0:c.net[0]? = some p:=by rw[hl];rfl
  rw[h0];show(if (2:Int)=4 then _ else _)= _;rw[if_neg AO,if_neg AO,if_neg AO];congr 2;rw[hl,xD]
 refine⟨h.ok.move hm 2 0,?_,?_⟩
 .rw[e2];have:=Zg9 { c with net:=l } p;unfold top;rw[this.1,this.2];exact h.tp
 .rw[e2,lM];have hr:=h.rm;rw[hl]at hr;exact Zj (Zfi (l:=l) (l2:=l) (c:=c)) hr
theorem KI.Cr{t m:Int}{c:Chan}(h:KI t m c)(hn:c.Ai≠[]):KI t m (Yv c 6 0):=by
 obtain⟨e1,_,_,e4,e5,e6,e7⟩:=Zgq hn;refine⟨?_,e7.trans h.tp,?_⟩
 .rw[e1];exact h.ok.Oz 6 _
 .unfold Gn;rw[e4,e5,e6];exact h.rm
theorem KI.up{t m m':Int}{c:Chan}(h:KI t m c)(h1:m<=m')(h2:m'<=1000000):KI t m' c:=⟨h.ok.up h1 h2,h.tp,h.rm⟩
theorem Zng{c:Chan}(h:YQ c=true)(hm:Xb c<=4194304)(hok:KA c):KI (top c) 0 c:=by
 refine⟨WN h hm hok,rfl,?_⟩;unfold YQ at h;simp only[Zc,decide_eq_true_eq,Zu]at h;have e:=Y8.1 h.2.2.2.1;unfold Gn Zbt top;have:=List.length_filter_le (fun p:Ae=>decide (c.base+(c.queue.length:Int)<=p.number)) c.net;unfold Xb at hm;omega
theorem Zki{c:Chan}(hm:Xb c<=4194304)(hok:KA c):EP (Qd c):=by
 have hf:=Uv hm;by_cases h:YQ c=true
 .have hi:=ZhH h;have ok:=WN h hm hok
  have hq:∀ (n:Nat) (c:Chan),c.queue.length<=8->(Jl n c).queue.length<=8:=by
   intro n;induction n with
   |zero=>exact fun c h=>h
   |succ n ih =>
    intro c hc;refine ih _ ?_;have h1:=(XS (Qj c).net (Qj c)).2
    have h2:∀ (l:List Ae) (d:Chan),d.queue.length<=8->(QQ l d).queue.length<=8:=by
     intro l;induction l with
     |nil=>exact fun d hd=>hd
     |cons p l ihl =>
      intro d hd;refine ihl _ ?_;unfold DD;split
      .show(d.queue.drop _).length<=8;simp;omega
      .exact hd
    exact h2 _ _ (by rw[h1];exact hc)
  have hn:∀ (n:Nat) (c:Chan),c.net=[]->c.Ai=[]->(Jl n c).net=[]/\(Jl n c).Ai=[]:=by
   intro n;induction n with
   |zero=>exact fun c h1 h2=>⟨h1,h2⟩
   |succ n ih=>exact fun c _ _=>ih _ (YO c).1 (YO c).2
  unfold Qd at hi ⊢;rw[if_pos h]at hi ⊢;have h8:=hn 8 (FQ c) (YO c).1 (YO c).2;refine⟨by have:=hq 9 c ok.lq;omega,?_,?_,?_⟩
  .unfold Xb at hm;omega
  .show(Jl 8 (FQ c)).net.length<=_;rw[h8.1];simp
  .show(Jl 8 (FQ c)).Ai.length<=_;rw[h8.2];simp
 .unfold Qd;rw[if_neg h];exact hf
theorem Zm7(w:World)(B e sz:Nat){a:Nat}(h:a=w.heap.size)(hB:B<=w.heap.size):Own (w.alloc (.cells #[] e)) B e sz (some ⟨a,0,none⟩) 0 0 []:=by subst h;exact JV w e sz hB
theorem uK(h:(Qt L1 f).2=true):Yr (L1,L2) f=((Qt L1 f).1,L2++[f]):=by simp[Yr,h]
theorem uJ(h:(Qt L1 f).2=false):Yr (L1,L2) f=(L1,L2):=by simp[Yr,h]
theorem vP{l:List A7}(h:(Qt l f).2=true):YW (Qt l f).1=true:=by
 unfold Qt at h ⊢;split
 .rename_i hc;simp only[Zc]at hc;exact hc.2
 .rename_i hc;rw[if_neg hc]at h;cases h
theorem Zaw{l:List A7}(hs:Qq l)(hf:f.AL.size<=4194304/\f.Z00.size<=4194304):Qq (Qt l f).1:=by
 unfold Qt;split
 .exact WA hs hf
 .exact hs
def EH(l fs:List A7)(k:Nat)(L1 L2:List A7):Prop:=(fs.take k).foldl Yr (l,[])=(L1,L2)
theorem ZeV(l fs:List A7):EH l fs 0 l []:=rfl
theorem EH.step{l:List A7}{k:Nat}(h:EH l fs k L1 L2)(hf:Hid (fs[k]? = some f)):(fs.take (k+1)).foldl Yr (l,[])=Yr (L1,L2) f:=by
 obtain⟨hk,rfl⟩:=Za.1 hf.out;unfold EH at h;rw[List.take_succ_eq_append_getElem hk,List.foldl_append,h]
 rfl
theorem EH.done{l:List A7}{k n:Nat}(h:EH l fs k L1 L2)(hl:Hid (fs.length=n))(hk:¬ k<n):Hid (fs.foldl Yr (l,[])=(L1,L2)):=by
 unfold EH at h;rw[Zp (by have:=hl.out;omega)]at h;exact h
theorem ZcN{l:List A7}{r:Int}(h:YW l=false∨Yg r fs=false):Qb l r fs=(l,[]):=by rcases h with h|h<;>simp[Qb,h]
theorem vR{l:List A7}{r:Int}(h:YW l=true)(h2:Yg r fs=true):Qb l r fs=fs.foldl Yr (l,[]):=by simp[Qb,h,h2]
theorem xN{e sz n2 c2:Nat}{M:Sv}{A2:Option Addr}{css:List (List Value)}(hnd:(AQ M.A).Nodup)(hlo:∀ q∈AQ M.A,B+1<=q)(ho:BR w' M L1)(ho2:Own w' B e sz A2 n2 c2 css) 
  (hap:∀ q∈AQ M.A,ob A2≠some q):Ag B w' (Ea M++Ea ⟨A2,n2,c2⟩):=by
 have h2:=YC ho2;refine⟨List.nodup_append.2 ⟨hnd,h2.nodup,fun a ha b hb e=>?_⟩,fun g hg=>?_,fun g hg=>?_⟩
 .subst e;exact hap a ha (ZR.1 hb)
 .rcases Z9.1 hg with h|h
  .have:=hlo g h;omega
  .exact h2.lo g h
 .rcases Z9.1 hg with h|h
  .exact BR.lt ho g h
  .exact h2.hi g h
theorem Zd3{l:List A7}{r:Int}(h:Yg r l=true):l.length<=4:=by
 simp only[Yg,Zc]at h;have:=Y8.1 h.2.1;omega
theorem uM:∀ (m l a:List A7),YW l=true->YW (m.foldl Yr (l,a)).1=true
 |[],_,_,h=>h
 |f::m,l,a,h=>by
  rw[List.foldl_cons]
  cases ho:(Qt l f).2
  .rw[uJ ho];exact uM m l a h
  .rw[uK ho];exact uM m _ _ (vP ho)
theorem Z8s :(Tryz.prog.info? 51).map (fun i=>(i.zero,i.size,i.bytes))=some (some (.agg #[.slice none 0 0,.string ByteArray.empty]),2,40):=by kernel_rfl
def xO:List Value:=[.slice none 0 0,.string ByteArray.empty]



theorem Z4q :(Tryz.prog.info? 77).map (fun i=>(i.zero,i.size,i.bytes))=some (some (.agg #[.slice none 0 0,.int .i64 0,.int .i64 0,.slice none 0 0,.slice none 0 0,.slice none 0 0]),6,112):=by kernel_rfl
def J5:List Value:=[.slice none 0 0,.int .i64 0,.int .i64 0,.slice none 0 0,.slice none 0 0,.slice none 0 0]



theorem Z30 :(Tryz.prog.info? 62).map (fun i=>(i.zero,i.size,i.bytes))=some (some (.slice none 0 0),1,24):=by kernel_rfl
theorem JA(w:World)(o o2:Obj):((w.alloc o).alloc o2).heap[w.heap.size+1]? = some o2:=by have:=heap_alloc_new (w.alloc o) o2;simpa using this
theorem BA.below{w:World}{s:BA}(h:s.ok w)(hb:Below w.heap.size w w'):s.ok w':=Own.below h hb
theorem V6{w0 W W':World}{fs:List Nat}{b0:Nat}{v v':CV}{c:Chan}{sd:List BA}(h:CB w0 fs B b0 v c sd W){s:BA}(hs:s∈sd)(ho:BM W' v' c')(hf:Ag B W' (AP v'))(hm:∀ q∈AP v',q∈AP v∨W.heap.size<=q)(hu:Aw (AP v) W W')(hx:Aw [s.b] W' X):
  BM X v' c'/\Ag B X (AP v')/\(∀ q∈AP v',q∈fs∨w0.heap.size<=q)/\Aw fs w0 X:=by
 have H:=h.Ih s hs;have hlt:=h.slt hs;have hsz:=h.up.size;have hn:s.b ∉ AP v':=fun hq=>(hm _ hq).elim H.2.1 (fun e=>by omega)
 refine⟨ho.upd hx (fun q hq hx=>by simp only[Zh]at hx;exact hn (hx▸hq)),⟨hf.nodup,hf.lo,fun q hq=>Zf (hf.hi q hq) hx.size⟩,fun q hq=>(hm q hq).elim (h.mv q) (fun e=>.inr o_),?_⟩;have u1:Aw fs w0 W':=⟨hu.os.trans h.up.os,hu.tape.trans h.up.tape,hu.output.trans h.up.output,Zj h.up.size hu.size,fun i hi hn=>(hu.block i (Zf hi h.up.size) (fun hm=>(h.mv i hm).elim hn (fun hh=>by omega))).trans (h.up.block i hi hn)⟩;exact⟨hx.os.trans u1.os,hx.tape.trans u1.tape,hx.output.trans u1.output,Zj u1.size hx.size,fun i hi hn=>(hx.block i (Zf hi u1.size) (fun hm=>by simp only[Zh]at hm;have:=H.2.2.2;omega)).trans (u1.block i hi hn)⟩
theorem Jd{w:World}(h:Aw [] w w'):Below w.heap.size w w':=Dq (Below.refl _ _) h (fun q hq=>by cases hq)
def Bi(w:World)(c:Chan)(e:Ending)(w':World):Prop:=∃ v',e=.returned (YA v' c.base c.expected)/\BM w' v' c/\Ag w.heap.size w' (AP v')/\Below w.heap.size w w'
theorem Bi.mk{w:World}{v':CV}{c:Chan}{b0:Int}(h:BM X v' c/\Ag w.heap.size X (AP v')/\(∀ q∈AP v',q∈([]:List Nat)∨w.heap.size<=q)/\Aw [] w X):Bi w c (.returned (YA v' c.base c.expected)) X:=⟨v',rfl,h.1,h.2.1,Jd h.2.2.2⟩
theorem Zlo{c:Chan}{mv at_:Int}(h:YQ c=false):Xp c mv at_=c:=by unfold Xp;rw[h];rfl
theorem Ziz{c:Chan}{mv at_:Int}(h:YQ c=true):Xp c mv at_=Yv c mv at_:=by unfold Xp;rw[if_pos h]
theorem Qi{w w1 w2:World}{v:CV}{c:Chan}{B' b0:Nat}{sd:List BA}(h:BM w1 v c)(hf:Ag B' w1 (AP v))(hb:Below w.heap.size w w1)(hb0:w.heap.size<=b0)(hB:b0<B')(hx:Own w2 0 77 6 (some ⟨b0,0,none⟩) 1 1 [Ql v c.base c.expected])(hg:w1.grownBy w2 (some b0)) 
  (hs:∀ s∈sd,s.ok w1/\s.b<B'/\s.b≠b0/\w.heap.size<=s.b):CB w [] w.heap.size b0 v c sd w2:=by
 have hu:=rM hg;have hn:∀ q∈AP v,q≠b0:=fun q hq e=>by have:=hf.lo q hq;omega
 refine⟨h.upd hu (fun q hq hm=>by simp only[Zh]at hm;exact hn q hq hm),⟨hf.nodup,fun q hq=>by have:=hf.lo q hq;omega,fun q hq=>Zf (hf.hi q hq) hu.size⟩,fun q hq=>.inr (by have:=hf.lo q hq;omega),fun hm=>hn _ hm rfl,hx,hb0,Zd _,fun s hm=>?_,?_⟩
 .have H:=hs s hm;exact⟨H.1.upd hu (fun q hq hm=>by simp[AQ,ob]at hq;simp only[Zh]at hm;exact H.2.2.1 (hq▸hm)),fun hq=>by have:=hf.lo _ hq;omega,H.2.2.1,H.2.2.2⟩
 .have u0:Aw [] w w1:=Q9 hb;exact⟨hu.os.trans u0.os,hu.tape.trans u0.tape,hu.output.trans u0.output,Zj u0.size hu.size,fun i hi hn=>(hu.block i (Zf hi u0.size) (fun hm=>by simp only[Zh]at hm;omega)).trans (u0.block i hi hn)⟩
theorem Zjs{c:Chan}{mv at_:Int}(h:¬(1<=mv/\mv<=7)):Yv c mv at_=c:=by
 unfold Yv;rw[if_neg o_,if_neg o_,if_neg o_]
theorem Zbx(v:CV)(c:Chan)(mv at_:Int)(w:World){m:Int}(hok:CG m c)(hfw:EP c)(hr:FI w v c)(hat:-9223372036854775808<=at_/\at_<=9223372036854775807)(hT:Ct w)(h7:¬(1<=mv/\mv<=7)):
  Calls prog 53 #[YA v c.base c.expected,.int .i64 mv,.int .i64 at_] w fun e w'=>Bi w (Yv c mv at_) e w':=by
 have OK:=Z5 hok;have HAT:=Z5 hat
 have HT:=Z5 hT;clear hok hat hT;go_enter func53,ntmps53;go_wp2_with fail;refine Zb (Yp v c _ hfw ?_) ?_
 .exact hr.below (Ze (Ze (Below.refl _ _) _) _)
 rintro e w1 ⟨v1,rfl,ho,hf,hb1⟩;have hbx:=Z5 (Own.below (Own.box (t:=77) (cs:=Ql v c.base c.expected) (sz:=6) (NI w _ _) rfl) hb1)
 have hsd:Hid (∀ s∈[(⟨w.heap.size+1,77,zC⟩:BA)],s.ok w1/\s.b<w.heap.size+2/\s.b≠w.heap.size/\w.heap.size<=s.b):=by
  intro s hs;simp only[Zn,List.not_mem_nil,or_false]at hs;subst hs;exact⟨BA.below (w:=_) (Own.box (JA w _ _) rfl) hb1,s_,s_,s_⟩
 have H1:=Z5 (Zg (Ze (Ze (Below.refl w.heap.size w) _) _) hb1);have hf':=hf.Ay (show w.heap.size+2<=_ by simp);have ho:=Z5 ho;have hf:=Z5 hf';clear hf' hb1;have En:v1.q.n=c.queue.length:=by have h1:=ho.out.q.len;rw[Zo]at h1;exact h1.symm
 have hnn:v1.n.n=c.net.length:=by have h1:=ho.out.n.len;rw[Zo]at h1;exact h1.symm
 have Fw:v1.a.n=c.Ai.length:=by have h1:=ho.out.a.len;rw[Zo]at h1;exact h1.symm
 have LX:=Z5 En;have Ef:=Z5 hnn;have Gy:=Z5 Fw;clear En hnn Fw
 .have hE:Hid (Yv c mv at_=c):=Zjs h7;have n1:¬ mv=1:=by omega
  have n2:¬ mv=2:=by omega
  have n3:¬ mv=3:=by omega
  have n4:¬ mv=4:=by omega
  have n5:¬ mv=5:=by omega
  have n6:¬ mv=6:=by omega
  have n7:¬ mv=7:=by omega
  clear h7;have tok:True:=trivial;go_wp2_with (have _t:=tok;refine ZS rfl 77 (.tmp 3) (.tmp 9) rfl 0 77 6 1 1 w.heap.size 0 0 rfl _ rfl _ (Ql v1 c.base c.expected) rfl rfl rfl (QZ rfl) QG hbx.out o_ ?_;clear tok _t;intro w2 hx2 hg2;have Ba:=Z5 (Qi (sd:=[⟨w.heap.size+1,77,zC⟩]) ho.out hf.out H1.out (Zd _) o_ hx2 hg2 hsd.out);obtain⟨x0,x1,x2,x3,x4,x5,xf,xz⟩:=CB.DR Ba.out;obtain⟨r0,r1,r2,r3,r4,r5,rf,rz⟩:=CB.Bg Ba.out (Aw.refl [] _) (fun q hq=>by cases hq) (b:=w.heap.size+1) (t:=77) s_;clear hx2 hg2);refine bodyPost_ret (v:=YA v1 c.base c.expected) (by simp[*,results,results53,go_sem]) rfl ?_;rw[hE.out];exact Bi.mk (b0:=0) (QS Ba.out (s:=⟨w.heap.size+1,77,zC⟩) s_ Cs)
end Go.Proofs.YtcnbphnnfmphlaaGreatDoor
