/- Texts of this proof. -/
import Derived.Test.YtcnbphnnfmphlaaGreatDoorGtm7
namespace Go.Proofs.YtcnbphnnfmphlaaGreatDoor
open Go.Calls renaming mono → Zb
open Go.Lib renaming hid → Z5
open List renaming mem_append → Z9,nodup_append → ZA,mem_map → ZB
open Nat renaming le_refl → Zd
open Option.some renaming injEq → Zi
open Go.Proofs.Tryz
open Go.RowKit
set_option linter.unusedVariables false
set_option linter.unusedSimpArgs false
set_option maxHeartbeats 800000
set_option maxRecDepth 100000
variable{L l:List ByteArray}{B c':Nat}{X w1 w2:World}
theorem VS(w:World){g:Nat}(e sz:Nat)(hB:B<=w.heap.size)(hg:g=w.heap.size):Own (w.alloc (.cells #[] e)) B e sz (some ⟨g,0,none⟩) 0 0 []:=by subst hg;exact JV w e sz hB
theorem Zso  :∀ cs∈l.map ZZ,cs.length=1:=fun cs h=>by obtain⟨f,_,rfl⟩:=ZB.1 h;rfl
theorem ZrB  :∀ cs∈l.map ZZ,∀ u∈cs,u.oneCell'=true:=fun cs h=>by obtain⟨f,_,rfl⟩:=ZB.1 h;exact QZ rfl
theorem VT{l:List Ae}  :∀ cs∈l.map Ae.cells,cs.length=4:=fun cs h=>by obtain⟨f,_,rfl⟩:=ZB.1 h;rfl
theorem VU{l:List Ae}  :∀ cs∈l.map Ae.cells,∀ u∈cs,u.oneCell'=true:=fun cs h=>by obtain⟨f,_,rfl⟩:=ZB.1 h;exact QZ rfl
theorem NH{w w':World}{row:Option Nat}(hg:w.grownBy w' row)(b:Nat)(hb:b<w.heap.size)(hne:∀ k,row=some k->k≠b):∀ o,w'.frozen? ⟨b,o,none⟩=w.frozen? ⟨b,o,none⟩:=
 fun o=>World.frozen?_of_block (a:=⟨b,o,none⟩) (hg.block b hb (fun e=>hne b e.symm rfl))
theorem Z4R{fs:List Nat}{a b c:World}{g:Nat}(h:Aw fs a b)(k:b.grownBy c (ob (some ⟨g,0,none⟩)))(hg:a.heap.size<=g):Aw fs a c :=
 ⟨k.os.trans h.os,k.tape.trans h.tape,k.output.trans h.output,Nat.le_trans h.size k.size,fun i hi hn=>(k.block i (Nat.lt_of_lt_of_le hi h.size) (by simp[ob];omega)).trans (h.block i hi hn)⟩
theorem rM{a b:World}{g:Nat}(h:a.grownBy b (some g)):Aw [g] a b:=Z6k h fun k hk=>by simp only[Zi]at hk;subst hk;simp
theorem ZkA{w w3 w4:World}(bx:List Nat){B0 B1 B2 B3:Nat}{A0 A1 A2 A3:Option Addr}{n0 n1 n2 n3 c0 c1 c2 c3:Nat}{c:Chan}(H:Below w.heap.size w w1) 
  (ho0:Own w1 B0 9 1 A0 n0 c0 (c.queue.map ZZ)) (u1:Aw bx w1 w2) (ho1:Own w2 B1 9 1 A1 n1 c1 (c.inbox.map ZZ)) (u2:Aw bx w2 w3)
  (ho2:Own w3 B2 139 4 A2 n2 c2 (c.net.map Ae.cells)) (u3:Aw bx w3 w4) (ho3:Own w4 B3 139 4 A3 n3 c3 (c.Ai.map Ae.cells)) (u4:Aw bx w4 X)
  (hbx:∀ k∈bx,w.heap.size<=k/\k<B0) (s0:w.heap.size<=B0) (s00:B0<=w1.heap.size) (t1:B1<=w2.heap.size) (t2:B2<=w3.heap.size) (s1:w1.heap.size<=B1) (s2:w2.heap.size<=B2) (s3:w3.heap.size<=B3):
  BM X ⟨⟨A0,n0,c0⟩,⟨A1,n1,c1⟩,⟨A2,n2,c2⟩,⟨A3,n3,c3⟩⟩ c/\Ag w.heap.size X (AP ⟨⟨A0,n0,c0⟩,⟨A1,n1,c1⟩,⟨A2,n2,c2⟩,⟨A3,n3,c3⟩⟩)/\Below w.heap.size w X:=by
 have U4:=u4;have U3:=u3.trans U4;have U2:=u2.trans U3;have U1:=u1.trans U2;have y1:=u1.size;have y2:=u2.size;have y3:=u3.size;have y4:=u4.size;refine⟨⟨(ho0.upd U1 (Aw.apart ho0 fun k hk=>(hbx k hk).2)).zero,(ho1.upd U2 (Aw.apart ho1 fun k hk=>by have:=(hbx k hk).2;omega)).zero,(ho2.upd U3 (Aw.apart ho2 fun k hk=>by have:=(hbx k hk).2;omega)).zero,(ho3.upd U4 (Aw.apart ho3 fun k hk=>by have:=(hbx k hk).2;omega)).zero⟩,?_,Dq H U1 (fun k hk=>(hbx k hk).1)⟩;exact((YC ho0).Ay s0).Mk ((YC ho1).Mk ((YC ho2).Mk ((YC ho3).grow y4) o_ o_ o_) o_ o_ o_) o_ o_ o_
theorem Jz(v:Sv)(l:List ByteArray)(w:World)(hm:v.n<=4194304)(hr:D7 w v.A v.n l):
  Calls prog 65 #[.slice v.A v.n v.c] w fun e w'=>∃ A' c',e=.returned (.slice A' v.n c')/\Own w' w.heap.size 9 1 A' v.n c' (l.map ZZ)/\Below w.heap.size w w':=by
 obtain⟨i0,hii,hq0,hq1,hq2⟩:=info_parts JO;go_enter func65,ntmps65;go_wp2_with (at_builtin;refine ZX rfl (.tmp 3) (.tmp 4) 74 rfl w.heap.size 9 1 16 i0 _ underlying74 hii hq0 hq1 hq2 rfl o_ (some ⟨w.heap.size,0,none⟩) 0 0 [] rfl (JV w _ 1 (Zd _)) v.A v.n v.c (l.map ZZ) rfl (Row.below hr (Ze (Below.refl _ _) _)) Zso ZrB (by simp only[maxLen];omega) o_ s_ ?_;intro A3 c3 w3 ho3 hg3 GY);have hB:=Qn (Ze (Below.refl w.heap.size w) _) hg3 (fun q hq=>by simp[ob]at hq;omega);go_ret;simp only[Nat.zero_add,List.nil_append]at ho3;exact⟨A3,c3,s_,ho3,hB⟩
theorem Yp(v:CV)(c:Chan)(w:World)(hm:EP c)(hr:FI w v c):
  Calls prog 43 #[YA v c.base c.expected] w fun e w'=>∃ v',e=.returned (YA v' c.base c.expected)/\BM w' v' c/\Ag w.heap.size w' (AP v')/\Below w.heap.size w w':=by
 obtain⟨j0,hjj,hr0,hr1,hr2⟩:=info_parts qP;have m0:v.q.n<=4194304:=by have:=hr.q.len.out;unfold EP at hm;omega
 have m1:v.i.n<=4194304:=by have:=hr.i.len.out;unfold EP at hm;omega
 have m2:v.n.n<=4194304:=by have:=hr.n.len.out;unfold EP at hm;omega
 have m3:v.a.n<=4194304:=by have:=hr.a.len.out;unfold EP at hm;omega
 clear hm;go_enter func43,ntmps43;go_wp2_with fail;refine Zb (Jz v.q c.queue _ o_ ?_) ?_
 .exact hr.q.below (Ze (Ze (Below.refl _ _) _) _)
 rintro e w1 ⟨A0,c0,rfl,ho0,hb1⟩;have H:=Zg (Ze (Ze (Below.refl w.heap.size w) _) _) hb1;have H1:=H;have hz1:w.heap.size+2<=w1.heap.size:=RX hb1;have rO:=JT hb1 (w.heap.size) (by first |(simp;done)|(simp;omega));have rP:=Q6 hb1 (w.heap.size) (by first |(simp;done)|(simp;omega));have rQ:=JT hb1 (w.heap.size+1) (by first |(simp;done)|(simp;omega));have rR:=Q6 hb1 (w.heap.size+1) (by first |(simp;done)|(simp;omega));go_wp2_with fail;refine Zb (Jz v.i c.inbox _ o_ ?_) ?_
 .exact hr.i.below (by repeat(first|exact H|refine Dp ?_ s_ _))
 rintro e w2 ⟨A1,c1,rfl,ho1,hb2⟩;have u1:Aw [w.heap.size] w1 w2:=((Aw.refl _ _).AA s_ _).CK hb2;have H:=Zg (Dp H s_ _) hb2;have hz2:w1.heap.size<=w2.heap.size:=by have:=hb2.size;simpa using this
 have rT:=JT hb2 (w.heap.size) AR;have rU:=Q6 hb2 (w.heap.size) AR;have Z3W:=JT hb2 (w.heap.size+1) AR;have Z3X:=Q6 hb2 (w.heap.size+1) AR;have hq2:w.heap.size<w2.heap.size:=by omega
 have Z3Y:w.heap.size+1<w2.heap.size:=by omega
 have tok:True:=trivial
 go_wp2_with (at_builtin;first
  |(have _t:=tok;refine ZX rfl (.tmp 11) (.tmp 13) 75 rfl w2.heap.size 139 4 40 j0 _ underlying75 hjj hr0 hr1 hr2 rfl o_ (some ⟨w2.heap.size,0,none⟩) 0 0 [] rfl (VS _ _ 4 s_ s_) v.n.A v.n.n v.n.c (c.net.map Ae.cells) rfl (hr.n.below (by repeat(first|exact H|refine Ze ?_ _|refine Dp ?_ s_ _))) VT VU (by simp only[maxLen];omega) o_ s_ ?_;clear tok _t;intro A2 c2 w3 ho2 hg3 GY;have VV:True:=trivial;have u2:Aw [w.heap.size] w2 w3:=Z4R (((Aw.refl _ _).AA s_ _).Aj _) hg3 (Zd _);have hz3:w2.heap.size+1<=w3.heap.size:=(by have:=hg3.size;simpa using this);have hq3:w.heap.size<w3.heap.size:=o_;have Z3Z:w.heap.size+1<w3.heap.size:=o_;have H3:=Dq H u2 (fun k hk=>by simp at hk;omega);have Z40:=Ml hg3 (w.heap.size) AR (fun k hk=>by simp[ob]at hk;omega);have Z41:=NH hg3 (w.heap.size) AR (fun k hk=>by simp[ob]at hk;omega);have Z42:=Ml hg3 (w.heap.size+1) AR (fun k hk=>by simp[ob]at hk;omega);have Z43:=NH hg3 (w.heap.size+1) AR (fun k hk=>by simp[ob]at hk;omega))
  |(have _t:=VV;refine ZX rfl (.tmp 16) (.tmp 18) 75 rfl w3.heap.size 139 4 40 j0 _ underlying75 hjj hr0 hr1 hr2 rfl o_ (some ⟨w3.heap.size,0,none⟩) 0 0 [] rfl (VS _ _ 4 s_ s_) v.a.A v.a.n v.a.c (c.Ai.map Ae.cells) rfl (hr.a.below (by repeat(first|exact H3|refine Ze ?_ _|refine Dp ?_ s_ _))) VT VU (by simp only[maxLen];omega) o_ s_ ?_;clear VV _t;intro A3 c3 w4 ho3 hg4 E5;have u3:Aw [w.heap.size] w3 w4:=Z4R (((Aw.refl _ _).AA s_ _).Aj _) hg4 (Zd _);have Ux:w3.heap.size+1<=w4.heap.size:=(by have:=hg4.size;simpa using this);have Z44:=Ml hg4 (w.heap.size) AR (fun k hk=>by simp[ob]at hk;omega);have Z45:=NH hg4 (w.heap.size) AR (fun k hk=>by simp[ob]at hk;omega);have Z46:=Ml hg4 (w.heap.size+1) AR (fun k hk=>by simp[ob]at hk;omega);have Z52:=NH hg4 (w.heap.size+1) AR (fun k hk=>by simp[ob]at hk;omega)))
 simp only[Nat.zero_add,List.nil_append]at ho2 ho3;refine bodyPost_ret (v:=YA ⟨⟨A0,v.q.n,c0⟩,⟨A1,v.i.n,c1⟩,⟨A2,v.n.n,c2⟩,⟨A3,v.a.n,c3⟩⟩ c.base c.expected) (by simp[*,results,results43,go_sem]) rfl ⟨_,rfl,?_⟩;exact ZkA [w.heap.size,w.heap.size+1] H1 ho0 (u1.mono s_) ho1 (u2.mono s_) ho2 (u3.mono s_) ho3 (by repeat(first|with_reducible exact Aw.refl _ _ |(with_reducible refine Aw.AA ?_ ?_ _);rotate_left;simp)) AR AR (by have:=hb1.size;simpa using this) (by have:=hb2.size;simpa using this) o_ s_ (Zd _) (Zd _)
theorem Own.box{w:World}{b t sz:Nat}{cs:List Value}(h:w.heap[b]? = some (.cells cs.toArray t (0,0)))(hl:cs.length=sz):Own w 0 t sz (some ⟨b,0,none⟩) 1 1 [cs]:=
 ⟨⟨by simp[hl],.inr ⟨b,1,cs.toArray,rfl,Nat.zero_le _,h,Zd _,by simp[maxLen],by simp[hl],by rw[List.take_of_length_le (by simp[hl])];simp⟩⟩,rfl,by simp[hl]⟩
theorem Own.BG{w:World}{b t sz:Nat}{cs:List Value}(h:Own w 0 t sz (some ⟨b,0,none⟩) 1 1 [cs]):∀ (j:Nat) (u:Value),cs[j]? = some u->w.cell? ⟨b,j,none⟩=some u:=by
 intro j u hu;obtain⟨g',off',hA,hc⟩:=h.row.2 0 cs rfl;simp only[Zi,Addr.mk.injEq,and_true]at hA;obtain⟨rfl,rfl⟩:=hA;simpa using hc j u hu
theorem ZtB(w:World)(o:Obj):(w.alloc o).heap[w.heap.size]? = some o:=heap_alloc_new w o
theorem NI(w:World)(o o2:Obj):((w.alloc o).alloc o2).heap[w.heap.size]? = some o:=((Ze (Below.refl _ _) o2).block w.heap.size s_).trans (ZtB w o)
theorem QG :(Tryz.prog.info? 77).map (·.size)=some 6:=by kernel_rfl
def Uy:Sv:=⟨none,0,0⟩
def Xi(c:Chan):Chan:={ c with inbox:=[]}
def Zn9(w:World)(c:Chan)(e:Ending)(w':World):Prop :=
 ∃ (v':CV) (vs:Sv),e=.returned (.tuple #[YA v' (Xi c).base (Xi c).expected,.slice vs.A vs.n vs.c])/\BM w' v' (Xi c)/\Ag w.heap.size w' (AP v')/\Im w' vs c.inbox/\Ag w.heap.size w' (ND vs)/\(∀ q∈AP v',q ∉ ND vs)/\Below w.heap.size w w'
theorem Zlg{w:World}{v:CV}{c:Chan}(bx:List Nat)(H:Below w.heap.size w w1)(ho:BM w1 v c)(hf:Ag B w1 (AP v))(hB:w.heap.size<=B)(u:Aw bx w1 X)(hbx:∀ k∈bx,w.heap.size<=k/\(k<B∨w1.heap.size<=k)):
  BM X { v with i:=Uy } (Xi c)/\Ag w.heap.size X (AP { v with i:=Uy })/\Im X v.i c.inbox/\Ag w.heap.size X (ND v.i)/\(∀ q∈AP { v with i:=Uy },q ∉ ND v.i)/\Below w.heap.size w X:=by
 have ho2:=ho.upd u (fun k hk hm=>by have:=hbx k hm;have:=hf.lo k hk;have:=hf.hi k hk;omega);have hf2:=(hf.Ay hB).grow u.size;have e0:AQ Uy.A=[]:=rfl;obtain⟨n,lo,hi⟩:=hf2;simp only[AP,ZA,Z9]at n lo hi;obtain⟨n0,⟨n1,⟨n2,n3,d2⟩,d1⟩,d0⟩:=n;refine⟨⟨ho2.q,Qz _ _ _ _,ho2.n,ho2.a⟩,⟨?_,?_,?_⟩,ho2.i,⟨n1,fun g hg=>lo g (.inr (.inl hg)),fun g hg=>hi g (.inr (.inl hg))⟩,?_,Dq H u (fun k hk=>(hbx k hk).1)⟩
 .simp only[AP,e0,List.nil_append,ZA,Z9];exact⟨n0,⟨n2,n3,d2⟩,fun a ha b hb=>d0 a ha b (.inr hb)⟩
 .intro g hg;simp only[AP,e0,List.nil_append,Z9]at hg;rcases hg with hg|hg|hg
  .exact lo g (.inl hg)
  .exact lo g (.inr (.inr (.inl hg)))
  .exact lo g (.inr (.inr (.inr hg)))
 .intro g hg;simp only[AP,e0,List.nil_append,Z9]at hg;rcases hg with hg|hg|hg
  .exact hi g (.inl hg)
  .exact hi g (.inr (.inr (.inl hg)))
  .exact hi g (.inr (.inr (.inr hg)))
 .intro g hg hm;simp only[AP,e0,List.nil_append,Z9]at hg;simp only[ND]at hm;rcases hg with hg|hg|hg
  .exact d0 g hg g (.inl hm) rfl
  .exact d1 g hm g (.inl hg) rfl
  .exact d1 g hm g (.inr hg) rfl
def Io(c:Chan)(s:ByteArray):Chan:={ c with queue:=c.queue++[s]}
def Xj(c:Chan)(s:ByteArray):Chan×Bool:=if YQ c && YQ (Io c s)then (Io c s,true)else (c,false)
theorem Zjc{c:Chan}{s:ByteArray}(h:YQ c=false):Xj c s=(c,false):=by simp[Xj,h]
theorem Zjb{c:Chan}{s:ByteArray}(h:YQ (Io c s)=false):Xj c s=(c,false):=by simp[Xj,h]
theorem Zj9{c:Chan}{s:ByteArray}(h:YQ c=true)(h2:YQ (Io c s)=true):Xj c s=(Io c s,true):=by simp[Xj,h,h2]
theorem Zn5{v:CV}{c:Chan}{s:ByteArray}{A:Option Addr}(ho:BM w1 v c)(hf:(AP v).Nodup)(ho2:Own w2 0 9 1 A (v.q.n+1) c' (c.queue.map ZZ++[[.string s]]))(u:Aw (AQ v.q.A) w1 w2):BM w2 { v with q:=⟨A,v.q.n+1,c'⟩} (Io c s):=by
 simp only[AP,ZA,Z9]at hf;obtain⟨_,⟨_,⟨_,_,_⟩,_⟩,d0⟩:=hf;exact⟨by simpa [Io,ZZ]using ho2,ho.i.upd u (fun k hk hm=>d0 k hm k (.inl hk) rfl),ho.n.upd u (fun k hk hm=>d0 k hm k (.inr (.inl hk)) rfl),ho.a.upd u (fun k hk hm=>d0 k hm k (.inr (.inr hk)) rfl)⟩
theorem ZhN{g n:Nat}{v:CV}{A:Option Addr}(hf:Ag B w1 (AP v))(hat:ob A=ob v.q.A∨ob A=some g)(hg:w1.heap.size<=g)(hgl:ob A=some g->g<w2.heap.size)(hB:B<=g)(hs:w1.heap.size<=w2.heap.size):Ag B w2 (AP { v with q:=⟨A,n,c'⟩}):=by
 rcases hat with h|h
 .have e:AP { v with q:=⟨A,n,c'⟩}= AP v:=by simp only[AP,AQ,h]
  rw[e];exact hf.grow hs
 .have e:AP { v with q:=⟨A,n,c'⟩}=[g]++(AQ v.i.A++(AQ v.n.A++AQ v.a.A)):=by simp only[AP,AQ,h];rfl
  rw[e];have hf2:=(Ag.right (fs:=AQ v.q.A) hf);have hgl:=hgl h;refine⟨?_,?_,?_⟩
  .rw[List.singleton_append,List.nodup_cons];exact⟨fun hm=>by have:=hf2.hi g hm;omega,hf2.nodup⟩
  .intro k hk;rcases Z9.1 hk with h|h
   .simp at h;omega
   .exact hf2.lo k h
  .intro k hk;rcases Z9.1 hk with h|h
   .simp at h;omega
   .have:=hf2.hi k h;omega
theorem Zgo{b n:Nat}{v:CV}{A:Option Addr}(hf:Ag B w1 (AP v))(hat:ob A=ob v.q.A∨ob A=some (w1.heap.size+1+1))(hb:b=w1.heap.size∨b<B)(hB:B<=w1.heap.size):∀ q∈AP { v with q:=⟨A,n,c'⟩},q ∉[b]:=by
 intro q hq hm;simp only[List.mem_singleton]at hm;subst hm
 have h1:q∈AQ A∨q∈AP v:=by
  simp only[AP,Z9]at hq ⊢;rcases hq with h|h
  .exact .inl h
  .exact .inr (.inr h)
 have h2:q∈AP v∨q=w1.heap.size+1+1:=by
  rcases h1 with h1|h1
  .have h3:=ZR.1 h1;rcases hat with h|h
   .rw[h]at h3;exact .inl (by simp[AP,ZR.2 h3])
   .rw[h]at h3;exact .inr (Option.some.inj h3).symm
  .exact .inl h1
 rcases h2 with h2|h2
 .have:=hf.lo q h2;have:=hf.hi q h2;omega
 .omega
theorem rV{w w5:World}{v:CV}{c:Chan}(H:Below w.heap.size w w5)(ho:BM w5 v c)(hf:Ag B w5 (AP v))(hB:w.heap.size+2<=B)(u:Aw [w.heap.size+1] w5 X):BM X v c/\Ag w.heap.size X (AP v)/\Below w.heap.size w X :=
 ⟨ho.upd u (fun k hk hm=>by have:=hf.lo k hk;simp at hm;omega),(hf.Ay o_).grow u.size,Dq H u (fun k hk=>by simp at hk;omega)⟩
theorem Zd4(v:CV)(c:Chan)(s:ByteArray)(w:World)(hm:Xb c<=2097152)(hok:KA c)(hr:FI w v c)(hs:s.size<=4194304):
  Calls prog 28 #[YA v c.base c.expected,.string s] w fun e w'=>∃ v',e=.returned (.tuple #[YA v' (Xj c s).1.base (Xj c s).1.expected,.bool (Xj c s).2])/\BM w' v' (Xj c s).1/\Ag w.heap.size w' (AP v')/\Below w.heap.size w w':=by
 have hfw:=Uv (Nat.le_trans hm AO);have hwb:=hok.2.2.2.2.1;have En:v.q.n<=2097152:=by have:=hr.q.len.out;unfold Xb at hm;omega
 have hqc:c.queue.length<=2097152:=by have:=hr.q.len.out;omega
 obtain⟨i0,hii,hq0,hq1,hq2⟩:=info_parts JO;generalize hb1:YQ c=b1;generalize hb2:YQ (Io c s)=b2;have HB1:=Z5 hb1;have HB2:=Z5 hb2;have HS:=Z5 hs;clear hm hok hb1 hb2 hs;go_enter func28,ntmps28;go_wp2_with fail;refine Zb (Yp v c _ hfw ?_) ?_
 .exact hr.below (Ze (Ze (Below.refl _ _) _) _)
 rintro e w1 ⟨v1,rfl,ho,hf,hb1⟩;have H:=Zg (Ze (Ze (Below.refl w.heap.size w) _) _) hb1;have hz1:w.heap.size+2<=w1.heap.size:=RX hb1;have q0:w.heap.size<w1.heap.size:=by omega
 have q1:w.heap.size+1<w1.heap.size:=by omega
 have Z2E:=JT hb1 (w.heap.size) (by first |(simp;done)|(simp;omega));have Z2F:=JT hb1 (w.heap.size+1) (by first |(simp;done)|(simp;omega));have Z2G:=Q6 hb1 (w.heap.size+1) (by first |(simp;done)|(simp;omega));have hf':Ag (w.heap.size+2) w1 (AP v1):=hf.Ay s_;have Z53:v1.q.n<=2097152:=by have h1:=ho.rd.q.len.out;omega
 have Uz:Hid (∀ k,ob v1.q.A=some k->w.heap.size+2<=k/\k<w1.heap.size):=fun k hk=>by
  have h1:k∈AP v1:=by simp[AP,ZR.2 hk]
  exact⟨hf'.lo k h1,hf'.hi k h1⟩
 have tok:True:=trivial;go_wp2_with (at_builtin;have _t:=tok;refine ZX rfl (.tmp 10) (.tmp 12) 74 rfl 0 9 1 16 i0 _ underlying74 hii hq0 hq1 hq2 rfl o_ v1.q.A v1.q.n v1.q.c (c.queue.map ZZ) rfl ((ho.q.Aj _).Aj _) _ 1 1 [[.string s]] rfl (Yh _ _ [.string s] 1 _ s_) s_ (by simp[Value.oneCell']) (by simp only[maxLen];omega) o_ (Nat.zero_le _) ?_;clear tok _t;intro A2 c2 w2 ho2 hg2 Ol;have hz2:w1.heap.size+2<=w2.heap.size:=(by have:=hg2.size;simp at this;omega);have Z2H:=Ml hg2 (w.heap.size) AR (fun k hk=>by have:=Uz.out k hk;omega);have Z2I:=Ml hg2 (w.heap.size+1) AR (fun k hk=>by have:=Uz.out k hk;omega);have Z2J:=NH hg2 (w.heap.size+1) AR (fun k hk=>by have:=Uz.out k hk;omega);have Z2K:=Ml hg2 (w1.heap.size) AR (fun k hk=>by have:=Uz.out k hk;omega);have Z2L:=NH hg2 (w1.heap.size) AR (fun k hk=>by have:=Uz.out k hk;omega);have y0:w.heap.size<w2.heap.size:=o_;have y1:w.heap.size+1<w2.heap.size:=o_;have y2:w1.heap.size<w2.heap.size:=o_;have y3:w1.heap.size≠w.heap.size:=o_;have y4:w1.heap.size≠w.heap.size+1:=o_);have uA:Aw (AQ v1.q.A) w1 w2:=(((Aw.refl _ _).Aj _).Aj _).trans (XV hg2);have GY:ob A2=ob v1.q.A∨ob A2=some (w1.heap.size+1+1):=by simpa using Ol
 have hX:=Zn5 ho hf.nodup ho2 uA;have hF:Ag (w.heap.size+2) w2 (AP { v1 with q:=⟨A2,v1.q.n+1,c2⟩}):=ZhN hf' GY o_ (fun h=>(ho2.lt _ h).2) o_ o_;have H:=Dq H uA (fun k hk=>by have:=Uz.out k (ZR.1 hk);omega);clear Ol;have hN:=Zgo (b:=w1.heap.size) (n:=v1.q.n+1) (c':=c2) hf' GY (.inl rfl) o_;have hN1:=Zgo (b:=w.heap.size+1) (n:=v1.q.n+1) (c':=c2) hf' GY (.inr o_) o_;have uS:Aw [w1.heap.size] w2 (w2.setCell ⟨w1.heap.size,0,none⟩ (.slice A2 (v1.q.n+1) c2)):=Cs;have hX:=hX.upd uS hN;have H:=Dq H uS (fun k hk=>by simp at hk;omega);refine Zb (QE v c _ hwb ?_) ?_
 .exact hr.below H
 rintro e w3 ⟨he,hb3⟩;rw[HB1.out]at he;subst he;have hX:=hX.below hb3;have hF:=hF.grow (w':=w3) (by have:=hb3.size;simpa using this);have H:=Zg H hb3;have hz3:w2.heap.size<=w3.heap.size:=by have:=hb3.size;simpa using this
 have Z2M:=JT hb3 (w.heap.size) AR;have Z3a:=JT hb3 (w.heap.size+1) AR;have Z3b:=Q6 hb3 (w.heap.size+1) AR;have Z3c:=JT hb3 (w1.heap.size) AR;have Z3e:=Q6 hb3 (w1.heap.size) AR;cases b1
 .go_wp2_with fail;refine Zb (Yp v c _ hfw ?_) ?_
  .exact hr.below H
  rintro e w5 ⟨v5,rfl,Cn,NJ,hb5⟩;have VW:=JT hb5 (w.heap.size+1) o_;have VX:=Q6 hb5 (w.heap.size+1) o_;have rW:w.heap.size+2<=w3.heap.size:=by omega
  have H:=Zg H hb5;go_wp2_with fail;refine bodyPost_ret (v:=.tuple #[YA v5 c.base c.expected,.bool false]) (by simp[*,results,results28,go_sem]) rfl ?_;rw[Zjc HB1.out];exact⟨v5,rfl,rV H Cn NJ rW (by repeat(first|with_reducible exact Aw.refl _ _ |((with_reducible refine Aw.AA ?_ ?_ _);rotate_left;simp)))⟩
 go_wp2_with fail;refine Zb (QE { v1 with q:=⟨A2,v1.q.n+1,c2⟩} (Io c s) _ hwb ?_) ?_
 .exact hX.rd
 rintro e w4 ⟨he,hb4⟩;rw[HB2.out]at he;subst he;have hX:=hX.below hb4;have hF:=hF.grow (w':=w4) hb4.size;have H:=Zg H hb4;have Ux:=hb4.size;have Z3f:=JT hb4 (w.heap.size) o_;have Z3g:=JT hb4 (w.heap.size+1) o_;have Z3O:=Q6 hb4 (w.heap.size+1) o_;have Z3P:=JT hb4 (w1.heap.size) o_;cases b2
 .go_wp2_with fail;refine Zb (Yp v c _ hfw ?_) ?_
  .exact hr.below H
  rintro e w5 ⟨v5,rfl,Cn,NJ,hb5⟩;have VW:=JT hb5 (w.heap.size+1) o_;have VX:=Q6 hb5 (w.heap.size+1) o_;have rW:w.heap.size+2<=w4.heap.size:=by omega
  have H:=Zg H hb5;go_wp2_with fail;refine bodyPost_ret (v:=.tuple #[YA v5 c.base c.expected,.bool false]) (by simp[*,results,results28,go_sem]) rfl ?_;rw[Zjb HB2.out];exact⟨v5,rfl,rV H Cn NJ rW (by repeat(first|with_reducible exact Aw.refl _ _ |((with_reducible refine Aw.AA ?_ ?_ _);rotate_left;simp)))⟩
 go_wp2_with fail;refine bodyPost_ret (v:=.tuple #[YA { v1 with q:=⟨A2,v1.q.n+1,c2⟩} c.base c.expected,.bool true]) (by simp[*,results,results28,go_sem]) rfl ?_;rw[Zj9 HB1.out HB2.out];exact⟨_,rfl,rV H hX hF (Zd _) (by repeat(first|with_reducible exact Aw.refl _ _ |((with_reducible refine Aw.AA ?_ ?_ _);rotate_left;simp)))⟩
def CF(l:List A7)(k:Nat)(L:List ByteArray):Prop:=Yk l=(l.drop k).foldl QT L
theorem ZbY(l:List A7):CF l 0 []:=rfl
theorem CF.step{l:List A7}{k:Nat}{f:A7}(h:CF l k L)(hf:Hid (l[k]? = some f)):CF l (k+1) (QT L f):=by
 unfold CF at *;rw[h,QP hf];rfl
theorem CF.done{l:List A7}{k n:Nat}(h:CF l k L)(hl:Hid (l.length=n))(hk:¬ k<n):Hid (Yk l=L):=by
 unfold CF at h;rw[Hid,h,QK hl hk];rfl
theorem jC{s:ByteArray}(h:Hid (s.toList.isEmpty=true)):JX L s=L:=by simp[JX,h.out]
theorem jD{s:ByteArray}(h:Hid (Q3 L s=true)):JX L s=L:=by simp[JX,h.out]
theorem jE{s:ByteArray}(h:Hid (s.toList.isEmpty=false))(h2:Hid (Q3 L s=false)):JX L s=L++[s]:=by simp[JX,h.out,h2.out]
theorem UA(L:List ByteArray)(s:ByteArray):L.map ZZ++[ZZ s]=(L++[s]).map ZZ:=by simp
def Znb(w:World)(e:Ending)(w':World)(L:List ByteArray)(t:TypeId)(m:Nat):Prop:=∃ v:Sv,e=.returned (.slice v.A v.n v.c)/\Own w' w.heap.size t 1 v.A v.n v.c (L.map ZZ)/\Below w.heap.size w w'/\v.n<=m
theorem Z34(A:Option Addr)(n c:Nat)(l:List A7)(w:World)(hn:n<=100000)(hr:Cy w A n l):
  Calls prog 67 #[.slice A n c] w fun e w'=>Znb w e w' (Yk l) 9 (2*n):=by
 obtain⟨i0,hii,hq0,hq1,hq2⟩:=info_parts JO;go_enter func67,ntmps67;go_wp2;go_loopw [9,3] (fun i v wr=>∃ (k:Nat) (A':Option Addr) (n' c':Nat) (L:List ByteArray),k<=n/\n'<=2*k/\i=.int .i64 k/\v=.slice A' n' c'/\Own wr w.heap.size 9 1 A' n' c' (L.map ZZ)/\CF l k L/\Below w.heap.size w wr) (fun i _ _=>n-(intOf i).toNat)
 case atStart=>exact⟨0,_,0,0,[],o_,o_,rfl,rfl,JV w 9 1 (Zd _),ZbY l,Ze (Below.refl _ _) _⟩
 case round =>
  obtain⟨k,A',n',c',L,hk,hnk,rfl,rfl,hown,hi,hb⟩:=hrel;by_cases hlt:k<n
  .obtain⟨f,g,off,hf,rfl,g0,g1,g2,g3,g4,g5,g6,g7⟩:=Cy.at_ (hr.below hb) hlt;have hst:=Z5 (hi.step hf);clear hi;generalize hfe:f.AL.toList.isEmpty=fe;generalize hte:f.Z00.toList.isEmpty=te;have HF:=Z5 hfe;have HT:=Z5 hte;clear hfe hte;cases fe
   .have hx0:¬ f.AL.toList=[]:=by have:=HF.out;simpa using this
    have hy0:(!f.AL.toList.isEmpty)=true:=by rw[HF.out];rfl
    have hz0:f.AL.toList.isEmpty=false:=HF.out;generalize hh0:Q3 L f.AL=b0;have PL:=Z5 hh0;clear hh0;cases b0
    .have e0:=jE HF PL;cases te
     .have hx1:¬ f.Z00.toList=[]:=by have:=HT.out;simpa using this
      have hy1:(!f.Z00.toList.isEmpty)=true:=by rw[HT.out];rfl
      have hz1:f.Z00.toList.isEmpty=false:=HT.out;generalize PN:Q3 (L++[f.AL]) f.Z00=b1;have Ke:=Z5 PN;clear PN;cases b1
      .have e1:=jE HT Ke;go_wp2_with fail;refine Zb (Q0 _ _ _ L f.AL _ o_ (hown.Aj _).row) ?_;rintro e wx ⟨rfl,rfl⟩;rw[PL.out];go_wp2_with (at_builtin;refine ZX rfl (.tmp 23) (.tmp 26) 74 rfl w.heap.size 9 1 16 i0 _ underlying74 hii hq0 hq1 hq2 rfl o_ A' n' c' _ rfl ((hown.Aj _).Aj _) _ 1 1 [ZZ f.AL] rfl (Yh _ _ _ 1 _ s_) (by simp[ZZ]) (by simp[ZZ,Value.oneCell']) (by simp only[maxLen];omega) o_ (Ze (Ze hb _) _).size ?_;intro A3 c3 w3 ho0 hg0 VY;have hbx:=Ml hg0 wr.heap.size (by simp;try omega) (fun q hq=>by have h1:=(hown.lt q hq).2;omega);have hlw:wr.heap.size<w3.heap.size:=(by have:=hg0.size;simp at this;omega));have hB0:=Qn (Ze (Ze hb _) _) hg0 (fun q hq=>(hown.lt q hq).1);rw[UA]at ho0;refine Zb (Q0 _ _ _ (L++[f.AL]) f.Z00 _ o_ ho0.row) ?_;rintro e wx ⟨rfl,rfl⟩;rw[Ke.out];go_wp2_with (at_builtin;refine ZX rfl (.tmp 38) (.tmp 41) 74 rfl w.heap.size 9 1 16 i0 _ underlying74 hii hq0 hq1 hq2 rfl o_ A3 (n'+1) c3 _ rfl (ho0.Aj _) _ 1 1 [ZZ f.Z00] rfl (Yh _ _ _ 1 _ s_) (by simp[ZZ]) (by simp[ZZ,Value.oneCell']) (by simp only[maxLen];omega) o_ (Ze hB0 _).size ?_;intro A4 c4 w4 ho1 hg1 GZ);have hB1:=Qn (Ze hB0 _) hg1 (fun q hq=>(ho0.lt q hq).1);rw[UA]at ho1;go_roundw
       case rel=>exact⟨k+1,_,n'+1+1,_,((L++[f.AL])++[f.Z00]),o_,o_,by go_num,rfl,ho1,by rw[QT,e0,e1]at hst;exact hst.out,hB1⟩
       case measure=>simp[intOf];omega
      .have e1:=jD Ke;go_wp2_with fail;refine Zb (Q0 _ _ _ L f.AL _ o_ (hown.Aj _).row) ?_;rintro e wx ⟨rfl,rfl⟩;rw[PL.out];go_wp2_with (at_builtin;refine ZX rfl (.tmp 23) (.tmp 26) 74 rfl w.heap.size 9 1 16 i0 _ underlying74 hii hq0 hq1 hq2 rfl o_ A' n' c' _ rfl ((hown.Aj _).Aj _) _ 1 1 [ZZ f.AL] rfl (Yh _ _ _ 1 _ s_) (by simp[ZZ]) (by simp[ZZ,Value.oneCell']) (by simp only[maxLen];omega) o_ (Ze (Ze hb _) _).size ?_;intro A3 c3 w3 ho0 hg0 VY;have hbx:=Ml hg0 wr.heap.size (by simp;try omega) (fun q hq=>by have h1:=(hown.lt q hq).2;omega);have hlw:wr.heap.size<w3.heap.size:=(by have:=hg0.size;simp at this;omega));have hB0:=Qn (Ze (Ze hb _) _) hg0 (fun q hq=>(hown.lt q hq).1);rw[UA]at ho0;refine Zb (Q0 _ _ _ (L++[f.AL]) f.Z00 _ o_ ho0.row) ?_;rintro e wx ⟨rfl,rfl⟩;rw[Ke.out];go_wp2_with fail;go_roundw
       case rel=>exact⟨k+1,_,n'+1,_,(L++[f.AL]),o_,o_,by go_num,rfl,ho0,by rw[QT,e0,e1]at hst;exact hst.out,hB0⟩
       case measure=>simp[intOf];omega
     .have hx1:f.Z00.toList=[]:=by have:=HT.out;simpa using this
      have hy1:(!f.Z00.toList.isEmpty)=false:=by rw[HT.out];rfl
      have hz1:f.Z00.toList.isEmpty=true:=HT.out;have e1:JX (L++[f.AL]) f.Z00=(L++[f.AL]):=jC HT;go_wp2_with fail;refine Zb (Q0 _ _ _ L f.AL _ o_ (hown.Aj _).row) ?_;rintro e wx ⟨rfl,rfl⟩;rw[PL.out];go_wp2_with (at_builtin;refine ZX rfl (.tmp 23) (.tmp 26) 74 rfl w.heap.size 9 1 16 i0 _ underlying74 hii hq0 hq1 hq2 rfl o_ A' n' c' _ rfl ((hown.Aj _).Aj _) _ 1 1 [ZZ f.AL] rfl (Yh _ _ _ 1 _ s_) (by simp[ZZ]) (by simp[ZZ,Value.oneCell']) (by simp only[maxLen];omega) o_ (Ze (Ze hb _) _).size ?_;intro A3 c3 w3 ho0 hg0 VY;have hbx:=Ml hg0 wr.heap.size (by simp;try omega) (fun q hq=>by have h1:=(hown.lt q hq).2;omega);have hlw:wr.heap.size<w3.heap.size:=(by have:=hg0.size;simp at this;omega));have hB0:=Qn (Ze (Ze hb _) _) hg0 (fun q hq=>(hown.lt q hq).1);rw[UA]at ho0;go_roundw
      case rel=>exact⟨k+1,_,n'+1,_,(L++[f.AL]),o_,o_,by go_num,rfl,ho0,by rw[QT,e0,e1]at hst;exact hst.out,hB0⟩
      case measure=>simp[intOf];omega
    .have e0:=jD PL;cases te
     .have hx1:¬ f.Z00.toList=[]:=by have:=HT.out;simpa using this
      have hy1:(!f.Z00.toList.isEmpty)=true:=by rw[HT.out];rfl
      have hz1:f.Z00.toList.isEmpty=false:=HT.out;generalize PN:Q3 L f.Z00=b1;have Ke:=Z5 PN;clear PN;cases b1
      .have e1:=jE HT Ke;go_wp2_with fail;refine Zb (Q0 _ _ _ L f.AL _ o_ (hown.Aj _).row) ?_;rintro e wx ⟨rfl,rfl⟩;rw[PL.out];go_wp2_with fail;refine Zb (Q0 _ _ _ L f.Z00 _ o_ (hown.Aj _).row) ?_;rintro e wx ⟨rfl,rfl⟩;rw[Ke.out];go_wp2_with (at_builtin;refine ZX rfl (.tmp 38) (.tmp 41) 74 rfl w.heap.size 9 1 16 i0 _ underlying74 hii hq0 hq1 hq2 rfl o_ A' n' c' _ rfl ((hown.Aj _).Aj _) _ 1 1 [ZZ f.Z00] rfl (Yh _ _ _ 1 _ s_) (by simp[ZZ]) (by simp[ZZ,Value.oneCell']) (by simp only[maxLen];omega) o_ (Ze (Ze hb _) _).size ?_;intro A4 c4 w4 ho1 hg1 GZ);have hB1:=Qn (Ze (Ze hb _) _) hg1 (fun q hq=>(hown.lt q hq).1);rw[UA]at ho1;go_roundw
       case rel=>exact⟨k+1,_,n'+1,_,(L++[f.Z00]),o_,o_,by go_num,rfl,ho1,by rw[QT,e0,e1]at hst;exact hst.out,hB1⟩
       case measure=>simp[intOf];omega
      .have e1:=jD Ke;go_wp2_with fail;refine Zb (Q0 _ _ _ L f.AL _ o_ (hown.Aj _).row) ?_;rintro e wx ⟨rfl,rfl⟩;rw[PL.out];go_wp2_with fail;refine Zb (Q0 _ _ _ L f.Z00 _ o_ (hown.Aj _).row) ?_;rintro e wx ⟨rfl,rfl⟩;rw[Ke.out];go_wp2_with fail;go_roundw
       case rel=>exact⟨k+1,_,n',_,L,o_,o_,by go_num,rfl,(hown.Aj _),by rw[QT,e0,e1]at hst;exact hst.out,(Ze hb _)⟩
       case measure=>simp[intOf];omega
     .have hx1:f.Z00.toList=[]:=by have:=HT.out;simpa using this
      have hy1:(!f.Z00.toList.isEmpty)=false:=by rw[HT.out];rfl
      have hz1:f.Z00.toList.isEmpty=true:=HT.out;have e1:JX L f.Z00=L:=jC HT;go_wp2_with fail;refine Zb (Q0 _ _ _ L f.AL _ o_ (hown.Aj _).row) ?_;rintro e wx ⟨rfl,rfl⟩;rw[PL.out];go_wp2_with fail;go_roundw
      case rel=>exact⟨k+1,_,n',_,L,o_,o_,by go_num,rfl,(hown.Aj _),by rw[QT,e0,e1]at hst;exact hst.out,(Ze hb _)⟩
      case measure=>simp[intOf];omega
   .have hx0:f.AL.toList=[]:=by have:=HF.out;simpa using this
    have hy0:(!f.AL.toList.isEmpty)=false:=by rw[HF.out];rfl
    have hz0:f.AL.toList.isEmpty=true:=HF.out;have e0:JX L f.AL=L:=jC HF;cases te
    .have hx1:¬ f.Z00.toList=[]:=by have:=HT.out;simpa using this
     have hy1:(!f.Z00.toList.isEmpty)=true:=by rw[HT.out];rfl
     have hz1:f.Z00.toList.isEmpty=false:=HT.out;generalize PN:Q3 L f.Z00=b1;have Ke:=Z5 PN;clear PN;cases b1
     .have e1:=jE HT Ke;go_wp2_with fail;refine Zb (Q0 _ _ _ L f.Z00 _ o_ (hown.Aj _).row) ?_;rintro e wx ⟨rfl,rfl⟩;rw[Ke.out];go_wp2_with (at_builtin;refine ZX rfl (.tmp 38) (.tmp 41) 74 rfl w.heap.size 9 1 16 i0 _ underlying74 hii hq0 hq1 hq2 rfl o_ A' n' c' _ rfl ((hown.Aj _).Aj _) _ 1 1 [ZZ f.Z00] rfl (Yh _ _ _ 1 _ s_) (by simp[ZZ]) (by simp[ZZ,Value.oneCell']) (by simp only[maxLen];omega) o_ (Ze (Ze hb _) _).size ?_;intro A4 c4 w4 ho1 hg1 GZ);have hB1:=Qn (Ze (Ze hb _) _) hg1 (fun q hq=>(hown.lt q hq).1);rw[UA]at ho1;go_roundw
      case rel=>exact⟨k+1,_,n'+1,_,(L++[f.Z00]),o_,o_,by go_num,rfl,ho1,by rw[QT,e0,e1]at hst;exact hst.out,hB1⟩
      case measure=>simp[intOf];omega
     .have e1:=jD Ke;go_wp2_with fail;refine Zb (Q0 _ _ _ L f.Z00 _ o_ (hown.Aj _).row) ?_;rintro e wx ⟨rfl,rfl⟩;rw[Ke.out];go_wp2_with fail;go_roundw
      case rel=>exact⟨k+1,_,n',_,L,o_,o_,by go_num,rfl,(hown.Aj _),by rw[QT,e0,e1]at hst;exact hst.out,(Ze hb _)⟩
      case measure=>simp[intOf];omega
    .have hx1:f.Z00.toList=[]:=by have:=HT.out;simpa using this
     have hy1:(!f.Z00.toList.isEmpty)=false:=by rw[HT.out];rfl
     have hz1:f.Z00.toList.isEmpty=true:=HT.out;have e1:JX L f.Z00=L:=jC HT;go_wp2_with fail;go_roundw
     case rel=>exact⟨k+1,_,n',_,L,o_,o_,by go_num,rfl,(hown.Aj _),by rw[QT,e0,e1]at hst;exact hst.out,(Ze hb _)⟩
     case measure=>simp[intOf];omega
  .have hfin:=hi.done hr.len hlt;go_wp2;go_ret;refine⟨⟨A',n',c'⟩,rfl,?_,hb,by simp only;omega⟩;rw[hfin.out];exact hown
end Go.Proofs.YtcnbphnnfmphlaaGreatDoor
