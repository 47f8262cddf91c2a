/- Texts of this proof. -/
import Derived.Test.YtcnbphnnfmphlaaGreatDoorGtm20
import Derived.Test.YtcnbphnnfmphlaaGreatDoorGtm24
import Derived.Test.YtcnbphnnfmphlaaGreatDoorGtm25
import Derived.Test.YtcnbphnnfmphlaaGreatDoorGtm26
namespace Go.Proofs.YtcnbphnnfmphlaaGreatDoor
open Bool renaming and_eq_true → Zc
open Go.Calls renaming mono → Zb
open Go.Lib renaming hid → Z5
open List renaming getElem?_eq_getElem → Z4,mem_of_getElem? → Z6,mem_append → Z9,getElem?_eq_some_iff → Za,mem_singleton → Zh,replicate → Zk,mem_cons → Zn,length_map → Zo,take_of_length_le → Zp,length_append → Zq,length_cons → Zt,all_eq_true → Zu,nodup_append → ZA,mem_map → ZB,mem_of_mem_drop → ZG,mem_of_mem_take → ZT,mem_cons_of_mem → ZU,mem_or_eq_of_mem_set → ZW,mem_iff_getElem? → Y3
open Nat renaming le_refl → Zd,le_trans → Zj
open Option.some renaming inj → Z7
open Go.Proofs.Tryz
open Go.RowKit
set_option linter.unusedVariables false
set_option linter.unusedSimpArgs false
set_option maxHeartbeats 12000000
set_option maxRecDepth 100000
variable{f:A7}{F' L l:List A7}{fs:List Nat}{B M' N N' j:Nat}{p:Ae}{v0 v1:TV}{u:Ak}{w' w1 w2:World}
def EU(r:Int)(l:List A7):List A7:=l.filter fun f=>Yo f.id == r
theorem UE:∀ (l:List A7) (p:Option Int),JW l p=true->l.Pairwise (fun f g=>f.id<g.id)
 |[],_,_=>List.Pairwise.nil
 |a::l,p,h=>List.Pairwise.cons (tQ l a.id (jO h)) (UE l _ (jO h))
theorem Zrk(h:YW l=true):JW l none=true:=by
 unfold YW at h;simp only[Zc]at h;exact h.2.1
def Xg(l L:List A7):List A7:=L.filter fun g=>!XL l g.id
theorem Zku:∀ (L:List A7) (f:A7) (p:Option Int),JW L p=true->∀ g∈L.drop (L.takeWhile (below f)).length,f.id<=g.id
 |[],f,p,_,g,hg=>by simp at hg
 |a::L,f,p,h,g,hg=>by
  by_cases hb:below f a=true
  .rw[List.takeWhile_cons_of_pos hb]at hg
   exact Zku L f _ (jO h) g (by simpa using hg)
  .rw[List.takeWhile_cons_of_neg hb]at hg
   have ha:f.id<=a.id:=by
    unfold below at hb;simp only[decide_eq_true_eq]at hb;omega
   simp only[List.length_nil,List.drop_zero]at hg;rcases Zn.1 hg with rfl|hg
   .exact ha
   .have:=tQ L a.id (jO h) g hg;omega
theorem ZkQ(hL:JW L none=true)(hl:XL l f.id=false)(hlt:∀ g∈Xg l L,g.id<f.id):Xg l (J0 L f)=Xg l L++[f]:=by
 have hd:Xg l (L.drop (JN L f))=[]:=by
  unfold Xg;rw[List.filter_eq_nil_iff];intro g hg hn;have h1:=Zku L f none hL g hg;have h2:=hlt g (List.mem_filter.2 ⟨ZG hg,hn⟩);omega
 have hs:Xg l L=Xg l (L.take (JN L f)):=by
  have e:Xg l L=Xg l (L.take (JN L f))++Xg l (L.drop (JN L f)):=by
   unfold Xg;rw[<- List.filter_append,List.take_append_drop]
  rw[e,hd,List.append_nil]
 rw[hs];unfold J0
 have e2:Xg l (L.take (JN L f)++f::L.drop (JN L f))=Xg l (L.take (JN L f))++(f::Xg l (L.drop (JN L f))):=by
  unfold Xg;rw[List.filter_append,List.filter_cons_of_pos (by simp[hl])]
 rw[e2,hd]
theorem uF(l:List A7):∀ (fs L a:List A7),YW L=true->a=Xg l L->(∀ x:Int,XL l x=true->XL L x=true)->(∀ g∈a,∀ f∈fs,g.id<f.id)->fs.Pairwise (fun f g=>f.id<g.id)->
  (fs.foldl Yr (L,a)).2=Xg l (fs.foldl Yr (L,a)).1
 |[],L,a,_,ha,_,_,_=>ha
 |f::fs,L,a,hL,ha,hs,hlt,hp=>by
  obtain⟨p1,p2⟩:=List.pairwise_cons.1 hp
  rw[List.foldl_cons]
  cases had:(Qt L f).2 with
  |false =>
   have e:Yr (L,a) f=(L,a):=by unfold Yr;simp only[had];rfl
   rw[e]
   exact uF l fs L a hL ha hs (fun g hg h hh=>hlt g hg h (by simp[hh])) p2
  |true =>
   obtain⟨h1,h2,_⟩:=iN had
   have hnL:XL L f.id=false:=by
    cases hh:XL L f.id with
    |false=>rfl
    |true=>rw[qK hL hh]at had;cases had
   have hnl:XL l f.id=false:=by
    cases hh:XL l f.id with
    |false=>rfl
    |true=>rw[hs _ hh]at hnL;cases hnL
   have e:Yr (L,a) f=(J0 L f,a++[f]):=by unfold Yr;simp only[had,if_true,h1]
   have hf:=ZkQ (Zrk hL) hnl (fun g hg=>hlt g (by rw[ha];exact hg) f s_);rw[e];refine uF l fs (J0 L f) (a++[f]) h2 (by rw[hf,ha]) (fun x hx=>?_) (fun g hg h hh=>?_) p2
   .obtain⟨g,hg,he⟩:=Uu.1 (hs x hx);exact Uu.2 ⟨g,Jr.2 (.inr hg),he⟩
   .rcases Z9.1 hg with hg|hg
    .exact hlt g hg h (by simp[hh])
    .rw[Zh.1 hg];exact p1 h hh
theorem Zai(l:List A7):Xg l l=[]:=by
 unfold Xg;rw[List.filter_eq_nil_iff];intro g hg;have:XL l g.id=true:=Uu.2 ⟨g,hg,rfl⟩;simp[this]
theorem Zgd:∀ (l:List A7) (r:Int) (p:Option Int),Ka r l p=true->JW l p=true
 |[],_,_,_=>rfl
 |a::l,r,p,h=>by
  simp only[Ka,Zc]at h
  simp only[JW,Zc]
  exact⟨h.1,h.2.2.1,Zgd l r _ h.2.2.2⟩
theorem ZcO{fs:List A7}{r:Int}  :(Qb l r fs).2=Xg l (Qb l r fs).1:=by
 unfold Qb;split
 .rename_i h;rw[Zc]at h;have hb:=h.2;unfold Yg at hb;simp only[Zc]at hb;exact uF l fs l [] h.1 (Zai l).symm (fun _ hx=>hx) s_ (UE fs none (Zgd fs r none hb.2.2))
 .exact(Zai l).symm
noncomputable def WL(j:ByteArray)(f:A7):ByteArray:=(EV j ⟨false,0,f⟩).1
noncomputable def Kg(j:ByteArray)(A:List A7):ByteArray:=A.foldl WL j
noncomputable def NM(r:Am)(s:ByteArray):Am :=
 if (pb s).2 then ⟨(Qb r.Ab (pb s).1.AU (pb s).1.Ab).1,Kg r.Av (Qb r.Ab (pb s).1.AU (pb s).1.Ab).2⟩else r
theorem ZlC{r:Am}{s:ByteArray}(h:(pb s).2=false):NM r s=r:=by simp[NM,h]
theorem uG{r:Am}{s:ByteArray}(h:(pb s).2=true):NM r s=⟨(Qb r.Ab (pb s).1.AU (pb s).1.Ab).1,Kg r.Av (Qb r.Ab (pb s).1.AU (pb s).1.Ab).2⟩:=by simp[NM,h]
noncomputable def Fh(r:Am)(l:List ByteArray):Am:=l.foldl NM r
def Dz(t:Ak)(r:Nat)(x:Am):Ak:=⟨t.Ad.set r x,t.channels⟩
def Kh(t:Ak)(i:Nat):List Chan:=(t.channels[i]?).getD []
def XW(t:Ak)(i j:Nat)(c:Chan):Ak:=⟨t.Ad,t.channels.set i ((Kh t i).set j c)⟩
def Iu(t:Ak)(r:Nat):Am:=(t.Ad[r]?).getD ⟨[],ByteArray.empty⟩
def DX(t:Ak)(i j:Nat):Chan:=((Kh t i)[j]?).getD { queue:=[],base:=0,expected:=0,inbox:=[],net:=[],Ai:=[]}
noncomputable def UF(t:Ak)(i j:Nat):Ak:=Dz (XW t i j (Xi (DX t i j))) j (Fh (Iu t j) (DX t i j).inbox)
def Gj(t:Ak)(r:Int):Bool:=Be r 0 (t.Ad.length-1)
noncomputable def Iv(t:Ak)(i j m a:Int):Ak :=
 if YG t && (Gj t i && (Gj t j && decide (i≠j)))then UF (XW t i.toNat j.toNat (Xp (DX t i.toNat j.toNat) m a)) i.toNat j.toNat else t
noncomputable def NN(t:Ak)(p:Nat×Nat):Ak:=if p.1=p.2 then t else UF (XW t p.1 p.2 (Qd (DX t p.1 p.2))) p.1 p.2
theorem Zn4(s:ByteArray)(e:Entry):(EV s e).1.size<=s.size+144:=by
 unfold EV;split
 .rename_i h;have:=Zkr h.1 (PR s);have h2:(s.extract 0 (PS s)).size<=s.size:=by rw[ByteArray.size_extract];omega
  rw[ByteArray.size_append];omega
 .simp
theorem uH:∀ (A:List A7) (j:ByteArray),(Kg j A).size<=j.size+144*A.length
 |[],j=>Zd _
 |f::A,j=>by
  have h1:=uH A (WL j f)
  have h2:=Zn4 j ⟨false,0,f⟩
  unfold Kg at *
  simp only[List.foldl_cons,Zt]
  unfold WL at *
  omega
theorem uI:∀ (m l a:List A7),(m.foldl Yr (l,a)).1.length+a.length=l.length+(m.foldl Yr (l,a)).2.length
 |[],l,a=>by simp
 |f::m,l,a=>by
  rw[List.foldl_cons]
  cases h:(Qt l f).2 with
  |false=>rw[uJ h];exact uI m l a
  |true =>
   rw[uK h]
   have h1:=uI m (Qt l f).1 (a++[f])
   have h2:(Qt l f).1.length=l.length+1:=by
    unfold Qt at h ⊢;split
    .unfold J0;simp[JN];have:=(List.takeWhile_prefix (p:=below f) (l:=l)).length_le;omega
    .rename_i hc;rw[if_neg hc]at h;cases h
   rw[Zq,List.length_singleton]at h1;omega
theorem uL(l m:List A7)(r:Int):(Qb l r m).1.length=l.length+(Qb l r m).2.length:=by
 unfold Qb;split
 .have:=uI m l [];simpa using this
 .simp
theorem JL{m:List A7}{r:Int}(h:YW l=true):YW (Qb l r m).1=true:=by
 unfold Qb;split
 .exact uM _ _ _ h
 .exact h
def BH(N:Nat)(r:Am):Prop:=YW r.Ab=true/\r.Av.size+144 *(40-r.Ab.length)<=N
theorem BH.len{r:Am}(h:BH N r):r.Ab.length<=40:=Qo h.1
theorem BH.mid{r:Am}(h:BH N r){p:Int}{m A:List A7}(hA:A.length<=(Qb r.Ab p m).2.length):(Kg r.Av A).size<=N:=by
 have h1:=uL r.Ab m p;have h2:=Qo (JL (m:=m) (r:=p) h.1);have h3:=uH A r.Av;have h4:=h.2;omega
theorem BH.recv{r:Am}(h:BH N r)(s:ByteArray):BH N (NM r s):=by
 unfold NM;split
 .refine⟨JL h.1,?_⟩;have h1:=uL r.Ab (pb s).1.Ab (pb s).1.AU;have h2:=Qo (JL (m:=(pb s).1.Ab) (r:=(pb s).1.AU) h.1);have h3:=uH (Qb r.Ab (pb s).1.AU (pb s).1.Ab).2 r.Av;have h4:=h.2;show(Kg r.Av _).size+144 *(40-(Qb r.Ab (pb s).1.AU (pb s).1.Ab).1.length)<=N;omega
 .exact h
theorem BH.recvs{N:Nat}:∀ (l:List ByteArray) {r:Am},BH N r->BH N (Fh r l)
 |[],_,h=>h
 |s::l,_,h=>BH.recvs l (h.recv s)
theorem ZgZ{r:Am}{l:List ByteArray}{k:Nat}{s:ByteArray}(h:Hid (l[k]? = some s)):Fh r (l.take (k+1))=NM (Fh r (l.take k)) s:=by
 have h':l[k]? = some s:=h;obtain⟨hk,rfl⟩:=Za.1 h';unfold Fh;rw[List.take_succ_eq_append_getElem hk,List.foldl_append];rfl
theorem Zhp{j:ByteArray}{k:Nat}{s:A7}(h:Hid (l[k]? = some s)):Kg j (l.take (k+1))=WL (Kg j (l.take k)) s:=by
 have h':l[k]? = some s:=h;obtain⟨hk,rfl⟩:=Za.1 h';unfold Kg;rw[List.take_succ_eq_append_getElem hk,List.foldl_append];rfl
theorem UG{α:Type}{c:α->Nat}{k:Nat}{x:α}:∀ {l:List α} {i:Nat},(∀ y,l[i]? = some y->c x<=c y+k)->Y9 c (l.set i x)<=Y9 c l+k
 |[],i,_=>by simp[Y9]
 |y::l,0,h=>by have:=h y rfl;simp only[List.set_cons_zero,Y9];omega
 |y::l,i+1,h=>by
  have:=UG (c:=c) (k:=k) (x:=x) (l:=l) (i:=i) (fun z hz=>h z (by simpa using hz))
  simp only[List.set_cons_succ,Y9];omega
theorem Qx{t:Ak}{i:Nat}{row:List Chan}(h:t.channels[i]? = some row):Kh t i=row:=by simp[Kh,h]
theorem uN{t:Ak}{i:Nat}{r:Am}(h:t.Ad[i]? = some r):Iu t i=r:=by simp[Iu,h]
theorem X7{t:Ak}{i:Nat}{row:List Chan}{c:Chan}(h:t.channels[i]? = some row)(h2:row[j]? = some c):DX t i j=c:=by simp[DX,Kh,h,h2]
theorem ZcJ(t:Ak)(r:Nat)(x:Am):FJ (Dz t r x)<=FJ t+x.num:=by
 have h:=UG (c:=Am.num) (k:=x.num) (x:=x) (l:=t.Ad) (i:=r) (fun y _=>by omega);unfold FJ Dz;simp only;omega
theorem Zji(t:Ak)(i j:Nat)(c:Chan):FJ (XW t i j c)<=FJ t+c.num:=by
 have h:=UG (c:=LF) (k:=c.num) (x:=(Kh t i).set j c) (l:=t.channels) (i:=i) (fun y hy=>by
  rw[Qx hy];have h2:=UG (c:=Chan.num) (k:=c.num) (x:=c) (l:=y) (i:=j) (fun z _=>by omega);unfold LF;omega)
 unfold FJ XW;simp only;omega
noncomputable def Ki(t:Ak)(i j:Nat)(c:Chan):Ak:=Dz (XW t i j (Xi c)) j (Fh (Iu t j) c.inbox)
theorem Su{t:Ak}{i:Nat}{row:List Chan}{c:Chan}(h:t.channels[i]? = some row):(XW t i j c).channels[i]? = some (row.set j c):=by
 have hi:=(Za.1 h).1;simp[XW,Qx h,List.getElem?_set_self hi]
theorem ZcD{t:Ak}{i:Nat}{row:List Chan}{c c0:Chan}(h:t.channels[i]? = some row)(h2:row[j]? = some c0):UF (XW t i j c) i j=Ki t i j c:=by
 have hj:=(Za.1 h2).1;have h3:=Su (j:=j) (c:=c) h;have h4:DX (XW t i j c) i j=c:=X7 h3 (by rw[List.getElem?_set_self hj]);have h5:Iu (XW t i j c) j=Iu t j:=rfl;unfold UF Ki;rw[h4,h5];congr 1;have h6:=Qx h3;have h7:=Qx h;unfold XW at h6 ⊢;simp only at h6 ⊢;rw[h6,h7];simp[List.set_set]
theorem ZoX{r:Am}(h:BH N r):r.num<=41:=by have:=h.len;unfold Am.num;omega
theorem Zhc{t:Ak}{i:Nat}{c:Chan}(hr:BH N (Iu t j))(h1:c.queue.length<=8)(h2:c.net.length<=12)(h3:c.Ai.length<=12):FJ (Ki t i j c)<=FJ t+80:=by
 have a:=ZcJ (XW t i j (Xi c)) j (Fh (Iu t j) c.inbox);have b:=Zji t i j (Xi c);have d:=ZoX (BH.recvs c.inbox hr);have e:(Xi c).num<=33:=by simp[Xi,Chan.num];omega
 unfold Ki;omega
structure C8(w0:World)(v0:TV)(w:World)(v:TV):Prop where
 r:v.r=v0.r
 c:v.c=v0.c
 upd:Aw (Cb v0) w0 w
 Fj:∀ q∈Cb v,q∈Cb v0∨w0.heap.size<=q
theorem C8.refl(w:World)(v:TV):C8 w v w v:=⟨rfl,rfl,Aw.refl _ _,fun _ h=>.inl h⟩
theorem C8.trans{w0:World}{v2:TV}(h:C8 w0 v0 w1 v1)(k:C8 w1 v1 w2 v2):C8 w0 v0 w2 v2 :=
 ⟨k.r.trans h.r,k.c.trans h.c,h.upd.Iw k.upd h.Fj,fun q hq=>by
  rcases k.Fj q hq with h1|h1
  .exact h.Fj q h1
  .exact .inr (Zj h.upd.size h1)⟩
theorem C8.below{w0:World}(h:C8 w0 v0 w1 v1)(k:Below w1.heap.size w1 w2):C8 w0 v0 w2 v1:=⟨h.r,h.c,h.upd.CK k,h.Fj⟩
theorem List.BZ{α:Type}:∀ {l:List α} {i:Nat} {x:α},l[i]? = some x->l.set i x=l
 |y::l,0,x,h=>by simp at h;subst h;rfl
 |y::l,i+1,x,h=>by simp only[List.getElem?_cons_succ]at h;rw[List.set_cons_succ,List.BZ h]
theorem Ag.Fj{w:World}{fs':List Nat}(h:Ag B w fs)(hB:B<=w.heap.size)(hn:fs'.Nodup)(hf:∀ q∈fs',q∈fs∨w.heap.size<=q)(hl:∀ q∈fs',q<w'.heap.size):Ag B w' fs' :=
 ⟨hn,fun q hq=>by
  rcases hf q hq with h1|h1
  .exact h.lo q h1
  .omega,hl⟩
theorem Bt.Fp{α:Type}{K:World->List Nat->List Value->α->Prop}(hK:Loc K){w:World}{e sz n c:Nat}{A:Option Addr}{l:List α}(h:Bt K w fs e sz A n c l)(hfr:fs.Nodup){i:Nat}{x:α}(hx:l[i]? = some x):
  ∃ css f cs g,Own w 0 e sz A n c css/\css[i]? = some cs/\K w f cs x/\A=some ⟨g,0,none⟩/\g ∉ f/\(∀ q∈g::f,q∈fs)/\f.Nodup /\
   (∀ w' cs' x' f',Own w' 0 e sz A n c (css.set i cs')->K w' f' cs' x'->Aw (g::f) w w'->f'.Nodup->(∀ q∈f',q∈f∨w.heap.size<=q)->∃ fs',Bt K w' fs' e sz A n c (l.set i x')/\fs'.Nodup/\∀ q∈fs',(q∈fs/\q ∉ f)∨q∈f'):=by
 have hlt:=h.lt hK;obtain⟨css,Bb,h1,h2,rfl⟩:=h;obtain⟨f,cs,hf,hcs,hk⟩:=h2.at_ hx;obtain⟨hno,hnf,hna⟩:=ZA.1 hfr;rcases h1.cases with⟨_,_,_,rfl⟩|⟨g,rfl,_,hgl,_⟩
 .simp at hcs
 .have hgo:g∈AQ (some ⟨g,0,none⟩):=by simp[AQ,ob]
  have hgf:g ∉ Bb.flatten:=fun hm=>hna g hgo g hm rfl
  have hin:∀ k∈f,k∈AQ (some ⟨g,0,none⟩)++Bb.flatten:=fun k hk=>Z9.2 (.inr (Qg hf hk))
  refine⟨css,f,cs,g,h1,hcs,hk,rfl,fun hm=>hgf (Qg hf hm),fun q hq=>?_,qN hnf (Z6 hf),fun w' cs' x' f' ho hk' hu hd hq=>?_⟩
  .rcases Zn.1 hq with rfl|hq
   .exact Z9.2 (.inl hgo)
   .exact hin q hq
  have hold:∀ q∈Bb.flatten,q<w.heap.size:=fun q hm=>hlt q (Z9.2 (.inr hm))
  have hE:Each (K w') (Bb.set i f') (css.set i cs') (l.set i x'):=h2.GX hk' fun j f2 cs2 x2 hne h3 _ _ hk2=>by
   refine hK.keep hk2 fun k Mm=>hu.block k (hK.lt hk2 k Mm) ?_
   simp only[Zn,not_or];exact⟨fun e=>hgf (by rw[<- e];exact Qg h3 Mm),iO hnf h3 hf hne k Mm⟩
  have hmem:∀ q∈(Bb.set i f').flatten,q∈Bb.flatten∨(w.heap.size<=q/\q∈f'):=fun q hm=>by
   rcases J9 hm with h |⟨j,g2,_,hg2,hq2⟩
   .rcases hq q h with h2|h2
    .exact .inl (Qg hf h2)
    .exact .inr ⟨h2,h⟩
   .exact .inl (Qg hg2 hq2)
  refine⟨AQ (some ⟨g,0,none⟩)++(Bb.set i f').flatten,⟨css.set i cs',Bb.set i f',ho,hE,rfl⟩,?_,?_⟩
  .refine ZA.2 ⟨hno,rA hnf hf hd fun q hqm=>?_,fun a ha b hb e=>?_⟩
   .rcases hq q hqm with h2|h2
    .exact .inl h2
    .exact .inr fun hm=>by have:=hold q hm;omega
   .subst e;simp[AQ,ob]at ha;subst ha;rcases hmem a hb with h2|h2
    .exact hgf h2
    .omega
  .intro q hm;rcases Z9.1 hm with hm|hm
   .refine .inl ⟨Z9.2 (.inl hm),fun hf2=>?_⟩;simp[AQ,ob]at hm;subst hm;exact hgf (Qg hf hf2)
   .rcases J9 hm with h |⟨j,g2,hne,hg2,hq2⟩
    .exact .inr h
    .exact .inl ⟨Z9.2 (.inr (Qg hg2 hq2)),iO hnf hg2 hf hne q hq2⟩
structure OT(B:Nat)(w:World)(v:TV)(t:Ak):Prop where
 own:Dt w v t
 fr:Ag B w (Cb v)
theorem OT.rd{w:World}{v:TV}{t:Ak}(h:OT B w v t):Kc w v t:=h.own.rd
theorem OT.below{w:World}{v:TV}{t:Ak}(h:OT B w v t)(hb:Below w.heap.size w w'):OT B w' v t:=⟨h.own.below hb,h.fr.grow hb.size⟩
theorem OT.upd{w:World}{v:TV}{t:Ak}(h:OT B w v t)(hu:Aw fs w w')(hd:∀ q∈fs,q<B∨w.heap.size<=q):OT B w' v t :=
 ⟨h.own.upd hu (fun k hk hm=>by have:=h.fr.lo k hk;have:=h.fr.hi k hk;rcases hd k hm with h1|h1<;>omega),h.fr.grow hu.size⟩
theorem OT.lt{w:World}{v:TV}{t:Ak}(h:OT B w v t):∀ q∈Cb v,q<w.heap.size:=h.fr.hi
theorem OT.Ay{B':Nat}{w:World}{v:TV}{t:Ak}(h:OT B w v t)(hb:B'<=B):OT B' w v t:=⟨h.own,h.fr.Ay hb⟩
theorem ZfZ{w:World}{fr fc fr' WM:List Nat}(h:Ag B w (fr++fc))(hn:fr'.Nodup)(hm:WM.Nodup){nf:List Nat}(h1:∀ q∈fr',q∈fr∨(w.heap.size<=q/\q∈nf))(h2:∀ q∈WM,q∈fc∨(w.heap.size<=q/\q∈nf))(hx:(∀ q∈fr',q∈fr)∨∀ q∈WM,q∈fc):
  (fr'++WM).Nodup/\∀ q∈fr'++WM,q∈fr++fc∨(w.heap.size<=q/\q∈nf):=by
 refine⟨ZA.2 ⟨hn,hm,fun a ha b hb e=>?_⟩,fun q hq=>?_⟩
 .subst e;rcases hx with hx|hx
  .have:=h.hi a (Z9.2 (.inl (hx a ha)));rcases h2 a hb with h3|h3
   .exact h.apart a (hx a ha) h3
   .omega
  .have:=h.hi a (Z9.2 (.inr (hx a hb)));rcases h1 a ha with h3|h3
   .exact h.apart a h3 (hx a hb)
   .omega
 .rcases Z9.1 hq with hq|hq
  .rcases h1 q hq with h3|h3
   .exact .inl (Z9.2 (.inl h3))
   .exact .inr h3
  .rcases h2 q hq with h3|h3
   .exact .inl (Z9.2 (.inr h3))
   .exact .inr h3
theorem OT.AU{w:World}{v:TV}{t:Ak}{r:Am}(h:OT B w v t)(hB:B<=w.heap.size)(hr:t.Ad[j]? = some r):
  ∃ (css:List (List Value)) (g:Nat) (vr:Sv),Own w 0 51 2 v.r.A v.r.n v.r.c css/\css[j]? = some (Oh vr r)/\BR w vr r.Ab/\v.r.A=some ⟨g,0,none⟩/\g ∉ Ea vr/\(∀ q∈g::Ea vr,q∈Cb v)/\(Ea vr).Nodup /\
   ∀ w' r' CS,Own w' 0 51 2 v.r.A v.r.n v.r.c (css.set j (Oh CS r'))->BR w' CS r'.Ab->Aw (g::Ea vr) w w'->(Ea CS).Nodup->(∀ q∈Ea CS,q∈Ea vr∨w.heap.size<=q)->
    ∃ v',OT B w' v' (Dz t j r')/\C8 w v w' v'/\∀ q∈Cb v',(q∈Cb v/\q ∉ Ea vr)∨q∈Ea CS:=by
 have hfr:Ag B w v.fr:=Ag.left (gs:=v.fc) h.fr;have hap:∀ k∈v.fr,k ∉ v.fc:=Ag.apart h.fr;obtain⟨css,f,cs,g,h1,h2,⟨vr,rfl,h3,rfl⟩,h4,h5,h6,h7,h8⟩:=h.own.r.Fp NF hfr.nodup hr;refine⟨css,g,vr,h1,h2,h3,h4,h5,fun q hq=>Z9.2 (.inl (h6 q hq)),h7,fun w' r' CS ho hk hu hn hq=>?_⟩;obtain⟨fs',k1,k2,k3⟩:=h8 w' _ r' _ ho ⟨CS,rfl,hk,rfl⟩ hu hn hq;have hc:=h.own.c.upd Mo hu fun k hk hm=>hap k (h6 k hm) hk
 have hw:Dt w' ⟨v.r,v.c,fs',v.fc⟩ (Dz t j r'):=⟨k1,hc⟩
 have k4:∀ q∈fs',q∈v.fr∨(w.heap.size<=q/\q∈Ea CS):=fun q hm=>by
  rcases k3 q hm with h9|h9
  .exact .inl h9.1
  .rcases hq q h9 with h10|h10
   .exact .inl (h6 q (ZU _ h10))
   .exact .inr ⟨h10,h9⟩
 obtain⟨f1,f2⟩:=ZfZ h.fr k2 (Ag.right h.fr).nodup k4 (fun q hq=>.inl hq) (.inr fun q hq=>hq);have f3:=fun q hq=>(f2 q hq).imp id And.left
 exact⟨⟨v.r,v.c,fs',v.fc⟩,⟨hw,h.fr.Fj hB f1 f3 hw.lt⟩,⟨rfl,rfl,hu.mono (fun q hq=>Z9.2 (.inl (h6 q hq))),f3⟩,fun q hm=>by
  rcases Z9.1 hm with hm|hm
  .exact(k3 q hm).imp (fun h9=>⟨Z9.2 (.inl h9.1),h9.2⟩) id
  .exact .inl ⟨Z9.2 (.inr hm),fun h9=>hap q (h6 q (ZU _ h9)) hm⟩⟩
theorem OT.chan{w:World}{v:TV}{t:Ak}{i:Nat}{row:List Chan}{c:Chan}(h:OT B w v t)(hB:B<=w.heap.size)(hi:t.channels[i]? = some row)(hj:row[j]? = some c):
  ∃ (cst:List (List Value)) (gt:Nat) (vs:Sv) (css:List (List Value)) (g:Nat) (vc:CV),Own w 0 62 1 v.c.A v.c.n v.c.c cst/\cst[i]? = some [.slice (some ⟨g,0,none⟩) vs.n vs.c]/\v.c.A=some ⟨gt,0,none⟩/\vs.A=some ⟨g,0,none⟩/\row.length=vs.n /\
   Own w 0 77 6 vs.A vs.n vs.c css/\css[j]? = some (Ql vc c.base c.expected)/\BM w vc c/\g ∉ AP vc/\gt≠g/\gt ∉ AP vc/\(∀ q∈gt::g::AP vc,q∈Cb v)/\(AP vc).Nodup /\
   ∀ w' c' Er,Own w' 0 77 6 vs.A vs.n vs.c (css.set j (Ql Er c'.base c'.expected))->BM w' Er c'->Aw (g::AP vc) w w'->(AP Er).Nodup->(∀ q∈AP Er,q∈AP vc∨w.heap.size<=q)->
    ∃ v',OT B w' v' (XW t i j c')/\C8 w v w' v'/\∀ q∈Cb v',q∈Cb v∨q∈AP Er:=by
 have hfc:Ag B w v.fc:=Ag.right h.fr;have hap:∀ k∈v.fr,k ∉ v.fc:=Ag.apart h.fr;obtain⟨cst,ft,cs,gt,h1,h2,⟨vs,rfl,h3⟩,h4,h5,h6,h7,h8⟩:=h.own.c.Fp Mo hfc.nodup hi;have hl:=h3.len.out;obtain⟨css,f,cs2,g,k1,k2,⟨vc,rfl,k3,rfl⟩,k4,k5,k6,k7,k8⟩:=h3.Fp VO h7 hj;have e1:g∈ft:=k6 g List.mem_cons_self
 have hall:∀ q∈gt::g::AP vc,q∈v.fc:=fun q hq=>by
  rcases Zn.1 hq with rfl|hq
  .exact h6 _ List.mem_cons_self
  .exact h6 _ (ZU _ (k6 q hq))
 refine⟨cst,gt,vs,css,g,vc,h1,by rw[h2,k4],h4,k4,hl,k1,k2,k3,k5,fun e=>h5 (e▸e1),fun hm=>h5 (k6 gt (ZU _ hm)),fun q hq=>Z9.2 (.inr (hall q hq)),k7,fun w' c' Er ho hk hu hn hq=>?_⟩;obtain⟨fs',m1,m2,m3⟩:=k8 w' _ c' _ ho ⟨Er,rfl,hk,rfl⟩ hu hn hq;have hu2:Aw (gt::ft) w w':=hu.mono fun q hq=>ZU _ (k6 q hq)
 have uO:Own w' 0 62 1 v.c.A v.c.n v.c.c cst:=h1.upd hu fun q hq hm=>by
  rw[h4]at hq;simp[AQ,ob]at hq;subst hq;exact h5 (k6 q hm)
 have m5:∀ q∈fs',q∈ft∨w.heap.size<=q:=fun q hm=>by
  rcases m3 q hm with h9|h9
  .exact .inl h9.1
  .rcases hq q h9 with h10|h10
   .exact .inl (k6 q (ZU _ h10))
   .exact .inr h10
 obtain⟨uP,n1,n2,n3⟩:=h8 w' [.slice vs.A vs.n vs.c] (row.set j c') fs' (by rw[List.BZ h2];exact uO) ⟨vs,rfl,m1⟩ hu2 m2 (fun q hm=>m5 q hm)
 have n4:∀ q∈uP,q∈v.fc∨(w.heap.size<=q/\q∈AP Er):=fun q hq=>by
  rcases n3 q hq with h1|h1
  .exact .inl h1.1
  .rcases m3 q h1 with h2|h2
   .exact .inl (h6 q (ZU _ h2.1))
   .rcases m5 q h1 with h3|h3
    .exact .inl (h6 q (ZU _ h3))
    .exact .inr ⟨h3,h2⟩
 have hc:=h.own.r.upd NF hu fun k hk hm=>hap k hk (hall k (ZU _ hm))
 have hw:Dt w' ⟨v.r,v.c,v.fr,uP⟩ (XW t i j c'):=⟨hc,by unfold XW;rw[Qx hi];exact n1⟩;obtain⟨f1,f2⟩:=ZfZ h.fr (Ag.left h.fr).nodup n2 (fun q hq=>.inl hq) n4 (.inl fun q hq=>hq);have f3:=fun q hq=>(f2 q hq).imp id And.left
 exact⟨⟨v.r,v.c,v.fr,uP⟩,⟨hw,h.fr.Fj hB f1 f3 hw.lt⟩,⟨rfl,rfl,hu.mono (fun q hq=>Z9.2 (.inr (hall q (ZU _ hq)))),f3⟩,fun q hq=>(f2 q hq).imp id And.right⟩
theorem Own.FN{e sz n c g k:Nat}{w:World}{css:List (List Value)}{cs:List Value}(hown:Own w B e sz (some ⟨g,0,none⟩) n c css)(hk:css[k]? = some cs)(hj:j<sz)(u:Value){o:Nat}(ho:o=k*sz+j):
  Own (w.setCell ⟨g,o,none⟩ u) B e sz (some ⟨g,0,none⟩) n c (css.set k (cs.set j u))/\(css.set k (cs.set j u))[k]? = some (cs.set j u):=by
 subst ho;refine⟨(hown.cell hk hj u).1,?_⟩;rw[List.getElem?_set_self (Za.1 hk).1]
theorem UH{α:Type}(l:List α)(k:Nat)(x y:α):(l.set k x).set k y=l.set k y:=by rw[List.set_set]
theorem OT.EU{w:World}{v:TV}{t:Ak}{r:Am}(h:OT B w v t)(hB:B<=w.heap.size)(hr:t.Ad[j]? = some r):
  ∃ (g:Nat) (vr:Sv),v.r.A=some ⟨g,0,none⟩/\w.cell? ⟨g,j*2,none⟩=some (.slice vr.A vr.n vr.c)/\w.cell? ⟨g,j*2+1,none⟩=some (.string r.Av)/\(∀ o,w.frozen? ⟨g,o,none⟩=false)/\BR w vr r.Ab/\g<w.heap.size/\B<=g/\g∈Cb v/\(∀ q∈Ea vr,q<w.heap.size)/\
   (∀ w1,Below w.heap.size w w1->∀ (CS:Sv) (fs':List A7),BR w1 CS fs'->Ag w.heap.size w1 (Ea CS)->∀ s:ByteArray,
    ∃ v',OT B ((w1.setCell ⟨g,j*2,none⟩ (.slice CS.A CS.n CS.c)).setCell ⟨g,j*2+1,none⟩ (.string s)) v' (Dz t j ⟨fs',s⟩)/\C8 w v ((w1.setCell ⟨g,j*2,none⟩ (.slice CS.A CS.n CS.c)).setCell ⟨g,j*2+1,none⟩ (.string s)) v'/\∀ q∈Cb v',(q∈Cb v/\q ∉ Ea vr)∨q∈Ea CS)/\
   (∀ w1,Below w.heap.size w w1->∀ (CS:Sv) (fs':List A7),BR w1 CS fs'->Ag w.heap.size w1 (Ea CS)->
    ∃ v',OT B (w1.setCell ⟨g,j*2,none⟩ (.slice CS.A CS.n CS.c)) v' (Dz t j ⟨fs',r.Av⟩)/\C8 w v (w1.setCell ⟨g,j*2,none⟩ (.slice CS.A CS.n CS.c)) v'/\∀ q∈Cb v',(q∈Cb v/\q ∉ Ea vr)∨q∈Ea CS)/\
   (∀ w1,Below w.heap.size w w1->∀ s:ByteArray,
    ∃ v',OT B (w1.setCell ⟨g,j*2+1,none⟩ (.string s)) v' (Dz t j ⟨r.Ab,s⟩)/\C8 w v (w1.setCell ⟨g,j*2+1,none⟩ (.string s)) v'/\∀ q∈Cb v',q∈Cb v):=by
 obtain⟨css,g,vr,h1,h2,h3,h4,h5,h6,h7,h8⟩:=h.AU hB hr;rw[h4]at h1 h8;have hgl:=h.lt g (h6 g List.mem_cons_self);have uQ:=h.fr.lo g (h6 g List.mem_cons_self)
 have PT:∀ {fs:List Nat} {w1:World},Ag w.heap.size w1 fs->∀ q∈fs,q ∉[g]:=fun hf q hq hm=>by
  have:=hf.lo q hq;simp at hm;omega
 refine⟨g,vr,h4,?_,?_,h1.frozen rfl,h3,hgl,uQ,h6 g List.mem_cons_self,fun q hq=>h.lt q (h6 q (ZU _ hq)),?_,?_,?_⟩
 .exact by simpa using QB h1 h2 0 _ rfl
 .exact QB h1 h2 1 _ rfl
 .intro w1 hb CS fs' ho hf s;obtain⟨k1,k2⟩:=(h1.below hb).FN (j:=0) h2 o_ (.slice CS.A CS.n CS.c) (o:=j*2) o_;obtain⟨m1,m2⟩:=k1.FN (j:=1) k2 o_ (.string s) (o:=j*2+1) o_;rw[UH]at m1;have hu:Aw [g] w1 ((w1.setCell ⟨g,j*2,none⟩ (.slice CS.A CS.n CS.c)).setCell ⟨g,j*2+1,none⟩ (.string s)):=Cs;exact h8 _ ⟨fs',s⟩ CS m1 (ho.upd hu (PT hf)) ((Q9 hb).trans (hu.mono (fun q hq=>by simp at hq;subst hq;exact List.mem_cons_self))) hf.nodup (fun q hq=>.inr (hf.lo q hq))
 .intro w1 hb CS fs' ho hf;obtain⟨k1,k2⟩:=(h1.below hb).FN (j:=0) h2 o_ (.slice CS.A CS.n CS.c) (o:=j*2) o_;have hu:Aw [g] w1 (w1.setCell ⟨g,j*2,none⟩ (.slice CS.A CS.n CS.c)):=Cs;exact h8 _ ⟨fs',r.Av⟩ CS k1 (ho.upd hu (PT hf)) ((Q9 hb).trans (hu.mono (fun q hq=>by simp at hq;subst hq;exact List.mem_cons_self))) hf.nodup (fun q hq=>.inr (hf.lo q hq))
 .intro w1 hb s;obtain⟨k1,k2⟩:=(h1.below hb).FN (j:=1) h2 o_ (.string s) (o:=j*2+1) o_;have hu:Aw [g] w1 (w1.setCell ⟨g,j*2+1,none⟩ (.string s)):=Cs;obtain⟨v',x1,x2,x3⟩:=h8 _ ⟨r.Ab,s⟩ vr k1 ((h3.below hb).upd hu (fun q hq hm=>by simp at hm;subst hm;exact h5 hq)) ((Q9 hb).trans (hu.mono (fun q hq=>by simp at hq;subst hq;exact List.mem_cons_self))) h7 (fun q hq=>.inl hq);exact⟨v',x1,x2,fun q hq=>(x3 q hq).elim And.left fun h9=>h6 q (ZU _ h9)⟩
def NP(w:World)(g j:Nat)(v:CV)(c:Chan):World :=
 (((((w.setCell ⟨g,j*6,none⟩ (.slice v.q.A v.q.n v.q.c)).setCell ⟨g,j*6+1,none⟩ (.int .i64 c.base)).setCell ⟨g,j*6+2,none⟩ (.int .i64 c.expected)).setCell ⟨g,j*6+3,none⟩ (.slice v.i.A v.i.n v.i.c)).setCell ⟨g,j*6+4,none⟩ (.slice v.n.A v.n.n v.n.c)).setCell ⟨g,j*6+5,none⟩ (.slice v.a.A v.a.n v.a.c)
theorem JG(w:World)(g j:Nat)(v:CV)(c:Chan):Aw [g] w (NP w g j v c):=
 ((((((Aw.refl _ _).AA s_ _).AA s_ _).AA s_ _).AA s_ _).AA s_ _).AA s_ _
theorem OT.ch{w:World}{v:TV}{t:Ak}{i:Nat}{row:List Chan}{c:Chan}(h:OT B w v t)(hB:B<=w.heap.size)(hi:t.channels[i]? = some row)(hj:row[j]? = some c):
  ∃ (gt g:Nat) (vs:Sv) (vc:CV),v.c.A=some ⟨gt,0,none⟩/\w.cell? ⟨gt,i,none⟩=some (.slice (some ⟨g,0,none⟩) vs.n vs.c)/\row.length=vs.n /\
   (w.cell? ⟨g,j*6,none⟩=some (.slice vc.q.A vc.q.n vc.q.c)/\w.cell? ⟨g,j*6+1,none⟩=some (.int .i64 c.base)/\w.cell? ⟨g,j*6+2,none⟩=some (.int .i64 c.expected)/\w.cell? ⟨g,j*6+3,none⟩=some (.slice vc.i.A vc.i.n vc.i.c)/\w.cell? ⟨g,j*6+4,none⟩=some (.slice vc.n.A vc.n.n vc.n.c)/\w.cell? ⟨g,j*6+5,none⟩=some (.slice vc.a.A vc.a.n vc.a.c))/\
   (∀ o,w.frozen? ⟨g,o,none⟩=false)/\FI w vc c/\qR vc/\g<w.heap.size/\gt<w.heap.size/\B<=g/\B<=gt/\gt≠g /\
   ∀ w1,Below w.heap.size w w1->∀ (Er:CV) (c':Chan),BM w1 Er c'->Ag w.heap.size w1 (AP Er)->∃ v',OT B (NP w1 g j Er c') v' (XW t i j c')/\C8 w v (NP w1 g j Er c') v'/\∀ q∈Cb v',q∈Cb v∨q∈AP Er:=by
 obtain⟨cst,gt,vs,css,g,vc,h1,h2,h3,h4,h5,k1,k2,k3,k4,k5,k6,k7,k8,k9⟩:=h.chan hB hi hj;rw[h4]at k1 k9;rw[h3]at h1;have hgm:g∈Cb v:=k7 g (ZU _ List.mem_cons_self);have hgt:gt∈Cb v:=k7 gt List.mem_cons_self;refine⟨gt,g,vs,vc,h3,by simpa using QB h1 h2 0 _ rfl,h5,⟨by simpa using QB k1 k2 0 _ rfl,QB k1 k2 1 _ rfl,QB k1 k2 2 _ rfl,QB k1 k2 3 _ rfl,QB k1 k2 4 _ rfl,QB k1 k2 5 _ rfl⟩,k1.frozen rfl,k3.rd,k3.lens,h.lt g hgm,h.lt gt hgt,h.fr.lo g hgm,h.fr.lo gt hgt,k5,fun w1 hb Er c' ho hf=>?_⟩;obtain⟨a1,b1⟩:=(k1.below hb).FN (j:=0) k2 o_ (.slice Er.q.A Er.q.n Er.q.c) (o:=j*6) o_;obtain⟨a2,b2⟩:=a1.FN (j:=1) b1 o_ (.int .i64 c'.base) (o:=j*6+1) o_;obtain⟨a3,b3⟩:=a2.FN (j:=2) b2 o_ (.int .i64 c'.expected) (o:=j*6+2) o_;obtain⟨a4,b4⟩:=a3.FN (j:=3) b3 o_ (.slice Er.i.A Er.i.n Er.i.c) (o:=j*6+3) o_;obtain⟨a5,b5⟩:=a4.FN (j:=4) b4 o_ (.slice Er.n.A Er.n.n Er.n.c) (o:=j*6+4) o_;obtain⟨a6,b6⟩:=a5.FN (j:=5) b5 o_ (.slice Er.a.A Er.a.n Er.a.c) (o:=j*6+5) o_;rw[UH,UH,UH,UH,UH]at a6;have hu:=JG w1 g j Er c';exact k9 _ c' Er a6 (ho.upd hu (fun q hq hm=>by have:=hf.lo q hq;have:=h.lt g hgm;simp at hm;omega)) ((Q9 hb).trans (hu.mono (fun q hq=>by simp at hq;subst hq;exact List.mem_cons_self))) hf.nodup (fun q hq=>.inr (hf.lo q hq))
theorem ZfM{t:Ak}{r:Am}(h:Xk t<=N)(hr:r∈t.Ad):r.Av.size<=N:=by
 have h1:r.bulk<=Y9 Am.bulk t.Ad:=Sw hr;have h2:r.bulk=Ib r.Ab+r.Av.size:=rfl;unfold Xk at h;omega
theorem UI{t:Ak}{r:Int}  :Gj t r=true↔0<=r/\r<t.Ad.length:=by
 unfold Gj;rw[Y8];omega
theorem Sy{w:World}{v:TV}{t:Ak}(hB:Below w.heap.size w w1)(h:OT (w.heap.size+2) w1 v t)(x y:Value):
  Dt ((w1.setCell ⟨w.heap.size+1,0,none⟩ x).setCell ⟨w.heap.size+1,1,none⟩ y) v t/\Ag w.heap.size ((w1.setCell ⟨w.heap.size+1,0,none⟩ x).setCell ⟨w.heap.size+1,1,none⟩ y) (Cb v)/\
   Below w.heap.size w ((w1.setCell ⟨w.heap.size+1,0,none⟩ x).setCell ⟨w.heap.size+1,1,none⟩ y):=by
 have uS:Aw [w.heap.size+1] w1 ((w1.setCell ⟨w.heap.size+1,0,none⟩ x).setCell ⟨w.heap.size+1,1,none⟩ y):=Cs;have h2:=h.upd uS (fun q hq=>by simp at hq;omega);exact⟨h2.own,h2.fr.Ay o_,Dq hB uS (fun q hq=>by simp at hq;omega)⟩
theorem uR(v:TV)(t:Ak)(r:Int)(w:World)(hl:t.Ad.length=v.r.n)(hn:v.r.n<=4194304):
  Calls prog 23 #[QL v,.int .i64 r] w fun e w'=>e=QM (Gj t r)/\Below w.heap.size w w':=by
 obtain⟨⟨Ar,nr,cr⟩,⟨Ac,nc,cc⟩,fr,fc⟩:=v;dsimp only at hl hn;by_cases h0:0<=r
 .by_cases h1:r <(nr:Int)
  .have hb:Gj t r=true:=UI.2 o_;go_enter func23,ntmps23;go_wp2_with fail;go_ret;exact⟨by first|rfl |(rw[hb];rfl),Ze (Below.refl _ _) _⟩
  .have hb:Gj t r=false:=by rw[Bool.eq_false_iff];intro h;have:=UI.1 h;omega
   go_enter func23,ntmps23;go_wp2_with fail;go_ret;exact⟨by first|rfl |(rw[hb];rfl),Ze (Below.refl _ _) _⟩
 .have hb:Gj t r=false:=by rw[Bool.eq_false_iff];intro h;have:=UI.1 h;omega
  have h1:¬ r ≥ 0:=by omega
  go_enter func23,ntmps23;go_wp2_with fail;go_ret;exact⟨by first|rfl |(rw[hb];rfl),Ze (Below.refl _ _) _⟩
structure DC(N:Nat)(c:Chan):Prop where
 q:∀ s∈c.queue,s.size<=N
 i:∀ s∈c.inbox,s.size<=N
 n:∀ p∈c.net,p.text.size<=N
theorem Zo6{c:Chan}(h:Xb c<=N):DC N c:=by
 unfold Xb at h;refine⟨fun s hs=>?_,fun s hs=>?_,fun p hp=>?_⟩
 .have:=XY (c:=ByteArray.size) hs;omega
 .have:=XY (c:=ByteArray.size) hs;omega
 .have:=XY (c:=Ae.bulk) hp;simp only[Ae.bulk]at this;omega
theorem Zil{l:List Ae}(h:∀ p∈l,p.text.size<=N)(hp:p.text.size<=N):∀ x∈Es l p,x.text.size<=N:=by
 intro x hx;unfold Es at hx;split at hx
 .exact h x hx
 .rcases Z9.1 hx with hx|hx
  .exact h x hx
  .simp at hx;subst hx;exact hp
theorem Zf4{l:List Ae}{k:Nat}(h:∀ p∈l,p.text.size<=N):∀ x∈XD l k,x.text.size<=N:=by
 intro x hx;unfold XD at hx;rcases Z9.1 hx with hx|hx
 .exact h x (ZT hx)
 .exact h x (ZG hx)
theorem Zc5{N:Nat}:∀ (q:List ByteArray) (n:Int) (net:List Ae),(∀ s∈q,s.size<=N)->(∀ p∈net,p.text.size<=N)->∀ x∈FO q n net,x.text.size<=N
 |[],n,net,_,h=>h
 |s::q,n,net,hq,h=>Zc5 q (n+1) _ (fun t ht=>hq t (ZU _ ht)) (Zil h (hq s List.mem_cons_self))
theorem DC.send{c:Chan}(h:DC N c):DC N (Qj c):=
 ⟨h.q,h.i,Zc5 _ _ _ (fun s hs=>h.q s (ZT hs)) h.n⟩
theorem DC.CU{c:Chan}(h:DC N c)(hp:p.text.size<=N):DC N (CU c p):=by
 unfold Go.Proofs.YtcnbphnnfmphlaaGreatDoor.CU;split
 .split
  .refine⟨h.q,fun s hs=>?_,h.n⟩;rcases Z9.1 hs with hs|hs
   .exact h.i s hs
   .simp at hs;subst hs;exact hp
  .exact⟨h.q,h.i,h.n⟩
 .exact h
theorem DC.Iy{c:Chan}(h:DC N c)(p:Ae):DC N (DD c p):=by
 unfold DD;split
 .exact⟨fun s hs=>h.q s (ZG hs),h.i,h.n⟩
 .exact h
theorem DC.Bo{c:Chan}(h:DC N c){l:List Ae}(hl:∀ p∈l,p.text.size<=N):DC N { c with net:=l }:=⟨h.q,h.i,hl⟩
theorem DC.BN{c:Chan}(h:DC N c)(l:List Ae):DC N { c with Ai:=l }:=⟨h.q,h.i,h.n⟩
theorem DC.Sz{c:Chan}(h:DC N c)(mv:Int)(k:Nat):DC N (Eb c mv k):=by
 unfold Eb;split
 .exact h
 .rename_i p hp;have hpm:=h.n p (Z6 hp);split
  .exact h.Bo (Zil h.n hpm)
  split
  .rw[uT hp];refine h.Bo (fun x hx=>?_);rcases ZW hx with hx|rfl
   .exact h.n x hx
   .exact hpm
  split
  .exact h.Bo (Zf4 h.n)
  .exact(h.Bo (Zf4 h.n)).CU hpm
theorem DC.Oz{c:Chan}(h:DC N c)(mv:Int)(k:Nat):DC N (FP c mv k):=by
 unfold FP;split
 .exact h
 .split
  .exact(h.BN _).Iy _
  .exact h.BN _
theorem DC.move{c:Chan}(h:DC N c)(mv at_:Int):DC N (Yv c mv at_):=by
 unfold Yv;split
 .exact h.send
 split
 .split
  .exact h
  .exact h.Sz mv _
 split
 .split
  .exact h
  .exact h.Oz mv _
 .exact h
theorem DC.step{c:Chan}(h:DC N c)(mv at_:Int):DC N (Xp c mv at_):=by
 unfold Xp;split
 .exact h.move _ _
 .exact h
theorem Z9H{N:Nat}:∀ (l:List Ae) (c:Chan),DC N c->(∀ p∈l,p.text.size<=N)->DC N (Qm l c)
 |[],c,h,_=>h
 |p::l,c,h,hl=>Z9H l _ ((h.Bo (fun x hx=>hl x (ZU _ hx))).CU (hl p List.mem_cons_self)) (fun x hx=>hl x (ZU _ hx))
theorem Z9I{N:Nat}:∀ (l:List Ae) (c:Chan),DC N c->DC N (QQ l c)
 |[],c,h=>h
 |p::l,c,h=>Z9I l _ ((h.BN l).Iy p)
theorem Zc6{N:Nat}:∀ (n:Nat) (c:Chan),DC N c->DC N (Jl n c)
 |0,c,h=>h
 |n+1,c,h=>Zc6 n _ (Z9I _ _ (Z9H _ _ h.send h.send.n))
theorem DC.calm{c:Chan}(h:DC N c):DC N (Qd c):=by
 unfold Qd;split
 .exact Zc6 9 c h
 .exact h
structure Kj(c:Chan):Prop where
 q:c.queue.length<=8
 n:c.net.length<=12
 a:c.Ai.length<=12
theorem ZrR{m:Int}{c:Chan}(h:CG m c):Kj c:=⟨h.lq,h.ln,h.la⟩
theorem ZgP{c:Chan}(h:YQ c=true)(hm:Xb c<=4194304)(hok:KA c):Kj (Qd c):=by
 have ok:=WN h hm hok
 have hq:∀ (n:Nat) (c:Chan),c.queue.length<=8->(Jl n c).queue.length<=8:=by
  intro n;induction n with
  |zero=>exact fun c h=>h
  |succ n ih =>
   intro c hc;refine ih _ ?_;have h1:=(XS (Qj c).net (Qj c)).2
   have h2:∀ (l:List Ae) (d:Chan),d.queue.length<=8->(QQ l d).queue.length<=8:=by
    intro l;induction l with
    |nil=>exact fun d hd=>hd
    |cons p l ihl =>
     intro d hd;refine ihl _ ?_;unfold DD;split
     .show(d.queue.drop _).length<=8;simp;omega
     .exact hd
   exact h2 _ _ (by rw[h1];exact hc)
 have hn:∀ (n:Nat) (c:Chan),c.net=[]->c.Ai=[]->(Jl n c).net=[]/\(Jl n c).Ai=[]:=by
  intro n;induction n with
  |zero=>exact fun c h1 h2=>⟨h1,h2⟩
  |succ n ih=>exact fun c _ _=>ih _ (YO c).1 (YO c).2
 unfold Qd;rw[if_pos h];have h8:=hn 8 (FQ c) (YO c).1 (YO c).2;refine⟨hq 9 c ok.lq,?_,?_⟩
 .show(Jl 8 (FQ c)).net.length<=_;rw[h8.1];simp
 .show(Jl 8 (FQ c)).Ai.length<=_;rw[h8.2];simp
theorem YY{t:Ak}(h:YG t=true):1<=t.Ad.length/\t.Ad.length<=3/\t.channels.length=t.Ad.length/\(∀ r∈t.Ad,YW r.Ab=true)/\∀ l∈t.channels,l.length=t.Ad.length/\∀ c∈l,YQ c=true:=by
 have hp:=uC h;unfold YG at h;simp only[Zc,Zu,beq_iff_eq,decide_eq_true_eq]at h;refine⟨hp.1,hp.2,h.2.1,h.2.2.1,fun l hl=>?_⟩;have:=h.2.2.2 l hl;exact this
theorem ZlI(s:ByteArray):Qq (pb s).1.Ab:=by
 unfold pb;cases h:KH s with
 |none=>intro f hf;cases hf
 |some b=>exact fun f hf=>UJ ((YT (Z9V h).1).2.2.2 f hf)
theorem BH.small{r:Am}(h:BH N r):Qq r.Ab:=(UK h.1).small
theorem BH.few{r:Am}(h:BH N r):El r.Ab:=by have:=h.len;unfold El;omega
theorem ZcM{m:List A7}{r:Int}(h:YW l=true):Qq (Qb l r m).1:=(UK (JL h)).small
theorem Zbm{m:List A7}{r:Int}(h:YW l=true):Qq (Qb l r m).2:=by
 rw[ZcO];exact fun f hf=>ZcM h f (List.mem_filter.1 hf).1
theorem Zhi{m:List A7}{r:Int}(h:YW l=true):(Qb l r m).1.length<=40/\(Qb l r m).2.length<=40:=by
 have h1:=Qo (JL (m:=m) (r:=r) h);have h2:=uL l m r;omega
theorem Zfd{t:Ak}{x y:Am}(h:t.Ad[j]? = some x):(Dz t j y).Ad[j]? = some y:=by
 unfold Dz;simp only;rw[List.getElem?_set_self (Za.1 h).1]
theorem Zfc(t:Ak)(j:Nat)(a b:Am):Dz (Dz t j a) j b=Dz t j b:=by unfold Dz;simp only[List.set_set]
theorem uU{t:Ak}{i k:Nat}{c:Chan}  :(XW t i k c).Ad[j]? = t.Ad[j]?:=rfl
theorem ZiC{t:Ak}{x:Am}(h:t.Ad[j]? = some x):Dz t j x=t:=by
 unfold Dz;rw[List.BZ h]
theorem jS{t:Ak}{i:Nat}{c:Chan}{x:Am}(h:t.Ad[j]? = some x):Ki t i j c=Dz (XW t i j (Xi c)) j (Fh x c.inbox):=by
 unfold Ki;rw[uN h]
theorem Zp7(s:ByteArray)(f:A7):WL s f=(EV s ⟨false,0,⟨f.id,f.kind,f.AL,f.Z00,⟨f.Af.turn,f.Af.x,f.Af.y⟩,f.Ao⟩⟩).1:=rfl
theorem Z8t(Wb:World)(B N:Nat)(v:TV)(t:Ak)(i j:Nat)(row:List Chan)(c:Chan)(x:Am)(w:World)(O:OT B w v t)(hBw:B<=w.heap.size)(Cq:Below Wb.heap.size Wb w)(hBb:Wb.heap.size<=B) 
  (hi:t.channels[i]? = some row) (hj:row[j]? = some c) (hx:t.Ad[j]? = some x) (hro:BH N x) (hN:N<=4194304) (hfc:EP c) (hin:∀ s∈c.inbox,s.size<=4194304) (hT:Ed Wb):
  Calls prog 32 #[QL v,.int .i64 i,.int .i64 j] w fun e w'=>∃ v',e=.returned (QL v')/\OT B w' v' (Ki t i j c)/\C8 w v w' v':=by
 have HRQ:=Z5 (jS (i:=i) (c:=c) hx);have NQ:=Z5 hin;have HRO:=Z5 hro;have Mx:=Z5 hT;obtain⟨gt,g,vs,vc,hA,p0,hrl,⟨c0,c1,c2,c3,c4,c5⟩,cf,F8,hln,hg,hgt,hgB,SA,hne,hput⟩:=O.ch hBw hi hj;obtain⟨gr,vr0,hAr,_,_,_,_,hgr,Z59,Z5a,_,_,_,_⟩:=O.EU hBw hx;have hvr:t.Ad.length=v.r.n:=O.own.r.len.out;have hvc:t.channels.length=v.c.n:=O.own.c.len.out;have hil:=(Za.1 hi).1;have hjl:=(Za.1 hj).1;have hjr:=(Za.1 hx).1;have HP:=Z5 hput;have HLT:=Z5 O.lt;have jT:Hid (∀ q∈Cb v,Wb.heap.size<=q):=fun q hq=>Zj hBb (O.fr.lo q hq)
 have e0:(0:Int)<=(i:Int):=by omega
 have e1:(i:Int)<(v.c.n:Int):=by omega
 have e2:(0:Int)<=(j:Int):=by omega
 have e3:(j:Int)<(vs.n:Int):=by omega
 have e4:(j:Int)<(v.r.n:Int):=by omega
 have HX:=Z5 hx;have Z5b:w.heap.size≠gr:=by omega
 have Z5c:gr≠w.heap.size:=by omega
 obtain⟨⟨Ar,nr,cr⟩,⟨Ac,nc,cc⟩,fr,fc⟩:=v;dsimp only at hA hAr hvr hvc e1 e4;subst hA hAr;clear hput hi hj hx hro hin hT hrl;go_enter func32,ntmps32;go_wp2_with fail;refine Zb (Z6O vc c _ hfc ?_) ?_
 .exact F8.below (Ze (Ze (Below.refl _ _) _) _)
 rintro e w1 ⟨v1,vq,rfl,ho1,hf1,hoq,uV,hap,hb1⟩;have H1:=Zg (show Below w.heap.size w _ from Ze (Ze (Below.refl _ _) _) _) hb1;have X0:BO w1 w.heap.size (.slice (some ⟨gr,0,none⟩) nr cr) (.slice (some ⟨gt,0,none⟩) nc cc):=BO.below ⟨by go_simp,by go_simp,fun o=>by go_simp⟩ hb1;have X1:BO w1 (w.heap.size+1) (.slice none 0 0) (.slice none 0 0):=BO.below ⟨by go_simp,by go_simp,fun o=>by go_simp⟩ hb1;have hlo1:Hid (∀ q∈AP v1,w.heap.size+2<=q):=fun q hq=>by have h9:=hf1.lo q hq;simp at h9;omega
 have WO:Hid (∀ q∈ND vq,w.heap.size+2<=q):=fun q hq=>by have h9:=uV.lo q hq;simp at h9;omega
 have jU:=Z5 hap;have HHQ:=Z5 uV.hi;have hq9:(c.inbox.length:Int)=vq.n:=by have:=hoq.rd.len.out;omega
 have En:vq.n<=4194304:=by have h9:c.inbox.length<=4194304:=hfc.2.1;omega
 have p0:=Zm H1 p0;have c0:=Zm H1 c0;have c1:=Zm H1 c1;have c2:=Zm H1 c2;have c3:=Zm H1 c3;have c4:=Zm H1 c4;have c5:=Zm H1 c5;have cf:=fun o=>(Q6 H1 g hg o).trans (cf o)
 have s1:=H1.size;have OA:Ag w.heap.size w1 (AP v1):=hf1.Ay (by first |(simp;done)|(simp;omega));clear hf1 uV hap hb1 F8 hln;go_wp2_with fail;refine ZQ fun W hW=>?_
 have Et:Below w1.heap.size w1 W:=by rw[hW.out];exact Ze (Below.refl _ _) _
 have k0:W.cell? ⟨w1.heap.size,0,none⟩=some (.slice v1.q.A v1.q.n v1.q.c):=by rw[hW.out];simp
 have k1:W.cell? ⟨w1.heap.size,1,none⟩=some (.int .i64 (Xi c).base):=by rw[hW.out];simp
 have k2:W.cell? ⟨w1.heap.size,2,none⟩=some (.int .i64 (Xi c).expected):=by rw[hW.out];simp
 have k3:W.cell? ⟨w1.heap.size,3,none⟩=some (.slice v1.i.A v1.i.n v1.i.c):=by rw[hW.out];simp
 have k4:W.cell? ⟨w1.heap.size,4,none⟩=some (.slice v1.n.A v1.n.n v1.n.c):=by rw[hW.out];simp
 have k5:W.cell? ⟨w1.heap.size,5,none⟩=some (.slice v1.a.A v1.a.n v1.a.c):=by rw[hW.out];simp
 clear hW;have kz:=Y6 k0;have X0:=X0.below Et;have X1:=X1.below Et;have p0:=Zm Et p0;have c0:=Zm Et c0;have c1:=Zm Et c1;have c2:=Zm Et c2;have c3:=Zm Et c3;have c4:=Zm Et c4;have c5:=Zm Et c5;have cf:=fun o=>(Q6 Et g o_ o).trans (cf o)
 have ho1:=ho1.below Et;have hoq:=hoq.below Et;have OA:=OA.grow Et.size;have H1:=Zg H1 Et;have x0:=X0.c0;have x1:=X0.c1;go_region
 all_goals
  obtain⟨v2,O2,st2,ft2⟩:=HP.out W H1 v1 (Xi c) ho1 OA;have uS:=JG W g j v1 (Xi c);have X0:=(X0.upd uS AR).below (ZY (Below.refl _ _));have X1:=(X1.upd uS AR).below (ZY (Below.refl _ _));have hoq:=(hoq.upd uS (fun q hq hm=>by have:=WO.out q hq;simp at hm;omega)).below (ZY (Below.refl _ _));have O2:=O2.below (ZY (Below.refl _ _));have st2:=st2.below (ZY (Below.refl _ _));obtain⟨W2,hW2⟩:∃ W2,W2=(NP W g j v1 (Xi c)).drew:=⟨_,rfl⟩;rw[<- hW2]at O2 st2 X0 X1 hoq;unfold NP at hW2;rw[<- hW2];have hnb:Hid (∀ q∈Cb v2,q<w.heap.size∨q∈AP v1):=fun q hq=>(ft2 q hq).imp (HLT.out q) id
  have hbb:Hid (∀ b,w.heap.size<=b->b<w.heap.size+2->b ∉ Cb v2):=fun b h1 h2 hm=>by
   rcases hnb.out b hm with h3|h3
   .omega
   .have:=hlo1.out b h3;omega
  have hnq:Hid (∀ q∈ND vq,q ∉ Cb v2):=fun q hq hm=>by
   rcases hnb.out q hm with h3|h3
   .have:=WO.out q hq;omega
   .exact jU.out q h3 hq
  clear hW2 uS ft2 x0 x1 p0 c0 c1 c2 c3 c4 c5 cf k0 k1 k2 k3 k4 k5 ho1 OA
  have O2':OT B W2 v2 (Dz (XW t i j (Xi c)) j (Fh x (c.inbox.take 0))):=by
   rw[List.take_zero,show Fh x []=x from rfl,ZiC (uU.trans HX.out)];exact O2
  go_wp2_with fail;go_loopw [39,10,12,13,14] (fun iv y10 y12 y13 y14 wr=>∃ (k:Nat) (v':TV),k<=vq.n/\iv=.int .i64 k/\OT B wr v' (Dz (XW t i j (Xi c)) j (Fh x (c.inbox.take k)))/\C8 W2 v2 wr v') (fun iv _ _ _ _ _=>vq.n-(intOf iv).toNat)
  case atStart=>exact⟨0,v2,o_,rfl,O2',C8.refl _ _⟩
  case round =>
   obtain⟨k,v',hk,rfl,Or,st⟩:=hrel;obtain⟨wo,rfl⟩:∃ wo:World,wo=wr:=⟨_,rfl⟩;have Y0:=X0.upd st.upd (hbb.out _ o_ o_);have y0:=Y0.c0;have y1:=Y0.c1;have y2:=Y0.lt;have us:=st.upd.size;have hrq:=(hoq.upd st.upd hnq.out).rd;have hxk:(Dz (XW t i j (Xi c)) j (Fh x (c.inbox.take k))).Ad[j]? = some (Fh x (c.inbox.take k)):=Zfd (uU.trans HX.out);have HBo:Below Wb.heap.size Wb wo:=Dq Cq (st2.trans st).upd jT.out;by_cases hlt:k<vq.n
   .obtain⟨s,gi,Z5d,hs,hAi,q0⟩:=D7.at_ hrq hlt;have hss:=NQ.out s (Z6 hs.out);have hnx:=ZgZ (r:=x) hs;have hok:BH N (Fh x (c.inbox.take k)):=HRO.out.recvs _;obtain⟨xk,hxe⟩:∃ xk,xk=Fh x (c.inbox.take k):=⟨_,rfl⟩;rw[<- hxe]at hxk Or hnx hok;rw[hAi];have z0:(0:Int)<=(k:Int):=by omega
    have z1:(k:Int)<(vq.n:Int):=by omega
    obtain⟨g5,vr,uW,r0,r1,rf,WQ,hg5,Z5e,Z5f,Z5g,OB,GX,SB⟩:=Or.EU (by have:=st2.upd.size;omega) hxk;rw[st.r,st2.r]at uW;obtain rfl:gr=g5:=by simpa using uW
    have HPF:=Z5 GX;clear OB GX SB uW hxe;go_wp2_with fail;refine Zb (Z4B s _ hss ((Mx.out.below HBo).1)) ?_;rintro e w3 ⟨vb,rfl,LU,jV,hb3⟩;have uX:=Zrn s;have uY:=ZlI s;cases hpb:(pb s).2 with
    |false =>
     go_wp2_with fail;go_roundw
     case rel =>
      have hB4:Below wo.heap.size wo (w3.alloc (.cells #[.int .i64 (pb s).1.AU,.slice vb.A vb.n vb.c] 73)):=Ze hb3 _;refine⟨k+1,v',o_,by go_num,?_,st.below hB4⟩;rw[hnx,ZlC hpb];exact Or.below hB4
     case measure=>simp[intOf];omega
    |true =>
     rw[uG hpb]at hnx;go_wp2_with fail;refine ZQ fun W hW=>?_
     have WR:Below w3.heap.size w3 W:=by rw[hW.out];exact Ze (Below.refl _ _) _
     have k0:W.cell? ⟨w3.heap.size,0,none⟩=some (.int .i64 (pb s).1.AU):=by rw[hW.out];simp
     have k1:W.cell? ⟨w3.heap.size,1,none⟩=some (.slice vb.A vb.n vb.c):=by rw[hW.out];simp
     clear hW y0 y1 y2;have kz:=Y6 k0;have hb4:=Zg hb3 WR;have Y0:=Y0.below hb4;have y0:=Y0.c0;have y2:=Y0.lt;have r0:=Zm hb4 r0;have r1:=Zm hb4 r1;have rf:=fun o=>(Q6 hb4 gr hg5 o).trans (rf o)
     have WS:=(LU.below WR).rd;have hRF:=(WQ.below hb4).rd;have s4:=hb4.size;have hgW:gr<W.heap.size:=by omega
     go_region_held3 (fun w'=>w'.cell? ⟨w.heap.size,0,none⟩=some (.slice (some ⟨gr,0,none⟩) nr cr)/\w'.cell? ⟨gr,j*2,none⟩=some (.slice vr.A vr.n vr.c)/\w'.cell? ⟨w3.heap.size,0,none⟩=some (.int .i64 (pb s).1.AU)/\w'.cell? ⟨w3.heap.size,1,none⟩=some (.slice vb.A vb.n vb.c)) (first |(go_split_ands;(repeat' apply And.intro)<;>(exact Zm hb5 (by assumption)))| go_keep) ((first |(go_at_call 56;refine Zb (Z4w vr vb xk.Ab (pb s).1 _ hok.few hok.small uX uY ?_ ?_) ?_;exact hRF.below JD;exact WS.below JD;rintro e w4 ⟨vm,va,rfl,hom,hoa,hfm,hb5⟩;have Iz:=Zg (show Below W.heap.size W _ from JD) hb5)))
     all_goals
      have hb6:=Zg hb4 Iz;have s6:=Iz.size;have Y0:=Y0.below Iz;have y0:=Y0.c0;have y2:=Y0.lt;have r0:=Zm Iz r0;have rf:=fun o=>(Q6 Iz gr hgW o).trans (rf o)
      have Z5h:gr<w4.heap.size:=by omega
      have hfm:=hfm.Ay (show W.heap.size<=_ by simp);obtain⟨v4,O4,PQ,uZ⟩:=HPF.out w4 hb6 vm _ hom ((Ag.left hfm).Ay s4);have uS:Aw [gr] w4 (w4.setCell ⟨gr,j*2,none⟩ (.slice vm.A vm.n vm.c)):=Cs;have hoa:=hoa.upd uS (fun q hq hm=>by have:=(Ag.right hfm).lo q hq;simp at hm;omega);have Y4:=Y0.upd uS AR
      have vB:Hid (∀ b,w.heap.size<=b->b<w.heap.size+2->b ∉ Cb v4):=fun b h1 h2 hm=>by
       have hX:=X0.lt;rcases uZ b hm with h3|h3
       .rcases st.Fj b h3.1 with h4|h4
        .exact hbb.out b h1 h2 h4
        .have:=X1.lt;omega
       .have:=(Ag.left hfm).lo b h3;have:=X1.lt;omega
      have hna:Hid (∀ q∈Ea va,q ∉ Cb v4):=fun q hq hm=>by
       rcases uZ q hm with h3|h3
       .have:=Or.lt q h3.1;have:=(Ag.right hfm).lo q hq;omega
       .exact Ag.apart hfm q h3 hq
      have WT:=Z5 (fun(A:List A7) (h:A.length<=(Qb xk.Ab (pb s).1.AU (pb s).1.Ab).2.length)=>hok.mid h);have vC:=(Zhi (m:=(pb s).1.Ab) (r:=(pb s).1.AU) hok.1).2;have HAS:=Z5 (Zbm (m:=(pb s).1.Ab) (r:=(pb s).1.AU) hok.1);rw[Zfc]at O4;obtain⟨M,hM⟩:∃ M,M=(Qb xk.Ab (pb s).1.AU (pb s).1.Ab).1:=⟨_,rfl⟩;obtain⟨A,hAd⟩:∃ A,A=(Qb xk.Ab (pb s).1.AU (pb s).1.Ab).2:=⟨_,rfl⟩;rw[<- hM]at O4 hnx;rw[<- hAd]at hnx hoa WT vC HAS;have lva:A.length=va.n:=hoa.rd.len.out;go_wp2_with fail;obtain⟨W4,WU⟩:∃ W4,W4=w4.setCell ⟨gr,j*2,none⟩ (.slice vm.A vm.n vm.c):=⟨_,rfl⟩;rw[<- WU]at O4 PQ hoa Y4 ⊢;have s7:wo.heap.size<=W4.heap.size:=PQ.upd.size;clear WU uS r0 r1 rf y0 y2 uZ hfm hom hM hAd k0 k1 kz Y0 hRF WS WQ LU;have O4':OT B W4 v4 (Dz (XW t i j (Xi c)) j ⟨M,Kg xk.Av (A.take 0)⟩):=by rw[List.take_zero];exact O4
      go_loopw [69] (fun iv wr=>∃ (m:Nat) (v5:TV),m<=va.n/\iv=.int .i64 m/\OT B wr v5 (Dz (XW t i j (Xi c)) j ⟨M,Kg xk.Av (A.take m)⟩)/\C8 W4 v4 wr v5) (fun iv _=>va.n-(intOf iv).toNat)
      case atStart=>exact⟨0,v4,o_,rfl,O4',C8.refl _ _⟩
      case round =>
       obtain⟨m,v5,hm,rfl,O5,Ip⟩:=hrel;obtain⟨wi,rfl⟩:∃ wi:World,wi=wr:=⟨_,rfl⟩;have Z0:=Y4.upd Ip.upd (vB.out _ o_ o_);have s8:=Ip.upd.size;have hra:=(hoa.upd Ip.upd hna.out).rd;by_cases PU:m<va.n
       .obtain⟨f,g7,Z5i,hf,hA7,a0,a1,a2,a3,a4,a5,a6,a7⟩:=Cy.at_ hra PU;rw[hA7];obtain⟨vD,vF⟩:=HAS.out f (Z6 hf.out);have vG:=Zhp (j:=xk.Av) hf;have hjs:(Kg xk.Av (A.take m)).size<=4194304:=Zj (WT.out (A.take m) (by rw[List.length_take];omega)) hN;obtain⟨J,hJ⟩:∃ J,J=Kg xk.Av (A.take m):=⟨_,rfl⟩;rw[<- hJ]at O5 vG hjs;rw[Zp7]at vG;have hx5:(Dz (XW t i j (Xi c)) j ⟨M,J⟩).Ad[j]? = some ⟨M,J⟩:=Zfd (uU.trans HX.out);obtain⟨g8,vr8,vH,d0,d1,df,vI,hg8,_,Z5j,_,_,_,PV⟩:=O5.EU o_ hx5;rw[Ip.r,PQ.r,st.r,st2.r]at vH;obtain rfl:gr=g8:=by simpa using vH
        have HPJ:=Z5 PV;have HBi:Below Wb.heap.size Wb wi:=Dq HBo (PQ.trans Ip).upd (fun q hq=>Zj hBb (Or.fr.lo q hq));have u0:(0:Int)<=(m:Int):=by omega
        have u1:(m:Int)<(va.n:Int):=by omega
        clear PV vH vI hJ;go_wp2_with fail;refine ZQ fun Wj hWj=>?_
        have KL:Below wi.heap.size wi Wj:=by rw[hWj.out];exact Ze (Below.refl _ _) _
        have t0:Wj.cell? ⟨wi.heap.size,0,none⟩=some (.int .i64 f.id):=by rw[hWj.out];simp
        have t1:Wj.cell? ⟨wi.heap.size,1,none⟩=some (.int .i64 f.kind):=by rw[hWj.out];simp
        have t2:Wj.cell? ⟨wi.heap.size,2,none⟩=some (.string f.AL):=by rw[hWj.out];simp
        have t3:Wj.cell? ⟨wi.heap.size,3,none⟩=some (.string f.Z00):=by rw[hWj.out];simp
        have t4:Wj.cell? ⟨wi.heap.size,4,none⟩=some (.int .i64 f.Af.turn):=by rw[hWj.out];simp
        have t5:Wj.cell? ⟨wi.heap.size,5,none⟩=some (.int .i64 f.Af.x):=by rw[hWj.out];simp
        have t6:Wj.cell? ⟨wi.heap.size,6,none⟩=some (.int .i64 f.Af.y):=by rw[hWj.out];simp
        have t7:Wj.cell? ⟨wi.heap.size,7,none⟩=some (.int .i64 f.Ao):=by rw[hWj.out];simp
        clear hWj a0 a1 a2 a3 a4 a5 a6 a7 hra;have Z0:=Z0.below KL;have z0:=Z0.c0;have d1:=Zm KL d1;have df:=fun o=>(Q6 KL gr hg8 o).trans (df o)
        have HBj:=Zg HBi KL;have sj:=KL.size;have hgj:gr<Wj.heap.size:=by omega
        go_region_law (first |(go_simp;go_at_call 26;refine Zb (Z09 J false 0 f.id f.kind f.AL f.Z00 f.Af.turn f.Af.x f.Af.y f.Ao _ hjs o_ vD vF (Mx.out.below (by repeat(first|with_reducible exact HBj|with_reducible refine Ze ?_ _|with_reducible refine ZY ?_|with_reducible refine Qh ?_ _)))) ?_;rintro e w6 ⟨rfl,FU⟩;have EW:=Zg (show Below Wj.heap.size Wj _ from JD) FU;have z0:=Zm EW z0;have d1:=Zm EW d1;have df:=fun o=>(Q6 EW gr hgj o).trans (df o);have s9:=EW.size;have Sg:gr<w6.heap.size:=o_;have hz9:w.heap.size<w6.heap.size:=Y6 z0))
        all_goals
         obtain⟨v6,O6,FV,_⟩:=HPJ.out w6 (Zg KL EW) (EV J ⟨false,0,⟨f.id,f.kind,f.AL,f.Z00,⟨f.Af.turn,f.Af.x,f.Af.y⟩,f.Ao⟩⟩).1;rw[Zfc]at O6;go_wp2_with fail;go_roundw
         case rel=>exact⟨m+1,v6,o_,by go_num,by rw[vG];exact O6,Ip.trans FV⟩
         case measure=>simp[intOf];omega
       .obtain rfl:m=va.n:=by omega
        rw[<- lva,List.take_length,<- hnx]at O5;go_wp2_with fail;go_roundw
        case rel=>exact⟨k+1,v5,o_,by go_num,O5,st.trans (PQ.trans Ip)⟩
        case measure=>simp[intOf];omega
   .obtain rfl:k=vq.n:=by omega
    rw[Zp o_,<- HRQ.out]at Or;have Y1:=X1.upd st.upd (hbb.out _ o_ o_);have y3:=Y1.c0;have y4:=Y1.c1;have y5:=Y1.fz;have y6:=Y1.lt;have hlr:=HLT.out;go_wp2_with fail;refine bodyPost_ret (v:=.agg #[.slice (some ⟨gr,0,none⟩) nr cr,.slice (some ⟨gt,0,none⟩) nc cc]) (by simp[*,results,results32,go_sem]) rfl ?_;have uE:Aw [w.heap.size+1] wo ((wo.setCell ⟨w.heap.size+1,0,none⟩ (.slice (some ⟨gr,0,none⟩) nr cr)).setCell ⟨w.heap.size+1,1,none⟩ (.slice (some ⟨gt,0,none⟩) nc cc)):=Cs
    have WV:∀ q∈[w.heap.size+1],q ∉ Cb v':=fun q hq hm=>by
     simp at hq;subst hq;rcases st.Fj _ hm with h3|h3
     .exact hbb.out _ o_ o_ h3
     .have:=X1.lt;omega
    refine⟨v',by simp only[QL,st.r,st.c,st2.r,st2.c],⟨Or.own.upd uE (fun q hq hm=>WV q hm hq),Or.fr.grow uE.size⟩,?_⟩;have stt:=st2.trans st;exact⟨stt.r,stt.c,stt.upd.Iw uE (fun q hq=>by simp at hq;exact .inr o_),stt.Fj⟩
theorem Zjr{t:Ak}{i j m a:Int}(h:YG t=false):Iv t i j m a=t:=by simp[Iv,h]
theorem Zjq{t:Ak}{i j m a:Int}(h:Gj t i=false):Iv t i j m a=t:=by simp[Iv,h]
theorem Zjp{t:Ak}{i j m a:Int}(h:Gj t j=false):Iv t i j m a=t:=by simp[Iv,h]
theorem Zjo{t:Ak}{i j m a:Int}(h:i=j):Iv t i j m a=t:=by simp[Iv,h]
theorem vJ{t:Ak}{i:Nat}{m a:Int}{row:List Chan}{c:Chan}(h1:YG t=true)(h2:Gj t i=true)(h3:Gj t j=true)(h4:¬(i:Int)=j)(hi:t.channels[i]? = some row)(hj:row[j]? = some c):
  Iv t i j m a=Ki (XW t i j (Xp c m a)) i j (Xp c m a):=by
 unfold Iv;rw[Int.toNat_natCast,Int.toNat_natCast,X7 hi hj];have h5:decide ((i:Int)≠j)=true:=by simpa using h4
 rw[h1,h2,h3,h5];simp only[Bool.and_true,if_true];have h6:DX (XW t i j (Xp c m a)) i j=Xp c m a:=X7 (Su hi) (by rw[List.getElem?_set_self (Za.1 hj).1]);unfold UF Ki;rw[h6]
theorem vK{t:Ak}{l:List Chan}{c:Chan}(h:Xk t<=N)(hl:l∈t.channels)(hc:c∈l):Xb c<=N:=by
 have h1:NE l<=Y9 NE t.channels:=Sw hl;have h2:Xb c<=Y9 Xb l:=Sw hc;have h3:NE l=l.length+Y9 Xb l:=rfl;unfold Xk at h;omega
theorem Zfj{t:Ak}{r:Am}(h:Xk t<=1048576)(hr:r∈t.Ad)(hf:YW r.Ab=true):BH 1054336 r:=by
 refine⟨hf,?_⟩;have:=ZfM h hr;omega
theorem Zjj{t:Ak}(hm:Xk t<=N):FJ t<=N:=by
 have:=qX t.Ad;have:=qY t.channels;unfold Xk at hm;unfold FJ;omega
theorem Zhb{t:Ak}{i:Nat}{c:Chan}(hr:BH N (Iu t j))(hs:Kj c):FJ (Ki t i j c)<=FJ t+80:=Zhc hr hs.q hs.n hs.a
theorem Z8z(v:TV)(t:Ak)(i j m a:Int)(w:World)(hm:Xk t<=1048576)(hok:Mq t)(hr:Kc w v t)(hwi:(Lit.int .i64 i).wf=true)(hwj:(Lit.int .i64 j).wf=true)(jW:(Lit.int .i64 m).wf=true)(hwa:(Lit.int .i64 a).wf=true)(hT:Ed w):
  Calls prog 9 #[QL v,.int .i64 i,.int .i64 j,.int .i64 m,.int .i64 a] w fun e w'=>∃ v',e=.returned (QL v')/\Dt w' v' (Iv t i j m a)/\Ag w.heap.size w' (Cb v')/\Below w.heap.size w w':=by
 have FT:=Z5 (qZ (Zj hm (show 1048576<=4194304 by decide)));have HM:=Z5 (Zj hm (show 1048576<=4194304 by decide));have My:=Z5 hm;have HK:=Z5 hok;have HR:=Z5 hr;have HL:Hid (t.Ad.length=v.r.n):=hr.r.len;have HN:Hid (v.r.n<=4194304):=by have h1:=jX FT.out;have:=HL.out;rw[Hid];omega
 have Mx:=Z5 hT;have HWM:=Z5 jW;have HWA:=Z5 hwa;obtain⟨⟨Ar,nr,cr⟩,⟨Ac,nc,cc⟩,fr,fc⟩:=v;generalize hbt:YG t=bt;generalize hbi:Gj t i=bi;generalize hbj:Gj t j=bj;have HB:=Z5 hbt;have HI:=Z5 hbi;have HJ:=Z5 hbj;clear hbt hbi hbj hm hok hr hwi hwj jW hwa hT;go_enter func9,ntmps9;go_wp2_with fail;refine Zb (Xv ⟨⟨Ar,nr,cr⟩,⟨Ac,nc,cc⟩,fr,fc⟩ t _ FT.out ?_) ?_
 .exact HR.out.below (Ze (Ze (Below.refl _ _) _) _)
 rintro e w1 ⟨⟨⟨CO,Bl,Cg⟩,⟨Ei,BV,Ch⟩,EB,Eu⟩,rfl,ho1,hf1,hb1⟩;have B:=Zg (Ze (Ze (Below.refl w.heap.size w) _) _) hb1;have B1:=Z5 B;have X0:BO w1 w.heap.size (.slice Ar nr cr) (.slice Ac nc cc):=BO.below ⟨by go_simp,by go_simp,fun o=>by go_simp⟩ hb1;have X1:BO w1 (w.heap.size+1) (.slice none 0 0) (.slice none 0 0):=BO.below ⟨by go_simp,by go_simp,fun o=>by go_simp⟩ hb1;have O:OT (w.heap.size+2) w1 ⟨⟨CO,Bl,Cg⟩,⟨Ei,BV,Ch⟩,EB,Eu⟩ t:=⟨ho1,hf1.Ay s_⟩;have O1:=Z5 O;have a0:=X0.c0;have a1:=X0.c1;have a2:=X0.lt;have b0:=X1.c0;have b1:=X1.c1;have b2:=X1.fz;have b3:=X1.lt;have hlt1:=O.lt;have KM:Hid (w.heap.size+2<=w1.heap.size):=by have h9:=X1.lt;rw[Hid];omega
 clear ho1 hf1;go_wp2_with fail;refine Zb (Xz ⟨⟨Ar,nr,cr⟩,⟨Ac,nc,cc⟩,fr,fc⟩ t _ HM.out HK.out ?_) ?_
 .exact HR.out.below (Ze B _)
 rintro e w2 ⟨he,hb2⟩;rw[HB.out]at he;subst he;have X2:BO w2 w1.heap.size (.slice CO Bl Cg) (.slice Ei BV Ch):=BO.below ⟨by go_simp,by go_simp,fun o=>by go_simp⟩ hb2;have DJ:Below w1.heap.size w1 w2:=Zg (Ze (Below.refl _ _) _) hb2;have X0:=X0.below DJ;have X1:=X1.below DJ;have O:=O.below DJ;have B:=Zg B DJ;clear a0 a1 a2 b0 b1 b2 b3;have a0:=X0.c0;have a1:=X0.c1;have a2:=X0.lt;have b0:=X1.c0;have b1:=X1.c1;have b2:=X1.fz;have b3:=X1.lt;have c0:=X2.c0;have c1:=X2.c1;have c3:=X2.lt;cases bt
 .have HF:=Z5 (Zjr (i:=i) (j:=j) (m:=m) (a:=a) HB.out);go_wp2_with fail;refine bodyPost_ret (v:=QL ⟨⟨CO,Bl,Cg⟩,⟨Ei,BV,Ch⟩,EB,Eu⟩) (by simp[*,results,results9,go_sem]) rfl ?_;rw[HF.out];exact⟨⟨⟨CO,Bl,Cg⟩,⟨Ei,BV,Ch⟩,EB,Eu⟩,rfl,Sy B O _ _⟩
 go_wp2_with fail;refine Zb (uR ⟨⟨Ar,nr,cr⟩,⟨Ac,nc,cc⟩,fr,fc⟩ t i _ HL.out HN.out) ?_;rintro e w3 ⟨he,hb3⟩;rw[HI.out]at he;subst he;have X0:=X0.below hb3;have X1:=X1.below hb3;have X2:=X2.below hb3;have O:=O.below hb3;have B:=Zg B hb3;clear a0 a1 a2 b0 b1 b2 b3 c0 c1 c3;have a0:=X0.c0;have a1:=X0.c1;have a2:=X0.lt;have b0:=X1.c0;have b1:=X1.c1;have b2:=X1.fz;have b3:=X1.lt;have c0:=X2.c0;have c1:=X2.c1;have c3:=X2.lt;cases bi
 .have HF:=Z5 (Zjq (j:=j) (m:=m) (a:=a) HI.out);go_wp2_with fail;refine bodyPost_ret (v:=QL ⟨⟨CO,Bl,Cg⟩,⟨Ei,BV,Ch⟩,EB,Eu⟩) (by simp[*,results,results9,go_sem]) rfl ?_;rw[HF.out];exact⟨⟨⟨CO,Bl,Cg⟩,⟨Ei,BV,Ch⟩,EB,Eu⟩,rfl,Sy B O _ _⟩
 go_wp2_with fail;refine Zb (uR ⟨⟨Ar,nr,cr⟩,⟨Ac,nc,cc⟩,fr,fc⟩ t j _ HL.out HN.out) ?_;rintro e w4 ⟨he,hb4⟩;rw[HJ.out]at he;subst he;have X0:=X0.below hb4;have X1:=X1.below hb4;have X2:=X2.below hb4;have O:=O.below hb4;have B:=Zg B hb4;clear a0 a1 a2 b0 b1 b2 b3 c0 c1 c3;have a0:=X0.c0;have a1:=X0.c1;have a2:=X0.lt;have b0:=X1.c0;have b1:=X1.c1;have b2:=X1.fz;have b3:=X1.lt;have c0:=X2.c0;have c1:=X2.c1;have c3:=X2.lt;cases bj
 .have HF:=Z5 (Zjp (i:=i) (m:=m) (a:=a) HJ.out);go_wp2_with fail;refine bodyPost_ret (v:=QL ⟨⟨CO,Bl,Cg⟩,⟨Ei,BV,Ch⟩,EB,Eu⟩) (by simp[*,results,results9,go_sem]) rfl ?_;rw[HF.out];exact⟨⟨⟨CO,Bl,Cg⟩,⟨Ei,BV,Ch⟩,EB,Eu⟩,rfl,Sy B O _ _⟩
 by_cases hij:i=j
 .have hij2:(i == j)=true:=by simpa using hij
  have HF:=Z5 (Zjo (t:=t) (m:=m) (a:=a) hij);go_wp2_with fail;refine bodyPost_ret (v:=QL ⟨⟨CO,Bl,Cg⟩,⟨Ei,BV,Ch⟩,EB,Eu⟩) (by simp[*,results,results9,go_sem]) rfl ?_;rw[HF.out];exact⟨⟨⟨CO,Bl,Cg⟩,⟨Ei,BV,Ch⟩,EB,Eu⟩,rfl,Sy B O _ _⟩
 have g2:=UI.1 HI.out;have g3:=UI.1 HJ.out;obtain⟨i,rfl⟩:∃ n:Nat,i=n:=⟨i.toNat,o_⟩;obtain⟨j,rfl⟩:∃ n:Nat,j=n:=⟨j.toNat,o_⟩;obtain⟨p1,p2,p3,p4,p5⟩:=YY HB.out;obtain⟨row,hi⟩:∃ row,t.channels[i]? = some row:=⟨_,Z4 o_⟩;have hrm:=Z6 hi;have hrl:=(p5 row hrm).1;obtain⟨c,hj⟩:∃ c,row[j]? = some c:=⟨_,Z4 o_⟩;have hcm:=Z6 hj;have hbc:=vK My.out hrm hcm;have hoc:KA c:=HK.out.2 row hrm c hcm;have hic:=(p5 row hrm).2 c hcm;obtain⟨x,hx⟩:∃ x,t.Ad[j]? = some x:=⟨_,Z4 o_⟩;have hxm:=Z6 hx;have hro:=Zfj My.out hxm (p4 x hxm);have Ha:=Zj hbc (show 1048576<=4194304 by decide);have HF:=Z5 (vJ (m:=m) (a:=a) HB.out HI.out HJ.out hij hi hj);have hfs:=Zkh Ha hoc m a;have hts:=((Zo6 Ha).step m a).i;obtain⟨gt,g,vs,vc,hA,p0,hvs,⟨q0,q1,q2,q3,q4,q5⟩,cf,F8,hln,hg,hgt,hgB,SA,hne,hput⟩:=O1.out.ch KM.out hi hj;have HP:=Z5 hput;have Ow:t.channels.length=BV:=O.own.c.len.out;dsimp only at hA;subst hA;have Fq:Below w1.heap.size w1 w4:=Zg (Zg DJ hb3) hb4;have s4:=Fq.size;have p0:=Zm Fq p0;have q0:=Zm Fq q0;have q1:=Zm Fq q1;have q2:=Zm Fq q2;have q3:=Zm Fq q3;have q4:=Zm Fq q4;have q5:=Zm Fq q5;have cf:=fun o=>(Q6 Fq g hg o).trans (cf o)
 have vL:=F8.below Fq;have hg4:g<w4.heap.size:=by omega
 have Z5k:gt<w4.heap.size:=by omega
 have hgn1:g≠w1.heap.size:=by omega
 have hgn2:gt≠w1.heap.size:=by omega
 have z0:(0:Int)<=(i:Int):=by omega
 have z1:(i:Int)<(BV:Int):=by omega
 have z2:(0:Int)<=(j:Int):=by omega
 have z3:(j:Int)<(vs.n:Int):=by omega
 have Z5l:((i:Int)==(j:Int))=false:=by simpa using hij
 clear hput p1 p2 p3 p4 p5 g2 g3 F8;go_wp2_with fail;go_region_law (first |(go_simp;go_at_call 31;refine Zb (Z4A vc c m a _ Ha hoc ?_ HWM.out HWA.out ((Mx.out.below (Zg B JD)).1.tab)) ?_;exact vL.below JD;rintro e w5 ⟨v5,rfl,Cn,NJ,hb5⟩;have hW:=Zg (show Below w4.heap.size w4 _ from JD) hb5;have p0:=Zm hW p0;have q0:=Zm hW q0;have q1:=Zm hW q1;have q2:=Zm hW q2;have q3:=Zm hW q3;have q4:=Zm hW q4;have q5:=Zm hW q5;have cf:=fun o=>(Q6 hW g hg4 o).trans (cf o);have c0:=Zm hW c0;have c1:=Zm hW c1;have s5:=hW.size;have hg5:g<w5.heap.size:=o_;have vM:gt<w5.heap.size:=o_;have c3:w1.heap.size<w5.heap.size:=o_))
 all_goals
  obtain⟨⟨v6r,v6c,OC,OD⟩,O6,FV,jY⟩:=HP.out w5 (Zg Fq hW) v5 _ Cn (NJ.Ay AR);have e1:=FV.r;have e2:=FV.c;dsimp only at e1 e2;subst e1 e2;have uS:=JG w5 g j v5 (Xp c m a);have B6:=Dq (Zg B hW) uS (fun q hq=>by simp at hq;omega);have X1:=(X1.below hW).upd uS AR;have X2:=(X2.below hW).upd uS AR;obtain⟨W6,EW⟩:∃ W6,W6=NP w5 g j v5 (Xp c m a):=⟨_,rfl⟩;rw[<- EW]at O6 FV B6 X1 X2;unfold NP at EW;rw[<- EW];clear EW;have hx6:(XW t i j (Xp c m a)).Ad[j]? = some x:=hx;clear a0 a1 a2 b0 b1 b2 b3 c0 c1 c3 p0 q0 q1 q2 q3 q4 q5 cf uS;have b0:=X1.c0;have b1:=X1.c1;have b2:=X1.fz;have b3:=X1.lt;have c0:=X2.c0;have c1:=X2.c1;have c3:=X2.lt;go_wp2_with fail;have jZ:=Su (j:=j) (c:=Xp c m a) hi;have hjr:(row.set j (Xp c m a))[j]? = some (Xp c m a):=List.getElem?_set_self (Za.1 hj).1;refine Zb (Z8t w (w.heap.size+2) 1054336 ⟨⟨CO,Bl,Cg⟩,⟨some ⟨gt,0,none⟩,BV,Ch⟩,OC,OD⟩ (XW t i j (Xp c m a)) i j (row.set j (Xp c m a)) (Xp c m a) x W6 O6 o_ B6 o_ jZ hjr hx6 hro AO hfs hts Mx.out) ?_;rintro e w7 ⟨v7,rfl,O7,KN⟩;rw[<- HF.out]at O7;have FU:w.heap.size+1 ∉ Cb (⟨⟨CO,Bl,Cg⟩,⟨some ⟨gt,0,none⟩,BV,Ch⟩,OC,OD⟩:TV):=fun hm=>by have:=O6.fr.lo _ hm;omega
  have B7:=Dq B6 KN.upd (fun q hq=>by have:=O6.fr.lo q hq;omega);have X1:=X1.upd KN.upd FU;clear b0 b1 b2 b3 c0 c1 c3;have b0:=X1.c0;have b1:=X1.c1;have b2:=X1.fz;have b3:=X1.lt;go_wp2_with fail;refine bodyPost_ret (v:=QL v7) (by simp[*,results,results9,go_sem]) rfl ?_;exact⟨v7,rfl,Sy B7 O7 _ _⟩
noncomputable def WW(i:Nat):Nat->Ak->Ak
 |0,t=>t
 |j+1,t=>NN (WW i j t) (i,j)
noncomputable def PW(n:Nat):Nat->Ak->Ak
 |0,t=>t
 |i+1,t=>WW i n (PW n i t)
noncomputable def Gl(t:Ak):Ak:=if YG t then PW t.Ad.length t.Ad.length t else t
theorem ZmP{t:Ak}(h:YG t=false):Gl t=t:=by simp[Gl,h]
theorem Zdk{t:Ak}{n:Nat}(h:YG t=true)(hn:t.Ad.length=n):Gl t=PW n n t:=by simp[Gl,h,hn]
theorem Zar(u:Ak)(i:Nat):NN u (i,i)=u:=by simp[NN]
theorem vN{i:Nat}{row:List Chan}{c:Chan}(hne:i≠j)(hi:u.channels[i]? = some row)(hj:row[j]? = some c):NN u (i,j)=Ki u i j (Qd c):=by
 unfold NN;rw[if_neg hne];simp only;rw[X7 hi hj,ZcD hi hj]
theorem ZkF{i:Nat}{row:List Chan}{c:Chan}(hne:i≠j)(hi:u.channels[i]? = some row)(hj:row[j]? = some c):NN u (i,j)=Ki (XW u i j (Qd c)) i j (Qd c):=by
 rw[vN hne hi hj,<- ZcD hi hj];have h6:DX (XW u i j (Qd c)) i j=Qd c:=X7 (Su hi) (by rw[List.getElem?_set_self (Za.1 hj).1]);unfold UF Ki;rw[h6]
structure CI(t:Ak)(n i j:Nat)(u:Ak):Prop where
 len:u.Ad.length=n
 Hd:u.channels.length=n
 row:∀ l∈u.channels,l.length=n
 EU:∀ r∈u.Ad,BH 1054336 r
 keep:∀ a b,(i<a∨(a=i/\j<=b))->DX u a b=DX t a b
 num:FJ u<=1048576+80 *(i*n+j)
theorem Znj{t:Ak}{n:Nat}(h:YG t=true)(hm:Xk t<=1048576)(hn:t.Ad.length=n):CI t n 0 0 t:=by
 obtain⟨p1,p2,p3,p4,p5⟩:=YY h;exact⟨hn,o_,fun l hl=>by rw[(p5 l hl).1,hn],fun r hr=>Zfj hm hr (p4 r hr),fun _ _ _=>rfl,by have:=Zjj hm;omega⟩
theorem CI.next{t:Ak}{n i:Nat}(h:CI t n i n u):CI t n (i+1) 0 u :=
 ⟨h.len,h.Hd,h.row,h.EU,fun a b hab=>h.keep a b o_,by have:=h.num;rw[Nat.add_mul,Nat.one_mul];omega⟩
theorem CI.skip{t:Ak}{n i:Nat}(h:CI t n i i u):CI t n i (i+1) u :=
 ⟨h.len,h.Hd,h.row,h.EU,fun a b hab=>h.keep a b o_,by have:=h.num;omega⟩
theorem CI.parts{t:Ak}{n i:Nat}(h:CI t n i j u)(ht:YG t=true)(hm:Xk t<=1048576)(hok:Mq t)(hn:t.Ad.length=n)(hi:i<n)(hj:j<n):
  ∃ row c x,u.channels[i]? = some row/\row[j]? = some c/\u.Ad[j]? = some x/\BH 1054336 x/\YQ c=true/\Xb c<=1048576/\KA c/\row.length=n:=by
 obtain⟨p1,p2,p3,p4,p5⟩:=YY ht;obtain⟨row,hr⟩:∃ row,u.channels[i]? = some row:=⟨_,Z4 (by rw[h.Hd];exact hi)⟩;have hrl:=h.row row (Z6 hr);obtain⟨c,hc⟩:∃ c,row[j]? = some c:=⟨_,Z4 (by rw[hrl];exact hj)⟩;obtain⟨x,hx⟩:∃ x,u.Ad[j]? = some x:=⟨_,Z4 (by rw[h.len];exact hj)⟩;obtain⟨E6,hr0⟩:∃ row,t.channels[i]? = some row:=⟨_,Z4 o_⟩;have hm0:=Z6 hr0;obtain⟨c0,hc0⟩:∃ c,E6[j]? = some c:=⟨_,Z4 (by have:=(p5 E6 hm0).1;omega)⟩;have hk:=h.keep i j o_;rw[X7 hr hc,X7 hr0 hc0]at hk;subst hk;have hcm:=Z6 hc0;exact⟨row,c,x,hr,hc,hx,h.EU x (Z6 hx),(p5 E6 hm0).2 c hcm,vK hm hm0 hcm,hok.2 E6 hm0 c hcm,hrl⟩
theorem kC{i a b:Nat}{c:Chan}{row:List Chan}(hi:u.channels[i]? = some row)(hab:¬(a=i/\b=j)):DX (XW u i j c) a b=DX u a b:=by
 unfold DX Kh XW;simp only[Qx hi];by_cases h:a=i
 .subst h;rw[List.getElem?_set_self (Za.1 hi).1,hi];simp only[Option.getD_some];rw[List.getElem?_set_ne (by intro e;exact hab ⟨rfl,e.symm⟩)]
 .rw[List.getElem?_set_ne (by intro e;exact h e.symm)]
theorem CI.step{t:Ak}{n i:Nat}(h:CI t n i j u){row:List Chan}{c:Chan}{x:Am}(hr:u.channels[i]? = some row)(hc:row[j]? = some c)(hx:u.Ad[j]? = some x)(hs:Kj (Qd c))(hne:i≠j):CI t n i (j+1) (NN u (i,j)):=by
 rw[vN hne hr hc];have hrl:=h.row row (Z6 hr);have hro:BH 1054336 (Iu u j):=by rw[uN hx];exact h.EU x (Z6 hx)
 refine⟨?_,?_,?_,?_,?_,?_⟩
 .show(u.Ad.set j _).length=n;rw[List.length_set,h.len]
 .show(u.channels.set i _).length=n;rw[List.length_set,h.Hd]
 .intro l hl;have hl':l∈u.channels.set i ((Kh u i).set j (Xi (Qd c))):=hl;rcases ZW hl' with h1|rfl
  .exact h.row l h1
  .rw[List.length_set,Qx hr,hrl]
 .intro r hrm;have hr':r∈u.Ad.set j (Fh (Iu u j) (Qd c).inbox):=hrm;rcases ZW hr' with h1|rfl
  .exact h.EU r h1
  .exact hro.recvs _
 .intro a b hab;have e:DX (Ki u i j (Qd c)) a b=DX (XW u i j (Xi (Qd c))) a b:=rfl;rw[e,kC hr o_];exact h.keep a b o_
 .have:=Zhb (i:=i) hro hs;have:=h.num;omega
noncomputable def Fs(r:Nat)(s:ByteArray):Nat->Ak->Option Ak
 |0,t=>some t
 |j+1,t=>match Fs r s j t with
  |none=>none
  |some u=>if j=r then some u else if (Xj (DX u r j) s).2=true then some (XW u r j (Xj (DX u r j) s).1)else none
theorem Zjd(r:Nat)(s:ByteArray)(t:Ak):Fs r s 0 t=some t:=rfl
theorem ZcH{r:Nat}{s:ByteArray}{t:Ak}(h:Fs r s r t=some u):Fs r s (r+1) t=some u:=by
 rw[Fs,h];simp
theorem ZfA{r:Nat}{s:ByteArray}{t:Ak}{row:List Chan}{c:Chan}(h:Fs r s j t=some u)(hne:¬ j=r)(hi:u.channels[r]? = some row)(hj:row[j]? = some c)(ho:(Xj c s).2=true):Fs r s (j+1) t=some (XW u r j (Xj c s).1):=by
 rw[Fs,h];simp only[if_neg hne];rw[X7 hi hj,if_pos ho]
theorem ZoW{r:Nat}{s:ByteArray}{t:Ak}{row:List Chan}{c:Chan}(h:Fs r s j t=some u)(hne:¬ j=r)(hi:u.channels[r]? = some row)(hj:row[j]? = some c)(ho:(Xj c s).2=false):Fs r s (j+1) t=none:=by
 rw[Fs,h];simp only[if_neg hne];rw[X7 hi hj,ho];simp
theorem ZcI{r j:Nat}{s:ByteArray}{t:Ak}(h:Fs r s j t=none):∀ k,Fs r s (j+k) t=none
 |0=>h
 |k+1=>by
  rw[show j+(k+1)=(j+k)+1 from rfl,Fs,ZcI h k]
noncomputable def Gv(t:Ak)(r:Int)(f:A7):Ak×Bool :=
  if YG t && (Gj t r && decide (Yo f.id=r))then
    (if (Qt (Iu t r.toNat).Ab f).2 && (EV (Iu t r.toNat).Av ⟨false,0,f⟩).2 then
      (match Fs r.toNat (Qr ⟨r,[f]⟩) t.Ad.length (Dz t r.toNat ⟨(Qt (Iu t r.toNat).Ab f).1,(EV (Iu t r.toNat).Av ⟨false,0,f⟩).1⟩)with
        | some u=>(u,true)
        | none=>(t,false))
     else (t,false))
  else (t,false)
theorem Zjz{t:Ak}{r:Int}(h:YG t=false):Gv t r f=(t,false):=by simp[Gv,h]
theorem Zjy{t:Ak}{r:Int}(h:Gj t r=false):Gv t r f=(t,false):=by simp[Gv,h]
theorem Zjx{t:Ak}{r:Int}(h:¬ Yo f.id=r):Gv t r f=(t,false):=by simp[Gv,h]
theorem vO{t:Ak}{r:Nat}{x:Am}(h1:YG t=true)(h2:Gj t r=true)(h3:Yo f.id=r)(hx:t.Ad[r]? = some x):
    Gv t r f=if (Qt x.Ab f).2 && (EV x.Av ⟨false,0,f⟩).2 then
      (match Fs r (Qr ⟨r,[f]⟩) t.Ad.length (Dz t r ⟨(Qt x.Ab f).1,(EV x.Av ⟨false,0,f⟩).1⟩)with
        | some u=>(u,true)
        | none=>(t,false))
     else (t,false):=by
  unfold Gv;rw[Int.toNat_natCast,uN hx,h1,h2];simp only[h3,Bool.true_and,decide_true,if_true]
theorem Zha{t:Ak}{i:Nat}{c c0:Chan}{row:List Chan}(hi:t.channels[i]? = some row)(hj:row[j]? = some c0)(h:c.num<=c0.num+1):FJ (XW t i j c)<=FJ t+1:=by
 have h1:=UG (c:=LF) (k:=1) (x:=(Kh t i).set j c) (l:=t.channels) (i:=i) (fun y hy=>by
  rw[Qx hy];rw[hi]at hy;obtain rfl:=Z7 hy
  have h2:=UG (c:=Chan.num) (k:=1) (x:=c) (l:=row) (i:=j) (fun z hz=>by
   rw[hj]at hz;obtain rfl:=Z7 hz;exact h)
  unfold LF;omega)
 unfold FJ XW;simp only;omega
theorem Zja(c:Chan)(s:ByteArray):(Xj c s).1.num<=c.num+1:=by
 unfold Xj;split
 .unfold Io Chan.num;simp;omega
 .exact Nat.le_succ _
structure OI(t:Ak)(n r j:Nat)(u:Ak):Prop where
 len:u.Ad.length=n
 Hd:u.channels.length=n
 row:∀ l∈u.channels,l.length=n
 keep:∀ b,j<=b->DX u r b=DX t r b
 num:FJ u<=1048576+41+j
theorem Znf{t:Ak}{n r:Nat}{x:Am}{J:ByteArray}(h:YG t=true)(hm:Xk t<=1048576)(hn:t.Ad.length=n)(hx:t.Ad[r]? = some x):OI t n r 0 (Dz t r ⟨(Qt x.Ab f).1,J⟩):=by
 obtain⟨p1,p2,p3,p4,p5⟩:=YY h;have h1:=p4 x (Z6 hx);refine⟨by show(t.Ad.set r _).length=n;rw[List.length_set,hn],by show t.channels.length=n;omega,fun l hl=>by rw[(p5 l hl).1,hn],fun _ _=>rfl,?_⟩;have h2:=ZcJ t r ⟨(Qt x.Ab f).1,J⟩;have h3:=Zjj hm
 have h4:(Qt x.Ab f).1.length<=40:=by
  cases ha:(Qt x.Ab f).2 with
  |true=>exact Qo (vP ha)
  |false =>
   have e:(Qt x.Ab f).1=x.Ab:=by
    unfold Qt at ha ⊢;by_cases hc:(YW x.Ab && YW (J0 x.Ab f))=true
    .rw[if_pos hc]at ha;cases ha
    .rw[if_neg hc]
   rw[e];exact Qo h1
 have h5:Am.num ⟨(Qt x.Ab f).1,J⟩=1+(Qt x.Ab f).1.length:=rfl;omega
theorem OI.skip{t:Ak}{n r:Nat}(h:OI t n r j u):OI t n r (j+1) u :=
 ⟨h.len,h.Hd,h.row,fun b hb=>h.keep b o_,by have:=h.num;omega⟩
theorem OI.step{t:Ak}{n r:Nat}{s:ByteArray}{row:List Chan}{c:Chan}(h:OI t n r j u)(hi:u.channels[r]? = some row)(hj:row[j]? = some c):OI t n r (j+1) (XW u r j (Xj c s).1):=by
 refine⟨h.len,?_,?_,?_,?_⟩
 .show(u.channels.set r _).length=n;rw[List.length_set,h.Hd]
 .intro l hl;have hl':l∈u.channels.set r ((Kh u r).set j (Xj c s).1):=hl;rcases ZW hl' with h1|rfl
  .exact h.row l h1
  .rw[List.length_set,Qx hi,h.row row (Z6 hi)]
 .intro b hb;rw[kC hi o_];exact h.keep b o_
 .have:=Zha hi hj (Zja c s);have:=h.num;omega
theorem OI.parts{t:Ak}{n r:Nat}(h:OI t n r j u)(ht:YG t=true)(hm:Xk t<=1048576)(hok:Mq t)(hn:t.Ad.length=n)(hi:r<n)(hj:j<n):
  ∃ row c,u.channels[r]? = some row/\row[j]? = some c/\Xb c<=1048576/\KA c/\row.length=n:=by
 obtain⟨p1,p2,p3,p4,p5⟩:=YY ht;obtain⟨row,hr⟩:∃ row,u.channels[r]? = some row:=⟨_,Z4 (by rw[h.Hd];exact hi)⟩;have hrl:=h.row row (Z6 hr);obtain⟨c,hc⟩:∃ c,row[j]? = some c:=⟨_,Z4 (by rw[hrl];exact hj)⟩;obtain⟨E6,hr0⟩:∃ row,t.channels[r]? = some row:=⟨_,Z4 o_⟩;have hm0:=Z6 hr0;obtain⟨c0,hc0⟩:∃ c,E6[j]? = some c:=⟨_,Z4 (by have:=(p5 E6 hm0).1;omega)⟩;have hk:=h.keep j o_;rw[X7 hr hc,X7 hr0 hc0]at hk;subst hk;have hcm:=Z6 hc0;exact⟨row,c,hr,hc,vK hm hm0 hcm,hok.2 E6 hm0 c hcm,hrl⟩
theorem Zmq{r:Int}(h:Yg r [f]=true):(KC r [f]).size<=600:=by
 obtain⟨h0,h2,h4,hv⟩:=YT h;have h1:=XU f;have h5:(YM f).data.toList.length=(YM f).size:=by simp
 rw[JR (hv f s_)]at h5;have h3:=Lib.itoa_length_le r o_ o_;have e:(KC r [f]).data.toList.length=(KC r [f]).size:=by simp
 rw[vQ]at e;simp only[LK,Zq,Xa,Zt,List.length_nil]at e;omega
theorem Zph(f:A7)(r:Int):(Qr ⟨r,[f]⟩).size<=600:=by
 unfold Qr;split
 .rename_i h;exact Zmq h
 .decide
theorem ZrI{s:ByteArray}{E:List Entry}{e:Entry}(h:∀ e∈E,Yc e=true)(hl:E.length<60)(he:Yc e=true)(hs:s.data.toList=DL E 1):(EV s e).2=true/\(EV s e).1.data.toList=DL (E++[e]) 1:=by
 obtain⟨h1,h2,h3⟩:=Zsc h o_ hs
 have hx:s.extract 0 s.size=s:=by
  apply Dh;rw[UL];exact Zp s_
 rw[Zo4 he (by rw[h1];omega),h2,h3,hx];refine⟨rfl,?_⟩;rw[ZfO,<- hs];simp[DL,ByteArray.data_append]
structure RInv(F:List A7)(x:Am):Prop where
 fl:YW x.Ab=true
 mem:∀ g∈x.Ab,g∈F
 jr:∃ E:List Entry,(∀ e∈E,Yc e=true)/\x.Av.data.toList=DL E 1/\E.length=x.Ab.length/\E.foldl Zsb []=x.Ab
theorem RInv.nil :RInv [] ⟨[],ByteArray.empty⟩:=⟨AO,s_,[],s_,rfl,rfl,rfl⟩
theorem RInv.mono{F:List A7}{x:Am}(h:RInv F x)(hF:∀ g∈F,g∈F'):RInv F' x:=⟨h.fl,fun g hg=>hF g (h.mem g hg),h.jr⟩
theorem kD(h:Zy f=true):Yc ⟨false,0,f⟩=true:=by simp[Yc,h]
theorem RInv.add{F:List A7}{x:Am}(h:RInv F x)(hF:∀ g∈F,g∈F')(hf:f∈F')(hv:Zy f=true)(ha:(Qt x.Ab f).2=true):
  (EV x.Av ⟨false,0,f⟩).2=true/\RInv F' ⟨(Qt x.Ab f).1,(EV x.Av ⟨false,0,f⟩).1⟩:=by
 obtain⟨E,hE,hj,hl,hr⟩:=h.jr;have h40:=Qo h.fl;obtain⟨h1,h2⟩:=ZrI hE o_ (kD hv) hj;obtain⟨e1,e2,_⟩:=iN ha;refine⟨h1,⟨?_,?_,E++[⟨false,0,f⟩],?_,h2,?_,?_⟩⟩
 .show YW (Qt x.Ab f).1=true;rw[e1];exact e2
 .intro g hg;replace hg:g∈(Qt x.Ab f).1:=hg;rw[e1]at hg;rcases Jr.1 hg with rfl|hg
  .exact hf
  .exact hF g (h.mem g hg)
 .intro e he;rcases Z9.1 he with he|he
  .exact hE e he
  .simp only[Zh]at he;subst he;exact kD hv
 .show _=(Qt x.Ab f).1.length;rw[e1,qJ,Zq,hl];rfl
 .rw[List.foldl_append,hr];rfl
def Dk(F:List A7)(i:Int)(s:ByteArray):Prop:=∃ f∈F,Zy f=true/\Yo f.id=i/\0<=i/\i<=2/\s=Qr ⟨i,[f]⟩
theorem Dk.mono{F:List A7}{i:Int}{s:ByteArray}(h:Dk F i s)(hF:∀ g∈F,g∈F'):Dk F' i s:=by
 obtain⟨f,hf,h⟩:=h;exact⟨f,hF f hf,h⟩
theorem WX{i:Int}(hv:Zy f=true)(hr:Yo f.id=i)(h0:0<=i)(h2:i<=2):Yg i [f]=true:=by
 unfold Yg;have e1:Be i 0 2=true:=Y8.2 ⟨h0,h2⟩;have e2:Be (([f]:List A7).length:Int) 1 4=true:=Y8.2 s_;rw[e1,e2];simp[Ka,hv,hr]
theorem kF{r:Int}(h:Yg r l=true):pb (Qr ⟨r,l⟩)=(⟨r,l⟩,true):=by
 have h1:KH (Qr ⟨r,l⟩)=some ⟨r,l⟩:=Z9W ⟨h,by unfold Qr;rw[if_pos h]⟩;unfold pb;rw[h1]
theorem Dk.sz{F:List A7}{i:Int}{s:ByteArray}(h:Dk F i s):s.size<=300:=by
 obtain⟨f,_,hv,hr,h0,h2,rfl⟩:=h;have hb:=WX hv hr h0 h2;have h1:=XU f;have h5:(YM f).data.toList.length=(YM f).size:=by simp
 rw[JR hv]at h5;have h3:=Lib.itoa_length_le i o_ o_;unfold Qr;rw[if_pos hb];rw[<- MB];unfold KC;simp only[LK,Zq,Zt,List.length_nil];omega
theorem RInv.recv{F:List A7}{x:Am}{i:Int}{s:ByteArray}(h:RInv F x)(hs:Dk F i s):RInv F (NM x s):=by
 obtain⟨f,hf,hv,hr,h0,h2,rfl⟩:=hs;have hb:=WX hv hr h0 h2;have hp:=kF hb;rw[uG (by rw[hp]),hp];show RInv F ⟨(Qb x.Ab i [f]).1,Kg x.Av (Qb x.Ab i [f]).2⟩;rw[vR h.fl hb];cases ha:(Qt x.Ab f).2 with
 |true =>
  rw[show [f].foldl Yr (x.Ab,[])=((Qt x.Ab f).1,[f])from by simp[Yr,ha]];exact(h.add (fun g hg=>hg) hf hv ha).2
 |false =>
  rw[show [f].foldl Yr (x.Ab,[])=(x.Ab,[])from by simp[Yr,ha]];exact h
theorem RInv.recvs{F:List A7}{i:Int}:∀ (l:List ByteArray) {x:Am},RInv F x->(∀ s∈l,Dk F i s)->RInv F (Fh x l)
 |[],x,h,_=>h
 |s::l,x,h,hl=>RInv.recvs l (h.recv (hl s s_)) (fun u hu=>hl u (by simp[hu]))
theorem Zn7{c:Chan}  :∀ x∈(CU c p).Ai,x∈c.Ai∨∃ n,x=YX true n ⟨#[]⟩:=by
 have put:∀ n,∀ x∈Es c.Ai (YX true n ⟨#[]⟩),x∈c.Ai∨∃ n,x=YX true n ⟨#[]⟩:=fun n=>Xq (fun x hx=>.inl hx) (.inr ⟨n,rfl⟩)
 unfold CU;split
 .split
  .exact put _
  .exact put _
 .exact fun x hx=>.inl hx
theorem ZkS{c:Chan}{m a:Int}  :∀ x∈(Yv c m a).Ai,x∈c.Ai∨∃ n,x=YX true n ⟨#[]⟩:=by
 have self:∀ x∈c.Ai,x∈c.Ai∨∃ n,x=YX true n ⟨#[]⟩:=fun x hx=>.inl hx
 unfold Yv;split
 .exact self
 split
 .split
  .exact self
  .unfold Eb;split
   .exact self
   .split
    .exact self
    split
    .exact self
    split
    .exact self
    .exact Zn7
 split
 .split
  .exact self
  .unfold FP;split
   .exact self
   .split
    .rw[kG];exact Ja self
    .exact Ja self
 .exact self
structure CJ(F:List A7)(N M:Nat)(i:Int)(c:Chan):Prop where
 inv:∃ want got m,m<=M/\want.length<=N/\AM want got m c/\∀ s∈want,Dk F i s
 ak:∀ p∈c.Ai,p.text.size<=300/\F6 p.sum
theorem CJ.mono{F:List A7}{M:Nat}{i:Int}{c:Chan}(h:CJ F N M i c)(hF:∀ g∈F,g∈F')(hN:N<=N')(hM:M<=M'):CJ F' N' M' i c:=by
 obtain⟨⟨want,got,m,h1,h2,h3,h4⟩,ha⟩:=h;exact⟨⟨want,got,m,o_,o_,h3,fun s hs=>(h4 s hs).mono hF⟩,ha⟩
theorem CJ.chan{F:List A7}{M:Nat}{i:Int}{c:Chan}(h:CJ F N M i c)(hN:N<=1000):YQ c=true:=by
 obtain⟨⟨want,got,m,h1,h2,h3,h4⟩,_⟩:=h;exact h3.isChan o_ fun s hs=>(h4 s hs).sz
theorem CJ.offer{F:List A7}{M:Nat}{i:Int}{c:Chan}{s:ByteArray}(h:CJ F N M i c)(hN:N<=7)(hs:Dk F i s):(Xj c s).2=true/\CJ F (N+1) M i (Xj c s).1/\(Xj c s).1.inbox=c.inbox:=by
 have hc:=h.chan o_;obtain⟨⟨want,got,m,h1,h2,h3,h4⟩,ha⟩:=h;have hb:=h3.bq;have hb0:=h3.b0;have ho:=h3.offer o_ s
 have hC:CJ F (N+1) M i (Io c s):=⟨⟨want++[s],got,m,h1,AR,ho,fun u hu=>by
  rcases Z9.1 hu with hu|hu
  .exact h4 u hu
  .simp only[Zh]at hu;subst hu;exact hs⟩,ha⟩
 have hd:=hC.chan o_;have e:Xj c s=(Io c s,true):=by unfold Xj;rw[hc,hd];rfl
 rw[e];exact⟨rfl,hC,rfl⟩
theorem Zq9(n:Int)(t:ByteArray)(a:Bool):F6 (Xd n t a):=by have:=vS n t a;exact FW _ o_ o_
theorem CJ.move{F:List A7}{M:Nat}{i:Int}{c:Chan}(h:CJ F N M i c)(hN:N<=1000)(hM:M<=1000)(mv a:Int):CJ F N (M+1) i (Xp c mv a):=by
 have hc:=h.chan hN;obtain⟨⟨want,got,m,h1,h2,h3,h4⟩,ha⟩:=h;unfold Xp;rw[if_pos hc];refine⟨⟨want,got,m+1,o_,h2,h3.move o_ mv a,h4⟩,fun p hp=>?_⟩;rcases ZkS p hp with hp |⟨n,rfl⟩
 .exact ha p hp
 .exact⟨Nat.zero_le _,Zq9 n _ _⟩
theorem CJ.take{F:List A7}{M:Nat}{i:Int}{c:Chan}(h:CJ F N M i c):CJ F N M i (Xi c)/\∀ s∈c.inbox,Dk F i s:=by
 obtain⟨⟨want,got,m,h1,h2,h3,h4⟩,ha⟩:=h;refine⟨⟨⟨want,got++c.inbox,m,h1,h2,h3.take,h4⟩,ha⟩,fun s hs=>h4 s ?_⟩;have:s∈got++c.inbox:=Z9.2 (.inr hs);rw[h3.NS]at this;exact ZT this
theorem PX{α:Type}{b:α->Nat}{N:Nat}:∀ {l:List α},(∀ x∈l,b x<=N)->Y9 b l<=l.length*N
 |[],_=>by simp[Y9]
 |x::l,h=>by
  have h1:=h x s_
  have h2:=PX (b:=b) (N:=N) (l:=l) fun y hy=>h y (by simp[hy])
  simp only[Y9,Zt,Nat.add_mul]
  omega
theorem CJ.size{F:List A7}{M:Nat}{i:Int}{c:Chan}(h:CJ F N M i c)(hi:c.inbox=[]):Xb c<=20000:=by
 obtain⟨⟨want,got,m,h1,h2,h3,h4⟩,ha⟩:=h;have q1:=h3.q8;have q2:=h3.n12;have q3:=h3.a12;have s1:=PX (b:=ByteArray.size) (N:=300) (l:=c.queue) fun s hs=>(h4 s (by rw[h3.q]at hs;exact ZG hs)).sz
 have s2:=PX (b:=Ae.bulk) (N:=300) (l:=c.net) fun p hp=>by
  obtain⟨_,k,hk,_⟩:=h3.net p hp;exact(h4 _ (Z6 hk)).sz
 have s3:=PX (b:=Ae.bulk) (N:=300) (l:=c.Ai) fun p hp=>(ha p hp).1
 unfold Xb;rw[hi];simp only[List.length_nil,Y9];omega
theorem CJ.ok{F:List A7}{M:Nat}{i:Int}{c:Chan}(h:CJ F N M i c)(hi:c.inbox=[])(hN:N<=1000)(hM:M<=2000):KA c:=by
 obtain⟨⟨want,got,m,h1,h2,h3,h4⟩,ha⟩:=h;have q1:=h3.b0;have q2:=h3.be;have q3:=h3.ew;have big:∀ {k:Nat},k<=300->k<=maxLen:=fun hk=>Zj hk (by unfold maxLen;omega)
 refine⟨fun s hs=>big (h4 s (by rw[h3.q]at hs;exact ZG hs)).sz,by rw[hi];simp,fun p hp=>?_,fun p hp=>?_,FW _ o_ o_,FW _ o_ o_⟩
 .obtain⟨_,k,hk,hn,j,hj,hs⟩:=h3.net p hp;have hkl:=(Za.1 hk).1;have hb:=vS p.number p.text p.Cr;exact⟨big (h4 _ (Z6 hk)).sz,FW _ o_ o_,FW _ o_ o_⟩
 .have h5:=h3.Ai p hp;have h6:=h5.2.1;have h7:=h5.2.2;exact⟨big (ha p hp).1,FW _ o_ o_,(ha p hp).2⟩
theorem RInv.WY{F:List A7}{x:Am}(h:RInv F x):∀ f∈x.Ab,f.ok/\f.bulk<=16:=fun f hf=>by
 have:=Zde (kD ((UK h.fl).1 f hf))
 exact⟨this.2.1,this.2.2.2⟩
theorem RInv.jrn{F:List A7}{x:Am}(h:RInv F x):x.Av.size<=16000:=by
 obtain⟨E,hE,hj,hl,_⟩:=h.jr;have h1:=ZfN E 1 hE AO;have h2:=Qo h.fl;rw[<- MB,hj];omega
theorem RInv.size{F:List A7}{x:Am}(h:RInv F x):x.bulk<=20000:=by
 have h1:=h.jrn;have h2:=Qo h.fl;have h3:=PX (b:=A7.bulk) (N:=16) (l:=x.Ab) fun f hf=>(h.WY f hf).2
 unfold Am.bulk Ib;omega
theorem RInv.ok{F:List A7}{x:Am}(h:RInv F x):x.ok :=
 ⟨fun f hf=>(h.WY f hf).1,Zj h.jrn (by unfold maxLen;omega)⟩
structure TI(F:List A7)(N M n:Nat)(t:Ak):Prop where
 n1:1<=n
 n3:n<=3
 rl:t.Ad.length=n
 cl:t.channels.length=n
 EU:∀ (j:Nat) (x:Am),t.Ad[j]? = some x->RInv F x
 row:∀ (i:Nat) (row:List Chan),t.channels[i]? = some row->row.length=n
 ch:∀ (i:Nat) (row:List Chan) (j:Nat) (c:Chan),t.channels[i]? = some row->row[j]? = some c->CJ F N M i c/\c.inbox=[]
theorem TI.mono{F:List A7}{M n:Nat}{t:Ak}(h:TI F N M n t)(hF:∀ g∈F,g∈F')(hN:N<=N')(hM:M<=M'):TI F' N' M' n t :=
 ⟨h.n1,h.n3,h.rl,h.cl,fun j x hx=>(h.EU j x hx).mono hF,h.row,fun i row j c h1 h2=>⟨(h.ch i row j c h1 h2).1.mono hF hN hM,(h.ch i row j c h1 h2).2⟩⟩
theorem TI.KO{F:List A7}{M n:Nat}{t:Ak}(h:TI F N M n t)(hN:N<=1000):YG t=true:=by
 have h1:=h.n1;have h3:=h.n3;unfold YG;simp only[Zc,decide_eq_true_eq,Zu];refine⟨Y8.2 (by rw[h.rl];omega),by rw[h.rl,h.cl],fun r hr=>?_,fun l hl=>?_⟩
 .obtain⟨j,hj⟩:=Y3.1 hr;exact(h.EU j r hj).fl
 .obtain⟨i,hi⟩:=Y3.1 hl;refine⟨by rw[h.row i l hi,h.rl],fun c hc=>?_⟩;obtain⟨j,hj⟩:=Y3.1 hc;exact(h.ch i l j c hi hj).1.chan hN
theorem TI.bulk{F:List A7}{M n:Nat}{t:Ak}(h:TI F N M n t):Xk t<=1048576:=by
 have h3:=h.n3
 have s1:=PX (b:=Am.bulk) (N:=20000) (l:=t.Ad) fun r hr=>by
  obtain⟨j,hj⟩:=Y3.1 hr;exact(h.EU j r hj).size
 have s2:=PX (b:=NE) (N:=60010) (l:=t.channels) fun l hl=>by
  obtain⟨i,hi⟩:=Y3.1 hl
  have s3:=PX (b:=Xb) (N:=20000) (l:=l) fun c hc=>by
   obtain⟨j,hj⟩:=Y3.1 hc;have:=h.ch i l j c hi hj;exact this.1.size this.2
  have h4:=h.row i l hi;unfold NE;rw[h4]at s3 ⊢;have h5:n*20000<=3*20000:=Nat.mul_le_mul_right _ h3;omega
 have h1:=h.rl;have h2:=h.cl;unfold Xk;rw[h1]at s1 ⊢;rw[h2]at s2 ⊢;omega
theorem TI.ok{F:List A7}{M n:Nat}{t:Ak}(h:TI F N M n t)(hN:N<=1000)(hM:M<=2000):Mq t:=by
 refine⟨fun r hr=>?_,fun l hl c hc=>?_⟩
 .obtain⟨j,hj⟩:=Y3.1 hr;exact(h.EU j r hj).ok
 .obtain⟨i,hi⟩:=Y3.1 hl;obtain⟨j,hj⟩:=Y3.1 hc;have:=h.ch i l j c hi hj;exact this.1.ok this.2 hN hM
theorem TI.at_{F:List A7}{M n:Nat}{t:Ak}(h:TI F N M n t){i:Nat}(hi:i<n)(hj:j<n):∃ row c,t.channels[i]? = some row/\row[j]? = some c/\CJ F N M i c/\c.inbox=[]:=by
 have h1:=h.cl;have e1:t.channels[i]? = some (t.channels[i]'o_):=Z4 _;have h2:=h.row i _ e1;have e2:(t.channels[i]'o_)[j]? = some ((t.channels[i]'o_)[j]'o_):=Z4 _;exact⟨_,_,e1,e2,h.ch i _ j _ e1 e2⟩
theorem TI.BJ{F:List A7}{M n:Nat}{t:Ak}(h:TI F N M n t)(hj:j<n):∃ x,t.Ad[j]? = some x/\RInv F x:=by
 have h1:=h.rl;have e1:t.Ad[j]? = some (t.Ad[j]'o_):=Z4 _;exact⟨_,e1,h.EU j _ e1⟩
theorem TI.WZ{F:List A7}{M n:Nat}{t:Ak}(h:TI F N M n t){x:Am}(hx:RInv F x):TI F N M n (Dz t j x):=by
 refine⟨h.n1,h.n3,by show(t.Ad.set j x).length=n;rw[List.length_set];exact h.rl,h.cl,fun k y hy=>?_,h.row,h.ch⟩;replace hy:(t.Ad.set j x)[k]? = some y:=hy;rw[List.getElem?_set]at hy;split at hy
 .split at hy
  .obtain rfl:=Z7 hy;exact hx
  .cases hy
 .exact h.EU k y hy
theorem TI.Z8{F:List A7}{M n:Nat}{t:Ak}(h:TI F N M n t){i:Nat}{c:Chan}(hc:CJ F N M i c)(hi0:c.inbox=[]):TI F N M n (XW t i j c):=by
 have key:∀ (k:Nat) (row:List Chan),(XW t i j c).channels[k]? = some row->∃ E6,t.channels[k]? = some E6/\(row=E6∨(k=i/\row=E6.set j c)):=fun k row hk=>by
  replace hk:(t.channels.set i ((Kh t i).set j c))[k]? = some row:=hk;rw[List.getElem?_set]at hk;split at hk
  .rename_i hik;split at hk
   .rename_i hlt;obtain rfl:=Z7 hk;subst hik;have e:=Z4 hlt;exact⟨_,e,.inr ⟨rfl,by rw[Qx e]⟩⟩
   .cases hk
  .exact⟨row,hk,.inl rfl⟩
 refine⟨h.n1,h.n3,h.rl,by show(t.channels.set i _).length=n;rw[List.length_set];exact h.cl,h.EU,fun k row hk=>?_,fun k row l d hk hl=>?_⟩
 .obtain⟨E6,h0,rfl |⟨rfl,rfl⟩⟩:=key k row hk
  .exact h.row k _ h0
  .rw[List.length_set];exact h.row k _ h0
 .obtain⟨E6,h0,rfl |⟨rfl,rfl⟩⟩:=key k row hk
  .exact h.ch k _ l d h0 hl
  .rw[List.getElem?_set]at hl;split at hl
   .split at hl
    .obtain rfl:=Z7 hl;exact⟨hc,hi0⟩
    .cases hl
   .exact h.ch k _ l d h0 hl
theorem UM{t:Ak}{n i:Nat}(hl:t.Ad.length=n)(hi:i<n):Gj t i=true:=by
 unfold Gj;rw[hl];exact Y8.2 o_
theorem Zcv{t:Ak}{i:Nat}{a b:Chan}{row:List Chan}(hi:t.channels[i]? = some row):XW (XW t i j a) i j b=XW t i j b:=by
 have h1:=Su (j:=j) (c:=a) hi;unfold XW at h1 ⊢;simp only at h1 ⊢;rw[Qx (t:=⟨t.Ad,_⟩) h1,Qx hi,List.set_set,List.set_set]
theorem TI.move{F:List A7}{M n:Nat}{t:Ak}(h:TI F N M n t){i:Nat}(hi:i<n)(hj:j<n)(hij:i≠j)(hN:N<=1000)(hM:M<=1000)(mv a:Int):TI F N (M+1) n (Iv t i j mv a):=by
 have hT:=h.KO hN;obtain⟨row,c,hr,hc,hC,hI⟩:=h.at_ hi hj;obtain⟨x,hx,hX⟩:=h.BJ hj;have hmv:=hC.move hN hM mv a;obtain⟨h1,h2⟩:=hmv.take;rw[vJ hT (UM h.rl hi) (UM h.rl hj) o_ hr hc,jS (t:=XW t i j (Xp c mv a)) (x:=x) hx,Zcv hr];have h0:=h.mono (F':=F) (N':=N) (M':=M+1) (fun g hg=>hg) (Zd _) o_;exact(h0.Z8 h1 rfl).WZ (RInv.recvs _ (hX.mono fun g hg=>hg) h2)
structure New(F:List A7)(f:A7):Prop where
 v:Zy f=true
 id_:∀ g∈F,g.id≠f.id
 len:F.length<=7
 nm:(Yk (F++[f])).length<10
theorem RInv.len{F:List A7}{x:Am}(h:RInv F x):x.Ab.length<=F.length:=by
 have hp:=UE _ _ (RY h.fl)
 have hn:(x.Ab.map (·.id)).Nodup:=by
  rw[List.nodup_iff_pairwise_ne,List.pairwise_map];exact hp.imp fun hab=>by omega
 have h1:=Ut (b:=F.map (·.id)) hn fun k hk=>by
  obtain⟨g,hg,rfl⟩:=ZB.1 hk;exact ZB.2 ⟨g,h.mem g hg,rfl⟩
 simpa using h1
theorem RInv.free{F:List A7}{x:Am}(h:RInv F x)(hf:New F f):(Qt x.Ab f).2=true:=by
 cases ha:(Qt x.Ab f).2 with
 |true=>rfl
 |false =>
  exfalso;rcases(qM h.fl hf.v).1 ha with h1|h1|h1
  .obtain⟨g,hg,he⟩:=Uu.1 h1;exact hf.id_ g (h.mem g hg) he
  .have:=h.len;have:=hf.len;omega
  .have h2:=ZcL (l:=J0 x.Ab f) (m:=F++[f]) fun g hg=>by
    rcases Jr.1 hg with rfl|hg
    .simp
    .simp[h.mem g hg]
   have:=hf.nm;omega
structure OJ(F:List A7)(N M n r j:Nat)(u0 u:Ak):Prop where
 rb:u.Ad=u0.Ad
 cl:u.channels.length=n
 row:∀ (i:Nat) (row:List Chan),u.channels[i]? = some row->row.length=n
 ch:∀ (i:Nat) (row:List Chan) (k:Nat) (c:Chan),u.channels[i]? = some row->row[k]? = some c->CJ F (if i=r/\k<j then N+1 else N) M i c/\c.inbox=[]
theorem OJ.run{F:List A7}{N M n r:Nat}{u0:Ak}{s:ByteArray}(h0:OJ F N M n r 0 u0 u0)(hN:N<=7)(hs:Dk F r s)(hr:r<n):∀ j,j<=n->∃ u,Fs r s j u0=some u/\OJ F N M n r j u0 u
 |0,_=>⟨u0,rfl,h0⟩
 |j+1,hj=>by
  obtain⟨u,hu,ho⟩:=OJ.run h0 hN hs hr j o_
  by_cases e:j=r
  .subst e
   refine⟨u,ZcH hu,ho.rb,ho.cl,ho.row,fun i row k c h1 h2=>?_⟩
   obtain⟨h3,h4⟩:=ho.ch i row k c h1 h2
   refine⟨h3.mono (fun g hg=>hg) ?_ (Zd _),h4⟩
   repeat(first|omega|split)
  .have e1:u.channels[r]? = some (u.channels[r]'(by have:=ho.cl;omega)):=Z4 _
   generalize (u.channels[r]'(by have:=ho.cl;omega))=row at e1
   have hl:=ho.row r row e1
   have e2:row[j]? = some (row[j]'o_):=Z4 _
   generalize (row[j]'o_)=c at e2
   obtain⟨hc,hi⟩:=ho.ch r row j c e1 e2
   rw[if_neg o_]at hc
   obtain⟨h1,h2,h3⟩:=hc.offer hN hs
   refine⟨_,ZfA hu e e1 e2 h1,ho.rb,?_,?_,?_⟩
   .show(u.channels.set r _).length=n
    rw[List.length_set];exact ho.cl
   .intro i ME hk
    replace hk:(u.channels.set r ((Kh u r).set j (Xj c s).1))[i]? = some ME:=hk
    rw[List.getElem?_set]at hk
    split at hk
    .split at hk
     .obtain rfl:=Z7 hk;rw[List.length_set,Qx e1];exact hl
     .cases hk
    .exact ho.row i ME hk
   .intro i ME k d hk hd
    replace hk:(u.channels.set r ((Kh u r).set j (Xj c s).1))[i]? = some ME:=hk
    rw[List.getElem?_set]at hk
    split at hk
    .rename_i hri
     subst hri
     split at hk
     .obtain rfl:=Z7 hk
      rw[Qx e1,List.getElem?_set]at hd
      split at hd
      .rename_i hjk
       subst hjk
       split at hd
       .obtain rfl:=Z7 hd
        rw[if_pos ⟨rfl,o_⟩]
        exact⟨h2,by rw[h3];exact hi⟩
       .cases hd
      .obtain⟨h5,h6⟩:=ho.ch r row k d e1 hd
       refine⟨h5.mono (fun g hg=>hg) ?_ (Zd _),h6⟩
       repeat(first|omega|split)
     .cases hk
    .obtain⟨h5,h6⟩:=ho.ch i ME k d hk hd
     refine⟨h5.mono (fun g hg=>hg) ?_ (Zd _),h6⟩
     repeat(first|omega|split)
theorem TI.meas{F:List A7}{M n:Nat}{t:Ak}(h:TI F N M n t){r:Nat}(hr:r<n)(hN:N<=7)(hf:New F f)(hrf:Yo f.id=r):
  ∃ u,Gv t r f=(u,true)/\TI (F++[f]) (N+1) M n u:=by
 have hT:=h.KO o_;have h3:=h.n3;obtain⟨x,hx,hX⟩:=h.BJ hr;have ha:=hX.free hf;have hs:∀ g∈F,g∈F++[f]:=fun g hg=>by simp[hg]
 obtain⟨h1,h2⟩:=hX.add hs s_ hf.v ha
 have h0:OJ (F++[f]) N M n r 0 (Dz t r ⟨(Qt x.Ab f).1,(EV x.Av ⟨false,0,f⟩).1⟩) (Dz t r ⟨(Qt x.Ab f).1,(EV x.Av ⟨false,0,f⟩).1⟩):=
  ⟨rfl,h.cl,h.row,fun i row k c e1 e2=>by
   obtain⟨h5,h6⟩:=h.ch i row k c e1 e2;rw[if_neg o_];exact⟨h5.mono hs (Zd _) (Zd _),h6⟩⟩
 obtain⟨u,hu,ho⟩:=OJ.run (s:=Qr ⟨r,[f]⟩) h0 hN ⟨f,s_,hf.v,hrf,o_,o_,rfl⟩ hr n (Zd _);refine⟨u,?_,h.n1,h.n3,?_,ho.cl,?_,ho.row,fun i row k c e1 e2=>?_⟩
 .rw[vO hT (UM h.rl hr) hrf hx,ha,h1,h.rl,hu];rfl
 .rw[ho.rb];show(t.Ad.set r _).length=n;rw[List.length_set];exact h.rl
 .intro k y hy;rw[ho.rb]at hy;replace hy:(t.Ad.set r ⟨(Qt x.Ab f).1,(EV x.Av ⟨false,0,f⟩).1⟩)[k]? = some y:=hy;rw[List.getElem?_set]at hy;split at hy
  .split at hy
   .obtain rfl:=Z7 hy;exact h2
   .cases hy
  .exact(h.EU k y hy).mono hs
 .obtain⟨h5,h6⟩:=ho.ch i row k c e1 e2;refine⟨h5.mono (fun g hg=>hg) ?_ (Zd _),h6⟩;repeat(first|omega|split)
theorem kH{α:Type}{n i:Nat}{a b:α}(h:(Zk n a)[i]? = some b):b=a:=by
 rw[List.getElem?_replicate]at h;split at h
 .exact(Z7 h).symm
 .cases h
theorem CJ.zero(i:Int):CJ [] 0 0 i OE:=⟨⟨[],[],0,Zd _,Zd _,⟨AO,AO,AO,rfl,AO,AO,rfl,by simp[OE],AO,by simp[OE],AO⟩,s_⟩,by simp[OE]⟩
theorem Zna{n:Nat}(h1:1<=n)(h3:n<=3):TI [] 0 0 n ⟨Zk n SE,Zk n (LV n)⟩:=by
 refine⟨h1,h3,s_,s_,fun j x hx=>?_,fun i row hi=>?_,fun i row j c hi hc=>?_⟩
 .obtain rfl:=kH hx;exact RInv.nil
 .obtain rfl:=kH hi;simp[LV]
 .obtain rfl:=kH hi;obtain rfl:=kH hc;exact⟨CJ.zero _,rfl⟩
def aA(F:List A7)(i:Int):List A7:=F.filter fun f=>decide (Yo f.id=i)
noncomputable def KP(F:List A7)(i:Int):List ByteArray:=(aA F i).map fun f=>Qr ⟨i,[f]⟩
theorem Zje{F:List A7}{i:Int}  :f∈aA F i↔f∈F/\Yo f.id=i:=by unfold aA;simp
theorem Zlb(F:List A7)(i:Int):(KP F i).length<=F.length:=by
 unfold KP aA;rw[Zo];exact List.length_filter_le _ _
structure GF(F:List A7):Prop where
 v:∀ f∈F,Zy f=true
 inj:∀ f∈F,∀ g∈F,f.id=g.id->f=g
 len:F.length<=8
 nm:(Yk F).length<10
theorem GF.has{F:List A7}{x:Am}(g:GF F)(h:RInv F x)(hf:f∈F)(ha:(Qt x.Ab f).2=false):f∈x.Ab:=by
 rcases(qM h.fl (g.v f hf)).1 ha with h1|h1|h1
 .obtain⟨k,hk,he⟩:=Uu.1 h1;rw[<- g.inj k (h.mem k hk) f hf he];exact hk
 .have:=h.len;have:=g.len;omega
 .exfalso
  have h2:=ZcL (l:=J0 x.Ab f) (m:=F) fun k hk=>by
   rcases Jr.1 hk with rfl|hk
   .exact hf
   .exact h.mem k hk
  have:=g.nm;omega
theorem GF.add{F:List A7}{x:Am}(g:GF F)(h:RInv F x)(hf:f∈F):f∈(Qt x.Ab f).1/\∀ k∈x.Ab,k∈(Qt x.Ab f).1:=by
 cases ha:(Qt x.Ab f).2 with
 |true =>
  obtain⟨e1,_,_⟩:=iN ha;rw[e1];exact⟨Jr.2 (.inl rfl),fun k hk=>Jr.2 (.inr hk)⟩
 |false =>
  have e:(Qt x.Ab f).1=x.Ab:=by
   unfold Qt at ha ⊢;split at ha
   .cases ha
   .rename_i hc;rw[if_neg hc]
  rw[e];exact⟨g.has h hf ha,fun k hk=>hk⟩
theorem Zfo{F:List A7}{x:Am}{i:Int}(h:RInv F x)(hv:Zy f=true)(hr:Yo f.id=i)(h0:0<=i)(h2:i<=2):(NM x (Qr ⟨i,[f]⟩)).Ab=(Qt x.Ab f).1:=by
 have hb:=WX hv hr h0 h2;have hp:=kF hb;rw[uG (by rw[hp]),hp];show(Qb x.Ab i [f]).1=_;rw[vR h.fl hb];cases ha:(Qt x.Ab f).2 with
 |true=>simp[Yr,ha]
 |false =>
  have e:(Qt x.Ab f).1=x.Ab:=by
   unfold Qt at ha ⊢;split at ha
   .cases ha
   .rename_i hc;rw[if_neg hc]
  simp[Yr,ha,e]
theorem GF.recvs{F:List A7}{i:Int}(g:GF F):∀ (l:List ByteArray) {x:Am},RInv F x->(∀ s∈l,Dk F i s)->(∀ k∈x.Ab,k∈(Fh x l).Ab)/\∀ f∈F,Yo f.id=i->Qr ⟨i,[f]⟩∈l->f∈(Fh x l).Ab
 |[],x,h,_=>⟨fun k hk=>hk,fun f _ _ h=>by simp at h⟩
 |s::l,x,h,hl=>by
  have hs:=hl s s_
  have ht:=hs
  obtain⟨f',hf',hv',hr',h0,h2,rfl⟩:=hs
  have e:=Zfo h hv' hr' h0 h2
  obtain⟨a1,a2⟩:=g.add h hf'
  obtain⟨b1,b2⟩:=GF.recvs g l (h.recv ht) (fun u hu=>hl u (by simp[hu]))
  refine⟨fun k hk=>b1 k (by rw[e];exact a2 k hk),fun f hf hr hm=>?_⟩
  rcases Zn.1 hm with hm|hm
  .have e2:=Zfo h (g.v f hf) hr h0 h2
   obtain⟨c1,_⟩:=g.add h hf
   refine b1 f ?_
   rw[<- hm,e2];exact c1
  .exact b2 f hf hr hm
structure SJ(F:List A7)(M n:Nat)(t:Ak):Prop where
 own:∀ f∈F,∀ (i:Nat) (x:Am),t.Ad[i]? = some x->Yo f.id=i->f∈x.Ab
 UN:∀ (i j:Nat) (x:Am),i<n->j<n->i≠j->t.Ad[j]? = some x->∃ got m,m<=M/\AM (KP F i) got m (DX t i j)/\∀ f∈F,Yo f.id=i->Qr ⟨i,[f]⟩∈got->f∈x.Ab
theorem OG{α:Type}{l:List α}{k:Nat}{x y z:α}(hx:l[j]? = some x)(h:(l.set j z)[k]? = some y):(k=j/\y=z)∨(k≠j/\l[k]? = some y):=by
 rw[List.getElem?_set]at h;split at h
 .rename_i e;split at h
  .exact .inl ⟨e.symm,(Z7 h).symm⟩
  .cases h
 .rename_i e;exact .inr ⟨fun hh=>e hh.symm,h⟩
theorem Zdi{t:Ak}{i:Nat}{row:List Chan}{c c0:Chan}(hr:t.channels[i]? = some row)(hc:row[j]? = some c0):DX (XW t i j c) i j=c :=
 X7 (Su hr) (by rw[List.getElem?_set_self (Za.1 hc).1])
theorem SJ.step{F:List A7}{M n:Nat}{t:Ak}(g:GF F)(hT:TI F N M n t)(h:SJ F M n t){i:Nat}(hi:i<n)(hj:j<n)(hij:i≠j){row:List Chan}{c0 c:Chan}{x:Am}(hr:t.channels[i]? = some row)(hc:row[j]? = some c0)(hx:t.Ad[j]? = some x)(hM:M<=M') 
  (hI:∀ want got m,m<=M->AM want got m c0->∃ m',m'<=M'/\AM want got m' c) (hin:∀ s∈c.inbox,Dk F i s):SJ F M' n (Dz (XW t i j (Xi c)) j (Fh x c.inbox)):=by
 obtain⟨m1,m2⟩:=GF.recvs g c.inbox (hT.EU j x hx) hin;refine⟨fun f hf k y hy hk=>?_,fun a b y ha hb hab hy=>?_⟩
 .replace hy:(t.Ad.set j (Fh x c.inbox))[k]? = some y:=hy;rcases OG hx hy with⟨rfl,rfl⟩|⟨_,hy⟩
  .exact m1 f (h.own f hf k x hx hk)
  .exact h.own f hf k y hy hk
 .replace hy:(t.Ad.set j (Fh x c.inbox))[b]? = some y:=hy;show ∃ got m,m<=M'/\AM (KP F a) got m (DX (XW t i j (Xi c)) a b)/\_;by_cases e:a=i/\b=j
  .obtain⟨rfl,rfl⟩:=e;rcases OG hx hy with⟨_,rfl⟩|⟨hne,_⟩
   .obtain⟨got,m,hm,hci,hg⟩:=h.UN a b x hi hj hij hx;rw[X7 hr hc]at hci;obtain⟨m',hm',hc'⟩:=hI _ _ _ hm hci;refine⟨got++c.inbox,m',hm',?_,fun f hf hrf hmem=>?_⟩
    .rw[Zdi hr hc];exact hc'.take
    .rcases Z9.1 hmem with h'|h'
     .exact m1 f (hg f hf hrf h')
     .exact m2 f hf hrf h'
   .exact absurd rfl hne
  .rw[kC hr e];rcases OG hx hy with⟨rfl,rfl⟩|⟨_,hy⟩
   .obtain⟨got,m,hm,hci,hg⟩:=h.UN a b x ha hb hab hx;exact⟨got,m,o_,hci,fun f hf hrf hmem=>m1 f (hg f hf hrf hmem)⟩
   .obtain⟨got,m,hm,hci,hg⟩:=h.UN a b y ha hb hab hy;exact⟨got,m,o_,hci,hg⟩
theorem SJ.move{F:List A7}{M n:Nat}{t:Ak}(g:GF F)(hT:TI F N M n t)(h:SJ F M n t){i:Nat}(hi:i<n)(hj:j<n)(hij:i≠j)(hN:N<=1000)(hM:M<=1000)(mv a:Int):SJ F (M+1) n (Iv t i j mv a):=by
 have vT:=hT.KO hN;obtain⟨row,c,hr,hc,hC,hI⟩:=hT.at_ hi hj;obtain⟨x,hx,hX⟩:=hT.BJ hj;have hmv:=hC.move hN hM mv a;have hch:=hC.chan hN;obtain⟨h1,h2⟩:=hmv.take;rw[vJ vT (UM hT.rl hi) (UM hT.rl hj) o_ hr hc,jS (t:=XW t i j (Xp c mv a)) (x:=x) hx,Zcv hr];refine h.step g hT hi hj hij hr hc hx o_ (fun want got m hm hci=>⟨m+1,o_,?_⟩) h2;unfold Xp;rw[if_pos hch];exact hci.move o_ mv a
structure Len(n:Nat)(t:Ak):Prop where
 cl:t.channels.length=n
 row:∀ (i:Nat) (row:List Chan),t.channels[i]? = some row->row.length=n
theorem Len.at_{n:Nat}{t:Ak}(h:Len n t){i:Nat}(hi:i<n)(hj:j<n):∃ row c,t.channels[i]? = some row/\row[j]? = some c:=by
 have h1:=h.cl;have e1:t.channels[i]? = some (t.channels[i]'o_):=Z4 _;have h2:=h.row i _ e1;exact⟨_,_,e1,Z4 o_⟩
theorem Len.set{n:Nat}{t:Ak}(h:Len n t)(i j:Nat)(c:Chan)(hi:i<n):Len n (XW t i j c):=by
 have h1:=h.cl;have e1:t.channels[i]? = some (t.channels[i]'o_):=Z4 _;have h2:=h.row i _ e1;refine⟨by show(t.channels.set i _).length=n;rw[List.length_set];exact h.cl,fun k row hk=>?_⟩;replace hk:(t.channels.set i ((Kh t i).set j c))[k]? = some row:=hk;rcases OG e1 hk with⟨rfl,rfl⟩|⟨_,hk⟩
 .rw[List.length_set,Qx e1];exact h2
 .exact h.row k row hk
theorem Znz{n r:Nat}{s:ByteArray}(hr:r<n):∀ (j:Nat),j<=n->∀ (t u:Ak),Len n t->Fs r s j t=some u->Len n u/\u.Ad=t.Ad/\∀ a b,DX u a b=if a=r/\b<j/\b≠r then Io (DX t a b) s else DX t a b
 |0,_,t,u,hL,h=>by
  rw[Zjd]at h
  obtain rfl:=Z7 h
  exact⟨hL,rfl,fun a b=>by rw[if_neg o_]⟩
 |j+1,hj,t,u,hL,h=>by
  rw[Fs]at h
  cases ho:Fs r s j t with
  |none=>rw[ho]at h;cases h
  |some v =>
   rw[ho]at h
   simp only at h
   obtain⟨q1,q2,q3⟩:=Znz hr j o_ t v hL ho
   split at h
   .rename_i e
    obtain rfl:=Z7 h
    refine⟨q1,q2,fun a b=>?_⟩
    rw[q3 a b]
    by_cases hc:a=r/\b<j/\b≠r
    .rw[if_pos hc,if_pos o_]
    .rw[if_neg hc,if_neg o_]
   .rename_i e
    split at h
    .rename_i hok
     obtain rfl:=Z7 h
     have hadd:(Xj (DX v r j) s).1=Io (DX v r j) s:=by
      unfold Xj at hok ⊢;split at hok
      .rename_i hc;rw[if_pos hc]
      .cases hok
     obtain⟨row,c,h1,h2⟩:=q1.at_ (i:=r) (j:=j) hr o_;refine⟨q1.set r j _ hr,q2,fun a b=>?_⟩;by_cases hab:a=r/\b=j
     .obtain⟨rfl,rfl⟩:=hab;rw[Zdi h1 h2,hadd,q3 a b,if_neg o_,if_pos o_]
     .rw[kC h1 hab,q3 a b];by_cases hc:a=r/\b<j/\b≠r
      .rw[if_pos hc,if_pos o_]
      .rw[if_neg hc,if_neg o_]
    .cases h
theorem Zik(F:List A7)(f:A7)(i:Int):KP (F++[f]) i=if Yo f.id=i then KP F i++[Qr ⟨i,[f]⟩]else KP F i:=by
 unfold KP aA;by_cases h:Yo f.id=i<;>simp[List.filter_append,h]
theorem ZhA{i:Int}{g:A7}(hf:Zy f=true)(hg:Zy g=true)(h1:Yo f.id=i)(h2:Yo g.id=i)(h0:0<=i)(h3:i<=2)(h:Qr ⟨i,[f]⟩=Qr ⟨i,[g]⟩):f=g:=by
 have e1:=kF (WX hf h1 h0 h3);have e2:=kF (WX hg h2 h0 h3);rw[h,e2]at e1;simp at e1;exact e1.symm
theorem SJ.meas{F:List A7}{M n:Nat}{t:Ak}(g:GF F)(hT:TI F N M n t)(h:SJ F M n t){r:Nat}(hr:r<n)(hN:N<=7)(hf:New F f)(hrf:Yo f.id=r)(hu:Gv t r f=(u,true)):SJ (F++[f]) M n u:=by
 have vT:=hT.KO o_;have h3:=hT.n3;obtain⟨x,hx,hX⟩:=hT.BJ hr;have ha:=hX.free hf;obtain⟨e1,e2,_⟩:=iN ha;have hfl:=hf.len;rw[vO vT (UM hT.rl hr) hrf hx]at hu;split at hu;rotate_left
 .cases hu
 rename_i hok;split at hu;rotate_left
 .cases hu
 rename_i v hv;obtain rfl:v=u:=(Prod.mk.inj hu).1;rw[hT.rl]at hv;obtain⟨q1,q2,q3⟩:=Znz hr n (Zd _) (Dz t r ⟨(Qt x.Ab f).1,(EV x.Av ⟨false,0,f⟩).1⟩) v (Len.mk hT.cl hT.row) hv;have q2:v.Ad=t.Ad.set r ⟨(Qt x.Ab f).1,(EV x.Av ⟨false,0,f⟩).1⟩:=q2;have q3:∀ a b,DX v a b=if a=r/\b<n/\b≠r then Io (DX t a b) (Qr ⟨r,[f]⟩)else DX t a b:=q3
 refine⟨fun k hk i y hy hki=>?_,fun a b y ha2 hb hab hy=>?_⟩
 .rw[q2]at hy;rcases OG hx hy with⟨rfl,rfl⟩|⟨hne,hy⟩
  .show k∈(Qt x.Ab f).1;rw[e1];rcases Z9.1 hk with hk|hk
   .exact Jr.2 (.inr (h.own k hk _ x hx hki))
   .exact Jr.2 (.inl (Zh.1 hk))
  .rcases Z9.1 hk with hk|hk
   .exact h.own k hk i y hy hki
   .rw[Zh.1 hk,hrf]at hki;exact absurd o_ hne
 .rw[q2]at hy;rw[q3,Zik];by_cases har:a=r
  .subst har;have WI:b≠a:=fun e=>hab e.symm
   rcases OG hx hy with⟨e,_⟩|⟨_,hy⟩
   .exact absurd e WI
   rw[if_pos hrf,if_pos ⟨rfl,hb,WI⟩];obtain⟨got,m,hm,hci,hg⟩:=h.UN a b y ha2 hb hab hy;have b1:=hci.bq;have b2:=hci.b0;have b3:=Zlb F a;refine⟨got,m,hm,hci.offer o_ _,fun k hk hkr hmem=>?_⟩;rcases Z9.1 hk with hk|hk
   .exact hg k hk hkr hmem
   .rw[Zh.1 hk]at hmem ⊢;have hw:Qr ⟨(a:Int),[f]⟩∈KP F a:=ZT (i:=(DX t a b).expected.toNat) (by rw[<- hci.NS];exact Z9.2 (.inl hmem));unfold KP at hw;obtain⟨f',hf',he⟩:=ZB.1 hw;obtain⟨aB,vU⟩:=Zje.1 hf';have:=ZhA (g.v f' aB) hf.v vU hrf o_ o_ he;exact absurd (by rw[this]) (hf.id_ f' aB)
  .rw[if_neg (show ¬ Yo f.id=(a:Int)by rw[hrf];omega),if_neg (show ¬(a=r/\b<n/\b≠r)by omega)]
   have key:∀ y0:Am,t.Ad[b]? = some y0->(∀ k∈y0.Ab,k∈y.Ab)->∃ got m,m<=M/\AM (KP F a) got m (DX t a b)/\∀ k∈F++[f],Yo k.id=a->Qr ⟨a,[k]⟩∈got->k∈y.Ab:=fun y0 hy0 hsub=>by
    obtain⟨got,m,hm,hci,hg⟩:=h.UN a b y0 ha2 hb hab hy0;refine⟨got,m,hm,hci,fun k hk hkr hmem=>?_⟩;rcases Z9.1 hk with hk|hk
    .exact hsub k (hg k hk hkr hmem)
    .rw[Zh.1 hk,hrf]at hkr;exact absurd o_ har
   rcases OG hx hy with⟨rfl,rfl⟩|⟨_,hy⟩
   .exact key x hx (fun k hk=>by show k∈(Qt x.Ab f).1;rw[e1];exact Jr.2 (.inr hk))
   .exact key y hy (fun k hk=>hk)
theorem Znc{n:Nat}  :SJ [] 0 n ⟨Zk n SE,Zk n (LV n)⟩:=by
 refine⟨s_,fun i j x hi hj hij hx=>⟨[],0,Zd _,?_,s_⟩⟩
 have e:DX ⟨Zk n SE,Zk n (LV n)⟩ i j=OE:=by
  refine X7 (row:=LV n) ?_ ?_
  .show(Zk n (LV n))[i]? = _;rw[List.getElem?_replicate,if_pos hi]
  .unfold LV;rw[List.getElem?_replicate,if_pos hj]
 rw[e,show KP [] (i:Int)=[]from rfl];exact⟨AO,AO,AO,rfl,AO,AO,rfl,by simp[OE],AO,by simp[OE],AO⟩
theorem Zaq:∀ (n:Nat) {c:Chan},c.Ai=[]->(Jl n c).Ai=[]
 |0,_,h=>h
 |n+1,c,_=>Zaq n (YO c).2
theorem CJ.calm{F:List A7}{M:Nat}{i:Int}{c:Chan}(h:CJ F N M i c)(hN:N<=1000):CJ F N M i (Qd c):=by
 have hc:=h.chan hN;obtain⟨⟨want,got,m,h1,h2,h3,h4⟩,ha⟩:=h;have e:Qd c=Jl 9 c:=by unfold Qd;rw[if_pos hc]
 refine⟨⟨want,got,m,h1,h2,by rw[e];exact h3.Kk 9,h4⟩,?_⟩;rw[e,show Jl 9 c=Jl 8 (FQ c)from rfl,Zaq 8 (YO c).2];simp
structure KJ(F:List A7)(N M n i j:Nat)(u:Ak):Prop where
 ti:TI F N M n u
 sj:SJ F M n u
 done:∀ (a b:Nat) (y:Am),a<n->b<n->a≠b->(a<i∨(a=i/\b<j))->u.Ad[b]? = some y->∀ f∈F,Yo f.id=a->f∈y.Ab
theorem KJ.pair{F:List A7}{M n i:Nat}(g:GF F)(h:KJ F N M n i j u)(hN:N<=1000)(hi:i<n)(hj:j<n):KJ F N M n i (j+1) (NN u (i,j)):=by
 by_cases hij:i=j
 .subst hij;rw[Zar];exact⟨h.ti,h.sj,fun a b y ha hb hab hlt hy=>h.done a b y ha hb hab o_ hy⟩
 obtain⟨row,c,hr,hc,hC,hI⟩:=h.ti.at_ hi hj;obtain⟨x,hx,hX⟩:=h.ti.BJ hj;have hch:=hC.chan hN;have hcm:=hC.calm hN;obtain⟨h1,h2⟩:=hcm.take;rw[vN hij hr hc,jS hx];have hsj:=h.sj.step g h.ti hi hj hij hr hc hx (Zd M) (c:=Qd c) (fun want got m hm hci=>⟨m,hm,by unfold Qd;rw[if_pos hch];exact hci.Kk 9⟩) h2;obtain⟨m1,m2⟩:=GF.recvs g (Qd c).inbox hX h2;refine⟨(h.ti.Z8 h1 rfl).WZ (RInv.recvs _ hX h2),hsj,fun a b y ha hb hab hlt hy f hf hrf=>?_⟩;replace hy:(u.Ad.set j (Fh x (Qd c).inbox))[b]? = some y:=hy;by_cases e:a=i/\b=j
 .obtain⟨rfl,rfl⟩:=e;rcases OG hx hy with⟨_,rfl⟩|⟨hne,_⟩
  .obtain⟨got,m,hm,hci,hg⟩:=h.sj.UN a b x hi hj hij hx;rw[X7 hr hc]at hci;have hall:=(hci.MF hch).2
   have hmem:Qr ⟨(a:Int),[f]⟩∈got++(Qd c).inbox:=by
    rw[hall];unfold KP;exact ZB.2 ⟨f,Zje.2 ⟨hf,hrf⟩,rfl⟩
   rcases Z9.1 hmem with h'|h'
   .exact m1 f (hg f hf hrf h')
   .exact m2 f hf hrf h'
  .exact absurd rfl hne
 .rcases OG hx hy with⟨rfl,rfl⟩|⟨_,hy⟩
  .exact m1 f (h.done a b x ha hb hab o_ hx f hf hrf)
  .exact h.done a b y ha hb hab o_ hy f hf hrf
theorem KJ.row{F:List A7}{N M n i:Nat}{u:Ak}(g:GF F)(hN:N<=1000)(hi:i<n)(h:KJ F N M n i 0 u):∀ j,j<=n->KJ F N M n i j (WW i j u)
 |0,_=>h
 |j+1,hj=>(KJ.row g hN hi h j o_).pair g hN hi o_
theorem KJ.all{F:List A7}{N M n:Nat}{u:Ak}(g:GF F)(hN:N<=1000)(h:KJ F N M n 0 0 u):∀ i,i<=n->KJ F N M n i 0 (PW n i u)
 |0,_=>h
 |i+1,hi=>by
  have h1:=KJ.row g hN o_ (KJ.all g hN h i o_) n (Zd _)
  exact⟨h1.ti,h1.sj,fun a b y ha hb hab hlt hy=>h1.done a b y ha hb hab o_ hy⟩
theorem Zo2:∀ {l m:List A7},l.Pairwise (fun f g=>f.id<g.id)->m.Pairwise (fun f g=>f.id<g.id)->(∀ f,f∈l↔f∈m)->l=m
 |[],[],_,_,_=>rfl
 |[],b::m,_,_,h=>by have:=(h b).2 s_;simp at this
 |a::l,[],_,_,h=>by have:=(h a).1 s_;simp at this
 |a::l,b::m,hl,hm,h=>by
  obtain⟨l1,l2⟩:=List.pairwise_cons.1 hl
  obtain⟨m1,m2⟩:=List.pairwise_cons.1 hm
  have e:a=b:=by
   rcases Zn.1 ((h a).1 s_)with e|e
   .exact e
   .rcases Zn.1 ((h b).2 s_)with e'|e'
    .exact e'.symm
    .have:=m1 a e;have:=l1 b e';omega
  subst e;rw[Zo2 l2 m2 fun f=>?_];constructor
  .intro hf;rcases Zn.1 ((h f).1 (by simp[hf]))with e|e
   .subst e;have:=l1 f hf;omega
   .exact e
  .intro hf;rcases Zn.1 ((h f).2 (by simp[hf]))with e|e
   .subst e;have:=m1 f hf;omega
   .exact e
theorem ZkD{F:List A7}{M n:Nat}{t:Ak}(g:GF F)(hid:∀ f∈F,0<=Yo f.id/\Yo f.id<n)(hN:N<=1000)(hT:TI F N M n t)(hS:SJ F M n t):
  TI F N M n (Gl t)/\∃ L:List A7,YW L=true/\(∀ f,f∈L↔f∈F)/\∀ (b:Nat) (y:Am),(Gl t).Ad[b]? = some y->y.Ab=L:=by
 have hk:=KJ.all g hN ⟨hT,hS,fun a b y ha hb hab hlt hy=>by omega⟩ n (Zd _);rw[Zdk (hT.KO hN) hT.rl];refine⟨hk.ti,?_⟩
 have hmem:∀ (b:Nat) (y:Am),(PW n n t).Ad[b]? = some y->∀ f,f∈y.Ab↔f∈F:=fun b y hy f=>by
  refine⟨fun hf=>(hk.ti.EU b y hy).mem f hf,fun hf=>?_⟩;obtain⟨h0,h1⟩:=hid f hf;have hb:b<n:=by rw[<- hk.ti.rl];exact(Za.1 hy).1
  by_cases e:(Yo f.id).toNat=b
  .exact hk.sj.own f hf b y hy o_
  .exact hk.done (Yo f.id).toNat b y o_ hb e (.inl o_) hy f hf o_
 obtain⟨x,hx,hX⟩:=hk.ti.BJ (j:=0) (by have:=hT.n1;omega);refine⟨x.Ab,hX.fl,hmem 0 x hx,fun b y hy=>?_⟩;have hY:=hk.ti.EU b y hy;exact Zo2 (UE _ _ (RY hY.fl)) (UE _ _ (RY hX.fl)) fun f=>(hmem b y hy f).trans (hmem 0 x hx f).symm
theorem Mr.aC(h:Mr f){x:Int}(h0:0<=x)(h1:x<=99999):Mr ⟨x,f.kind,f.AL,f.Z00,f.Af,f.Ao⟩:=by
 refine⟨?_,h.2⟩;have h2:=h.1;unfold Zy Mi at h2 ⊢;simp only[Zc]at h2 ⊢;exact⟨Y8.2 ⟨h0,h1⟩,h2.2⟩
structure He(n k:Nat)(F:List A7):Prop where
 len:F.length=k
 ok:∀ (j:Nat) (g:A7),F[j]? = some g->Mr g/\g.id=1000 *((j % n:Nat):Int)+j
theorem He.nil(n:Nat):He n 0 []:=⟨rfl,s_⟩
theorem He.same{n k:Nat}{F:List A7}(h:He n k F)(hk:k<=8)(hn:1<=n)(FX:n<=3){i:Nat}{g:A7}(hi:F[i]? = some f)(hj:F[j]? = some g)(e:f.id=g.id):i=j:=by
 have e1:=(h.ok i f hi).2;have e2:=(h.ok j g hj).2;have l1:=(Za.1 hi).1;have l2:=(Za.1 hj).1;have m1:=Nat.mod_lt i (show n > 0 by omega);have m2:=Nat.mod_lt j (show n > 0 by omega);have hl:=h.len;generalize i % n=a at *
 generalize j % n=b at *
 omega
theorem He.gf{n k:Nat}{F:List A7}(h:He n k F)(hk:k<=8)(hn:1<=n)(FX:n<=3):GF F:=by
 refine⟨fun f hf=>?_,fun f hf g hg e=>?_,by rw[h.len];exact hk,?_⟩
 .obtain⟨j,hj⟩:=Y3.1 hf;exact(h.ok j f hj).1.1
 .obtain⟨i,hi⟩:=Y3.1 hf;obtain⟨j,hj⟩:=Y3.1 hg;have:=h.same hk hn FX hi hj e;subst this;rw[hi]at hj;exact Z7 hj
 .have:=ZdI (l:=F) fun g hg=>by
   obtain⟨j,hj⟩:=Y3.1 hg;exact(h.ok j g hj).1
  omega
theorem Znt{a:Nat}(ha:a<3)(hj:j<1000):Yo (1000 *(a:Int)+j)=a:=by
 have hi:Be (1000 *(a:Int)+j) 0 2999=true:=Y8.2 o_;unfold Yo;rw[hi,if_pos rfl];omega
theorem He.EU{n k:Nat}{F:List A7}(h:He n k F)(hk:k<=8)(hn:1<=n)(FX:n<=3):∀ f∈F,0<=Yo f.id/\Yo f.id<n:=fun f hf=>by
 obtain⟨j,hj⟩:=Y3.1 hf
 have l1:=(Za.1 hj).1
 have hl:=h.len
 have m1:=Nat.mod_lt j (show n > 0 by omega)
 rw[(h.ok j f hj).2,Znt o_ o_]
 omega
theorem He.new{n k:Nat}{F:List A7}(h:He n k F)(hf:Mr f)(hk:k<=7)(hn:1<=n)(FX:n<=3)(hid:f.id=1000 *((k % n:Nat):Int)+k):New F f/\He n (k+1) (F++[f]):=by
 have hl:=h.len
 have h2:He n (k+1) (F++[f]):=⟨by simp[h.len],fun j g hg=>by
  rw[List.getElem?_append]at hg;split at hg
  .exact h.ok j g hg
  .rename_i hj
   have:j=k:=by
    have:=(Za.1 hg).1;simp at this;omega
   subst this;rw[hl,Nat.sub_self]at hg;obtain rfl:f=g:=by simpa using hg
   exact⟨hf,hid⟩⟩
 refine⟨⟨hf.1,fun g hg e=>?_,o_,(h2.gf o_ hn FX).nm⟩,h2⟩;obtain⟨j,hj⟩:=Y3.1 hg;have l1:=(Za.1 hj).1;have e1:(F++[f])[j]? = some g:=by rw[List.getElem?_append_left l1];exact hj
 have e2:(F++[f])[k]? = some f:=by rw[List.getElem?_append_right o_,hl,Nat.sub_self];rfl
 have:=h2.same o_ hn FX e1 e2 e;omega
theorem Zqt{n k:Nat}{F:List A7}{t:Ak}(hn2:2<=n)(FX:n<=3)(hk:k<=7)(hF:He n k F)(hT:TI F k k n t)(hS:SJ F k n t)(hf:Mr f)(hid:f.id=1000 *((k % n:Nat):Int)+k):
  Xk t<=1048576/\Mq t/\Ib [f]<=2097152/\okF [f]/\He n (k+1) (F++[f])/\
  ∃ u,Gv t ((k % n:Nat):Int) f=(u,true)/\Xk u<=1048576/\Mq u /\
  ∀ mv a:Int,TI (F++[f]) (k+1) (k+1) n (Iv u ((k % n:Nat):Int) (((k+1) % n:Nat):Int) mv a)/\SJ (F++[f]) (k+1) n (Iv u ((k % n:Nat):Int) (((k+1) % n:Nat):Int) mv a):=by
 obtain⟨hN,hP⟩:=hF.new hf hk o_ FX hid;have m1:=Nat.mod_lt k (show n > 0 by omega);have m2:=Nat.mod_lt (k+1) (show n > 0 by omega)
 have hne:k % n≠(k+1) % n:=by
  intro e;have h1:=Nat.div_add_mod k n;have h2:=Nat.div_add_mod (k+1) n;rcases(show n=2∨n=3 by omega)with rfl|rfl<;>omega
 have hr:Yo f.id=((k % n:Nat):Int):=by rw[hid];exact Znt o_ o_
 have g:=hF.gf o_ o_ FX;have g':=hP.gf o_ o_ FX;obtain⟨u,hu,hU⟩:=hT.meas m1 o_ hN hr;have hSu:=hS.meas g hT m1 o_ hN hr hu;have he:=Zde (kD hf.1);refine⟨hT.bulk,hT.ok o_ o_,?_,?_,hP,u,hu,hU.bulk,hU.ok o_ o_,fun mv a=>⟨?_,?_⟩⟩
 .have:=he.2.2.2;have h2:(⟨false,0,f⟩:Entry).Bv.bulk=f.bulk:=rfl;simp only[Ib,Y9,Zt,List.length_nil];omega
 .intro x hx;simp only[Zh]at hx;subst hx;exact he.2.1
 .exact hU.move m1 m2 hne o_ o_ mv a
 .exact hSu.move g' hU m1 m2 hne o_ o_ mv a
theorem ZpU(h:YW L=true)(hf:f∈L):(Qt L f).1=L:=by
 have ha:(Qt L f).2=false:=(qM h ((UK h).1 f hf)).2 (.inl (Uu.2 ⟨f,hf,rfl⟩));unfold Qt at ha ⊢;split at ha
 .cases ha
 .rename_i hc;rw[if_neg hc]
theorem Zdq{L:List A7}(h:YW L=true):∀ (m:List A7),(∀ f∈m,f∈L)->Mj L m=L
 |[],_=>rfl
 |f::m,hm=>by
  unfold Mj
  rw[List.foldl_cons,ZpU h (hm f s_)]
  exact Zdq h m fun g hg=>hm g (by simp[hg])
theorem Zkb{L:List A7}(h:YW L=true):∀ (rs:List Am),(∀ r∈rs,r.Ab=L)->rs.foldl (fun l r=>Mj l r.Ab) L=L
 |[],_=>rfl
 |r::rs,hr=>by
  rw[List.foldl_cons,hr r s_,Zdq h L fun f hf=>hf]
  exact Zkb h rs fun s hs=>hr s (by simp[hs])
theorem ZkC{n k:Nat}{F:List A7}{t:Ak}(hn2:2<=n)(FX:n<=3)(hk:k<=8)(hF:He n k F)(hT:TI F k k n t)(hS:SJ F k n t):
  ∃ L:List A7,YW L=true/\L.length=k/\TI F k k n (Gl t)/\Js (Gl t)=true/\Oe (Gl t)=L/\∀ (b:Nat) (y:Am),(Gl t).Ad[b]? = some y->y.Ab=L:=by
 have g:=hF.gf hk o_ FX;obtain⟨h1,L,hL,hm,hall⟩:=ZkD g (hF.EU hk o_ FX) o_ hT hS;have PY:=h1.KO o_
 have OH:∀ r∈(Gl t).Ad,r.Ab=L:=fun r hr=>by
  obtain⟨b,hb⟩:=Y3.1 hr;exact hall b r hb
 have nd1:(L.map (·.id)).Nodup:=by
  rw[List.nodup_iff_pairwise_ne,List.pairwise_map];exact(UE _ _ (RY hL)).imp fun hab=>by omega
 have nd2:(F.map (·.id)).Nodup:=by
  rw[List.nodup_iff_pairwise_ne,List.pairwise_map,List.pairwise_iff_getElem];intro i j hi hj hij e;have:=hF.same hk o_ FX (Z4 hi) (Z4 hj) e;omega
 have l1:=Ut (b:=F.map (·.id)) nd1 fun x hx=>by
  obtain⟨f,hf,rfl⟩:=ZB.1 hx;exact ZB.2 ⟨f,(hm f).1 hf,rfl⟩
 have l2:=Ut (b:=L.map (·.id)) nd2 fun x hx=>by
  obtain⟨f,hf,rfl⟩:=ZB.1 hx;exact ZB.2 ⟨f,(hm f).2 hf,rfl⟩
 rw[Zo,Zo]at l1 l2;refine⟨L,hL,by have:=hF.len;omega,h1,?_,?_,hall⟩
 .unfold Js;rw[PY,Bool.true_and,Zu];intro r hr;rw[OH r hr];cases hrs:(Gl t).Ad with
  |nil=>rfl
  |cons r0 rs =>
   simp only;rw[OH r0 (by rw[hrs];simp)];exact kI L
 .cases hrs:(Gl t).Ad with
  |nil=>have:=h1.rl;rw[hrs]at this;simp at this;omega
  |cons r0 rs =>
   rw[Z64 PY hrs,OH r0 (by rw[hrs];simp)];exact Zkb hL rs fun r hr=>OH r (by rw[hrs];simp[hr])
end Go.Proofs.YtcnbphnnfmphlaaGreatDoor
