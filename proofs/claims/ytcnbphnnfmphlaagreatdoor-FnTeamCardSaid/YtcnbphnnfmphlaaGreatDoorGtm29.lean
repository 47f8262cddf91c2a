/- Texts of this proof. -/
import Derived.Test.YtcnbphnnfmphlaaGreatDoorGtm28
namespace Go.Proofs.YtcnbphnnfmphlaaGreatDoor
open Bool renaming and_eq_true → Zc
open Int renaming eq_ofNat_of_zero_le → Zl
open _root_.List renaming getElem?_eq_getElem → Z4,mem_of_getElem? → Z6,mem_append → Z9,getElem?_eq_some_iff → Za,replicate → Zk,mem_cons → Zn,length_map → Zo,take_of_length_le → Zp,length_append → Zq,length_cons → Zt,all_eq_true → Zu,getElem?_cons_zero → Zw,mem_map → ZB,length_take → ZC,getElem?_cons_succ → ZD,mem_of_mem_drop → ZG,getElem?_map → ZH,length_drop → ZK,getElem_of_mem → ZM,eq_nil_of_length_eq_zero → ZN,mem_of_mem_take → ZT,mem_or_eq_of_mem_set → ZW
open Nat renaming le_refl → Zd,lt_of_lt_of_le → Zf,le_trans → Zj
open Option.some renaming inj → Z7,injEq → Zi
open Go.RowKit
set_option linter.unusedVariables false
set_option linter.unusedSimpArgs false
set_option maxHeartbeats 1000000
set_option maxRecDepth 100000
variable{σ σ' σ1:AS}{r0:AV}{ag ns:Bool}{b':AY}{f:FuncId}{ds raw zs:List AV}{vs:List Value}{m':Mem}{B off:Nat}{C6:Option Nat}{P:Program}{w':World}
section
variable{P:Program}{U:Nat->Prop}{st:Nat}{σ:AS}{m:Mem}{a:Act}{w:World}{o:Oper}
theorem TB{T:TypeId}(h:0<AB P T)(w:World):(sizeOf T).run P w=.ok (AB P T) w:=by
 unfold AB at h ⊢;cases hi:P.info? T with
 |none=>rw[hi]at h;simp at h
 |some i=>simp[sizeOf,typeInfo,hi]
theorem Zf7{T:TypeId}(h:0<AB P T):(P.info? T).map (·.size)=some (AB P T):=by
 unfold AB at h ⊢;cases hi:P.info? T with
 |none=>rw[hi]at h;simp at h
 |some i=>rfl
theorem Vd{T E:TypeId}(h:E4 P T=some E):P.underlying T=some (.slice E):=by
 unfold E4 at h;split at h
 .rename_i k' hk;rw[hk,Z7 h]
 .cases h
theorem Zf9{T:TypeId}(h:JZ P T=some true):∃ d,P.underlying T=some d/\d.isRow=true:=by
 unfold JZ at h;split at h
 .rename_i fs hk;exact⟨_,hk,rfl⟩
 .rename_i n e hk;exact⟨_,hk,rfl⟩
 .cases h
 .cases h
theorem Zix{T:TypeId}(h:JZ P T=some false)(w:World):(isAgg T).run P w=.ok false w:=by
 unfold JZ at h;split at h
 .cases h
 .cases h
 .rename_i d h1 h2 hk;unfold isAgg;rw[Sem.run_bind,run_underlying hk w];cases d<;>simp_all
 .cases h
theorem zH(g off:Nat)(T:TypeId)(ag:Bool)(hg:JZ P T=some ag)(h0:0<AB P T)(h1:ag=true∨AB P T=1)(vs:List Value)(hl:AB P T<=vs.length)(hc:∀ (j:Nat) x,vs[j]? = some x->w.cell? ⟨g,off+j,none⟩=some x):
  (Instr.loadAt T (.pointer (some ⟨g,off,none⟩))).run P w=.ok (if ag then .agg (vs.take (AB P T)).toArray else vs.headD undef) w:=by
 cases ag with
 |true =>
  obtain⟨d,hu,hd⟩:=Zf9 hg
  exact run_loadAt_mid w g off T (vs.take (AB P T)) d (fun j v hv=>by
   rw[List.getElem?_take]at hv;split at hv
   .exact hc j v hv
   .cases hv) hu hd (by rw[Zf7 h0,ZC,Nat.min_eq_left hl])
 |false =>
  have h1:AB P T=1:=by simpa using h1
  rw[h1]at hl;cases vs with
  |nil=>simp at hl
  |cons v r =>
   have hv:=hc 0 v rfl;simp only[Instr.loadAt,Instr.sureAddr,Sem.run_bind,Sem.run_pure,Result.andThen_ok,loadVar,Zix hg,Bool.false_eq_true,if_false];have:(load ⟨g,off,none⟩).run P w=.ok v w:=by simp[go_sem,show w.cell? ⟨g,off,none⟩=some v from hv]
   simpa using this
theorem mQ{m:Mem}{w:World}{n:Nat}(r:BF m w vs ds)(h0:0<n)(hl:n<=ds.length):XQ m w (if ag then .agg (vs.take n).toArray else vs.headD undef) (NV ag n ds):=by
 cases ag with
 |true=>exact⟨_,rfl,r.take n⟩
 |false =>
  cases vs with
  |nil=>have:=r.len;simp at this;omega
  |cons v rv=>cases ds with
   |nil=>simp at hl;omega
   |cons d rd=>exact P5 (r.at_ 0 v d rfl rfl)
theorem zI{n:Nat}(hu:∀ d∈ds,Bu U d)(hc:∀ d∈ds,KY d=true):okV U (NV ag n ds):=by
 cases ag with
 |true=>exact fun c hc=>hu c (ZT hc)
 |false=>cases ds with
  |nil=>trivial
  |cons d r=>exact Zsp (hu d s_) (hc d s_)
theorem ZlB{v:Value}{d:AV}(h:BB m w v d):KY d=true:=by
 cases d<;>first|rfl |(cases (show Au (m.R w) w v _ from h))
theorem BF.KY(r:BF m w vs ds):∀ d∈ds,KY d=true:=fun d hd=>by
 obtain⟨j,hj,rfl⟩:=ZM hd
 exact ZlB (r.at_ j (vs[j]'(by rw[r.len];exact hj)) _ (Z4 _) (Z4 hj))
theorem DU.at_{id:Nat}{b:AY}(h:DU U m w id b){i:Nat}(hi:b.els[i]? = some ds):∃ g vs,(m.loc id).1=some ⟨g,0,none⟩/\g<w.heap.size/\vs.length=b.sz/\BF m w vs ds/\(∀ (j:Nat) x,vs[j]? = some x->w.cell? ⟨g,i*b.sz+j,none⟩=some x)/\(b.pl=true->∀ (j:Nat) v d,vs[j]? = some v->ds[j]? = some d->Au (m.R w) w v d):=by
 obtain⟨css,ho,hr⟩:=h.own;have hin:=(Za.1 hi).1;have hcs:css[i]? = some (css[i]'(by rw[ho.len];exact hin)):=Z4 _;obtain⟨hl,hrep,hpl⟩:=hr i _ _ hcs hi;rcases ho.cases with⟨_,h0,_⟩|⟨g,hA,hB,hg,_⟩
 .omega
 .refine⟨g,_,hA,hg,ho.each _ (Z6 hcs),hrep,fun j x hx=>?_,hpl⟩;obtain⟨g2,off,hA2,hc⟩:=ho.row.2 i _ hcs;rw[hA]at hA2
  have e1:g=g2/\off=0:=by
   simp only[Zi,Addr.mk.injEq,and_true]at hA2;exact⟨hA2.1,hA2.2.symm⟩
  obtain⟨rfl,rfl⟩:=e1;have:=hc j x hx;rwa [Nat.zero_add]at this
theorem ZlM(hs:B5 U σ m a w)(hd:∀ t,o.dst=some t->t<σ.n)(T:TypeId)(x:Operand)(ho:o.op=.load T x)(ag:Bool)(hg:JZ P T=some ag)(id s i off:Nat)(hx:Az σ.env x=.ptr id s i off)(b:AY)(hb:σ.box id=some b)(cs:List AV)(hi:b.els[i]? = some cs)(hst:b.st=s)(h0:0<AB P T)(hl:off+AB P T<=cs.length)(h1:ag=true∨AB P T=1):
  AJ P o U st σ m a w ⟨NV ag (AB P T) (cs.drop off),none,[id],[],true,[],[]⟩:=by
 obtain⟨r,_⟩:=hs.Az x;rw[hx]at r;obtain⟨g,hA,e⟩:=r b (by rw[hs.bx];exact hb) hst;have hB:=hs.boxes id b hb;obtain⟨g2,vs,hA2,hg2,hlen,hrep,hc,_⟩:=hB.at_ hi;rw[hA]at hA2;have eg:g=g2:=by simpa using hA2
 subst eg;have hvl:=hrep.len;refine AJ.val hs hd (v:=if ag then .agg ((vs.drop off).take (AB P T)).toArray else (vs.drop off).headD undef) ?_ (mQ (hrep.drop off) h0 (by rw[ZK];omega)) (zI (fun d hd=>hB.ok cs (Z6 hi) d (ZG hd)) (hrep.drop off).KY)
 have:=zH (P:=P) (w:=w) g (i*b.sz+off) T ag hg h0 h1 (vs.drop off) (by rw[ZK];omega) (fun j x hx=>by
  rw[List.getElem?_drop]at hx;have:=hc _ x hx;rwa [<- Nat.add_assoc]at this)
 unfold execOp;simp only[ho,e,Sem.run_bind,this,Result.andThen_ok,Sem.run_pure]
theorem ZlL(hs:B5 U σ m a w)(hd:∀ t,o.dst=some t->t<σ.n)(T:TypeId)(x:Operand)(ho:o.op=.load T x)(ag:Bool)(hg:JZ P T=some ag)(cs:List AV)(off:Nat)(hx:Az σ.env x=.pe cs off)(h0:0<AB P T)(hl:off+AB P T<=cs.length)(h1:ag=true∨AB P T=1):
  AJ P o U st σ m a w ⟨NV ag (AB P T) (cs.drop off),none,[],[],true,[],[]⟩:=by
 obtain⟨r,_⟩:=hs.Az x;rw[hx]at r;obtain⟨g,base,vs,e,_,hc,hlen,hr⟩:=r;have hrep:BF m w vs cs:=⟨hlen,fun j v d a b=>JH (hr j v d a b)⟩
 have hok:∀ d∈cs,Bu U d:=fun d Ve=>by
  obtain⟨j,hj,rfl⟩:=ZM Ve;exact mM (hr j (vs[j]'(by rw[hlen];exact hj)) _ (Z4 _) (Z4 hj))
 refine AJ.val hs hd (v:=if ag then .agg ((vs.drop off).take (AB P T)).toArray else (vs.drop off).headD undef) ?_ (mQ (hrep.drop off) h0 (by rw[ZK];omega)) (zI (fun d hd=>hok d (ZG hd)) (hrep.drop off).KY)
 have:=zH (P:=P) (w:=w) g (base+off) T ag hg h0 h1 (vs.drop off) (by rw[ZK];omega) (fun j x hx=>by
  rw[List.getElem?_drop]at hx;have:=hc _ x hx;rwa [<- Nat.add_assoc]at this)
 unfold execOp;simp only[ho,e,Sem.run_bind,this,Result.andThen_ok,Sem.run_pure]
theorem Zno{T:TypeId}{f fo fs:Nat}(h:Du P T f=some (fo,fs))(h0:fs≠0)(g off:Nat)(w:World):(Instr.fieldAt T (.pointer (some ⟨g,off,none⟩)) f).run P w=.ok (.pointer (some ⟨g,off+fo,none⟩)) w:=by
 unfold Du at h;split at h
 .rename_i fs' hu;cases hf:fs'[f]? with
  |none=>rw[hf]at h;simp at h
  |some x =>
   rw[hf]at h;simp only[Option.map_some,Zi,Prod.mk.injEq]at h;obtain⟨rfl,rfl⟩:=h;have hs:=TB (P:=P) (T:=x.type) o_ w;simp[Instr.fieldAt,run_underlying hu,hf,Instr.sureAddr,fieldPlace,hs,h0,Addr.add_mid]
 .cases h
theorem Zj7(hs:B5 U σ m a w)(hd:∀ t,o.dst=some t->t<σ.n)(T:TypeId)(x:Operand)(f:Nat)(ho:o.op=.fieldAddr T x f)(fo fs:Nat)(hf:Du P T f=some (fo,fs))(id s i off:Nat)(hx:Az σ.env x=.ptr id s i off)(b:AY)(hb:σ.box id=some b)(hst:b.st=s)(h0:fs≠0):
  AJ P o U st σ m a w ⟨.ptr id s i (off+fo),none,[],[id],true,[],[]⟩:=by
 obtain⟨r,hu⟩:=hs.Az x;rw[hx]at r hu;obtain⟨g,hA,e⟩:=r b (by rw[hs.bx];exact hb) hst;refine AJ.val hs hd (v:=.pointer (some ⟨g,i*b.sz+(off+fo),none⟩)) ?_ ?_ hu
 .unfold execOp;simp only[ho,e,Sem.run_bind,Zno hf h0,Result.andThen_ok,Sem.run_pure,Nat.add_assoc]
 .intro b' hb' _;rw[hs.bx,hb]at hb';obtain rfl:=Z7 hb';exact⟨g,hA,rfl⟩
theorem Zj6(hs:B5 U σ m a w)(hd:∀ t,o.dst=some t->t<σ.n)(T:TypeId)(x:Operand)(f:Nat)(ho:o.op=.fieldAddr T x f)(fo fs:Nat)(hf:Du P T f=some (fo,fs))(cs:List AV)(off:Nat)(hx:Az σ.env x=.pe cs off)(h0:fs≠0):
  AJ P o U st σ m a w ⟨.pe cs (off+fo),none,[],[],true,[],[]⟩:=by
 obtain⟨r,hu⟩:=hs.Az x;rw[hx]at r hu;obtain⟨g,base,vs,e,h2⟩:=r;refine AJ.val hs hd (v:=.pointer (some ⟨g,base+(off+fo),none⟩)) ?_ ⟨g,base,vs,rfl,h2⟩ trivial;unfold execOp;simp only[ho,e,Sem.run_bind,Zno hf h0,Result.andThen_ok,Sem.run_pure,Nat.add_assoc]
theorem ZiF{T E:TypeId}(hE:E4 P T=some E)(h0:0<AB P E)(g off n c:Nat)(k:IntKind)(i:Int)(hi:0<=i)(hn:i.toNat<n)(w:World):(Instr.indexAt T (.slice (some ⟨g,off,none⟩) n c) (.int k i)).run P w=.ok (.pointer (some ⟨g,off+i.toNat*AB P E,none⟩)) w:=by
 have h1:i <(n:Int):=by omega
 simp[Instr.indexAt,asIntOf,run_underlying (Vd hE),TB h0,hi,h1,Addr.add_mid]
theorem Zj4(hs:B5 U σ m a w)(hd:∀ t,o.dst=some t->t<σ.n)(T:TypeId)(x ix:Operand)(ho:o.op=.indexAddr T x ix)(E:TypeId)(hE:E4 P T=some E)(k:IntKind)(n:Int)(hix:Az σ.env ix=.int k n)(ns:Bool)(E':TypeId)(sz:Nat)(els:List (List AV))(hx:Az σ.env x=.sl ns E' sz els)(cs:List AV)(hi:els[n.toNat]? = some cs)(hn:0<=n)(hsz:AB P E=sz)(h0:0<sz):
  AJ P o U st σ m a w ⟨.pe cs 0,none,[],[],true,[],[]⟩:=by
 obtain⟨r,_⟩:=hs.Az x;obtain⟨ri,_⟩:=hs.Az ix;rw[hx]at r;rw[hix]at ri;have ei:=Q4 ri;obtain⟨A,l,c,css,e,hS,_,hr⟩:=Va r;have hlen:=hS.lens;have hin:=(Za.1 hi).1;have hcs:css[n.toNat]? = some (css[n.toNat]'(by rw[hS.len];exact hin)):=Z4 _;obtain⟨g,off,hA,hc⟩:=hS.row.2 _ _ hcs;obtain⟨hl1,hl2⟩:=hS.each _ _ _ hcs hi;subst hA;refine AJ.val hs hd (v:=.pointer (some ⟨g,off+n.toNat*sz,none⟩)) ?_ ⟨g,off+n.toNat*sz,_,rfl,(hS.blk _ rfl).1,hc,o_,fun j x d a b=>hr _ j _ _ x d hcs hi a b⟩ trivial;unfold execOp;simp only[ho,e,ei,Sem.run_bind,ZiF (P:=P) hE o_ g off l c k n hn o_,Result.andThen_ok,Sem.run_pure,hsz]
theorem Zj5(hs:B5 U σ m a w)(hd:∀ t,o.dst=some t->t<σ.n)(T:TypeId)(x ix:Operand)(ho:o.op=.indexAddr T x ix)(E:TypeId)(hE:E4 P T=some E)(k:IntKind)(n:Int)(hix:Az σ.env ix=.int k n)(id s:Nat)(hx:Az σ.env x=.vw id s)(b:AY)(hb:σ.box id=some b)(hst:b.st=s)(hn:0<=n)(hi:n.toNat<b.els.length)(hsz:AB P E=b.sz)(h0:0<b.sz):
  AJ P o U st σ m a w ⟨.ptr id s n.toNat 0,none,[],[id],true,[],[]⟩:=by
 obtain⟨r,hu⟩:=hs.Az x;obtain⟨ri,_⟩:=hs.Az ix;rw[hx]at r hu;rw[hix]at ri;have ei:=Q4 ri;obtain⟨_,r2⟩:=r;have e:=r2 b (by rw[hs.bx];exact hb) hst;obtain⟨g,vs,hA,_⟩:=(hs.boxes id b hb).at_ (Z4 hi);rw[hA]at e;refine AJ.val hs hd (v:=.pointer (some ⟨g,n.toNat*b.sz+0,none⟩)) ?_ ?_ hu
 .unfold execOp;simp only[ho,e,ei,Sem.run_bind,ZiF (P:=P) hE o_ g 0 b.els.length _ k n hn hi,Result.andThen_ok,Sem.run_pure,hsz,Nat.zero_add,Nat.add_zero]
 .intro b' hb' _;rw[hs.bx,hb]at hb';obtain rfl:=Z7 hb';exact⟨g,hA,rfl⟩
theorem Znp{T E:TypeId}{n:Nat}(h:Fz P T=some (n,E)):P.underlying T=some (.array n E):=by
 unfold Fz at h;split at h
 .rename_i k e hk;obtain⟨rfl,rfl⟩:=Prod.mk.inj (Z7 h);exact hk
 .cases h
theorem Znm{T:TypeId}(h:Rn P T=true):P.underlying T=some .string:=by
 unfold Rn at h;split at h
 .rename_i hk;exact hk
 .cases h
theorem Zff{T E:TypeId}{len:Nat}(hE:Fz P T=some (len,E))(h0:0<AB P E)(g off:Nat)(k:IntKind)(i:Int)(hi:0<=i)(hn:i<len)(w:World):(Instr.indexAt T (.pointer (some ⟨g,off,none⟩)) (.int k i)).run P w=.ok (.pointer (some ⟨g,off+i.toNat*AB P E,none⟩)) w:=by
 simp[Instr.indexAt,asIntOf,run_underlying (Znp hE),Instr.sureAddr,TB h0,hi,hn,Addr.add_mid]
theorem Zh5(hs:B5 U σ m a w)(hd:∀ t,o.dst=some t->t<σ.n)(T:TypeId)(x ix:Operand)(ho:o.op=.indexAddr T x ix)(len:Nat)(E:TypeId)(hE:Fz P T=some (len,E))(k:IntKind)(n:Int)(hix:Az σ.env ix=.int k n)(id s i off:Nat)(hx:Az σ.env x=.ptr id s i off)(b:AY)(hb:σ.box id=some b)(hst:b.st=s)(hn:0<=n)(hi:n<len)(h0:0<AB P E):
  AJ P o U st σ m a w ⟨.ptr id s i (off+n.toNat*AB P E),none,[],[id],true,[],[]⟩:=by
 obtain⟨r,hu⟩:=hs.Az x;obtain⟨ri,_⟩:=hs.Az ix;rw[hx]at r hu;rw[hix]at ri;have ei:=Q4 ri;obtain⟨g,hA,e⟩:=r b (by rw[hs.bx];exact hb) hst;refine AJ.val hs hd (v:=.pointer (some ⟨g,i*b.sz+(off+n.toNat*AB P E),none⟩)) ?_ ?_ hu
 .unfold execOp;simp only[ho,e,ei,Sem.run_bind,Zff hE h0 g _ k n hn hi,Result.andThen_ok,Sem.run_pure,Nat.add_assoc]
 .intro b' hb' _;rw[hs.bx,hb]at hb';obtain rfl:=Z7 hb';exact⟨g,hA,rfl⟩
theorem Zh4(hs:B5 U σ m a w)(hd:∀ t,o.dst=some t->t<σ.n)(T:TypeId)(x ix:Operand)(ho:o.op=.indexAddr T x ix)(len:Nat)(E:TypeId)(hE:Fz P T=some (len,E))(k:IntKind)(n:Int)(hix:Az σ.env ix=.int k n)(cs:List AV)(off:Nat)(hx:Az σ.env x=.pe cs off)(hn:0<=n)(hi:n<len)(h0:0<AB P E):
  AJ P o U st σ m a w ⟨.pe cs (off+n.toNat*AB P E),none,[],[],true,[],[]⟩:=by
 obtain⟨r,hu⟩:=hs.Az x;obtain⟨ri,_⟩:=hs.Az ix;rw[hx]at r hu;rw[hix]at ri;have ei:=Q4 ri;obtain⟨g,base,vs,e,h2⟩:=r;refine AJ.val hs hd (v:=.pointer (some ⟨g,base+(off+n.toNat*AB P E),none⟩)) ?_ ⟨g,base,vs,rfl,h2⟩ trivial;unfold execOp;simp only[ho,e,ei,Sem.run_bind,Zff hE h0 g _ k n hn hi,Result.andThen_ok,Sem.run_pure,Nat.add_assoc]
theorem Zeg(hs:B5 U σ m a w)(hd:∀ t,o.dst=some t->t<σ.n)(T:TypeId)(x ix:Operand)(ho:o.op=.index T x ix)(hT:Rn P T=true)(k:IntKind)(n:Int)(hix:Az σ.env ix=.int k n)(s:ByteArray)(hx:Az σ.env x=.str s)(c:UInt8)(hc:s[n.toNat]? = some c)(hn:0<=n):
  AJ P o U st σ m a w ⟨.int .u8 c.toNat,none,[],[],true,[],[]⟩:=by
 obtain⟨r,_⟩:=hs.Az x;obtain⟨ri,_⟩:=hs.Az ix;rw[hx]at r;rw[hix]at ri;have ei:=Q4 ri;have e:=Tz r;refine AJ.val hs hd (v:=.int .u8 c.toNat) ?_ (Au.int _ _) trivial;unfold execOp
 have:(Instr.index T (.string s) (.int k n)).run P w=.ok (.int .u8 c.toNat) w:=by
  simp only[Instr.index,asIntOf,Sem.run_bind,Sem.run_pure,Result.andThen_ok,run_underlying (Znm hT)];rw[if_pos hn,hc]
  rfl
 simp only[ho,e,ei,Sem.run_bind,this,Result.andThen_ok,Sem.run_pure]
theorem Zls{E:TypeId}(hg:JZ P E=some ag)(h0:0<AB P E)(h1:ag=true∨AB P E=1)(vs:List Value)(off:Nat)(hl:off+AB P E<=vs.length)(w:World):(part E vs.toArray off).run P w=.ok (if ag then .agg ((vs.drop off).take (AB P E)).toArray else (vs.drop off).headD undef) w:=by
 cases ag with
 |true =>
  obtain⟨d,hu,hd⟩:=Zf9 hg
  have hA:(isAgg E).run P w=.ok true w:=by
   unfold isAgg;rw[Sem.run_bind,run_underlying hu w];cases d<;>first|rfl|cases hd
  simp only[part,Sem.run_bind,hA,Result.andThen_ok,if_true,TB h0,Sem.run_pure];congr 2;simp[List.extract_eq_take_drop]
 |false =>
  have h1:AB P E=1:=by simpa using h1
  simp only[part,Sem.run_bind,Zix hg,Result.andThen_ok,Bool.false_eq_true,if_false];have hlt:off<vs.length:=by omega
  have e1:vs.toArray[off]? = some vs[off]:=by simp[hlt]
  have e2:(vs.drop off).headD undef=vs[off]:=by rw[List.drop_eq_getElem_cons hlt];rfl
  rw[e1,e2]
  rfl
theorem Zeh(hs:B5 U σ m a w)(hd:∀ t,o.dst=some t->t<σ.n)(T:TypeId)(x ix:Operand)(ho:o.op=.index T x ix)(len:Nat)(E:TypeId)(hE:Fz P T=some (len,E))(ag:Bool)(hg:JZ P E=some ag)(k:IntKind)(n:Int)(hix:Az σ.env ix=.int k n)(cs:List AV)(hx:Az σ.env x=.agg cs)(hn:0<=n)(hi:n<len)(h0:0<AB P E)(hl:n.toNat*AB P E+AB P E<=cs.length)(h1:ag=true∨AB P E=1):
  AJ P o U st σ m a w ⟨NV ag (AB P E) (cs.drop (n.toNat*AB P E)),none,[],[],true,[],[]⟩:=by
 obtain⟨r,hu⟩:=hs.Az x;obtain⟨ri,_⟩:=hs.Az ix;rw[hx]at r hu;rw[hix]at ri;have ei:=Q4 ri;obtain⟨vs,e,hrep⟩:=(show Ez m w (a.eval x) (.agg cs)from r);have hvl:=hrep.len;refine AJ.val hs hd (v:=if ag then .agg ((vs.drop (n.toNat*AB P E)).take (AB P E)).toArray else (vs.drop (n.toNat*AB P E)).headD undef) ?_ (mQ (hrep.drop _) h0 (by rw[ZK];omega)) (zI (fun d hd=>hu d (ZG hd)) (hrep.drop _).KY);unfold execOp
 have:(Instr.index T (.agg vs.toArray) (.int k n)).run P w=.ok (if ag then .agg ((vs.drop (n.toNat*AB P E)).take (AB P E)).toArray else (vs.drop (n.toNat*AB P E)).headD undef) w:=by
  simp only[Instr.index,asIntOf,Sem.run_bind,Sem.run_pure,Result.andThen_ok,run_underlying (Znp hE)];rw[if_pos ⟨hn,hi⟩];simp only[Sem.run_bind,TB h0,Result.andThen_ok];exact Zls hg h0 h1 vs _ o_ w
 simp only[ho,e,ei,Sem.run_bind,this,Result.andThen_ok,Sem.run_pure]
end
section
variable{P:Program}{U:Nat->Prop}{st:Nat}{σ:AS}{m:Mem}{a:Act}{w:World}{o:Oper}
theorem Zlt{T E:TypeId}(hE:E4 P T=some E)(A:Option Addr)(n c:Nat)(w:World):(Builtin.len_ #[T] o.type #[.slice A n c]).run P w=.ok (.int .i64 n) w:=by
 simp[Builtin.len_,run_underlying (Vd hE),goInt]
theorem zJ(hs:B5 U σ m a w)(hd:∀ t,o.dst=some t->t<σ.n)(x:Operand)(T:TypeId)(ho:o.op=.call ⟨.builtin .len,#[x],#[T]⟩)(hT:(E4 P T).isSome=true)(n:Nat)(rs:List Nat) 
  (hv:∃ A c,a.eval x=.slice A n c):AJ P o U st σ m a w ⟨.int .i64 n,none,[],rs,true,[],[]⟩:=by
 obtain⟨E,hE⟩:=Option.isSome_iff_exists.1 hT;obtain⟨A,c,e⟩:=hv;refine AJ.val hs hd (v:=.int .i64 n) ?_ (Au.int _ _) trivial;unfold execOp;simp[ho,resolve,invoke,builtin,e,Zlt hE]
theorem Zj2(hs:B5 U σ m a w)(hd:∀ t,o.dst=some t->t<σ.n)(x:Operand)(T:TypeId)(ho:o.op=.call ⟨.builtin .len,#[x],#[T]⟩)(hT:P.underlying T=some .string)(s:ByteArray)(hx:Az σ.env x=.str s):AJ P o U st σ m a w ⟨.int .i64 s.size,none,[],[],true,[],[]⟩:=by
 obtain⟨r,_⟩:=hs.Az x;rw[hx]at r;have e:=Tz r;refine AJ.val hs hd (v:=.int .i64 s.size) ?_ (Au.int _ _) trivial;unfold execOp;simp[ho,resolve,invoke,builtin,e,Builtin.len_,run_underlying hT,goInt]
theorem ZqM(hs:B5 U σ m a w)(hd:∀ t,o.dst=some t->t<σ.n)(x y:Operand)(ts:Array TypeId)(ho:o.op=.call ⟨.builtin .min,#[x,y],ts⟩)(k k':IntKind)(n b:Int)(hx:Az σ.env x=.int k n)(hy:Az σ.env y=.int k' b):AJ P o U st σ m a w ⟨.int k (if b<n then b else n),none,[],[],true,[],[]⟩:=by
 obtain⟨rx,_⟩:=hs.Az x;obtain⟨ry,_⟩:=hs.Az y;rw[hx]at rx;rw[hy]at ry;have ex:=Q4 rx;have ey:=Q4 ry;refine AJ.val hs hd (v:=.int k (if b<n then b else n)) ?_ (Au.int _ _) trivial;unfold execOp;simp[ho,resolve,invoke,builtin,ex,ey,Builtin.min_,Builtin.min2]
theorem ZqN(hs:B5 U σ m a w)(hd:∀ t,o.dst=some t->t<σ.n)(x y:Operand)(ts:Array TypeId)(ho:o.op=.call ⟨.builtin .max,#[x,y],ts⟩)(k k':IntKind)(n b:Int)(hx:Az σ.env x=.int k n)(hy:Az σ.env y=.int k' b):AJ P o U st σ m a w ⟨.int k (if n<b then b else n),none,[],[],true,[],[]⟩:=by
 obtain⟨rx,_⟩:=hs.Az x;obtain⟨ry,_⟩:=hs.Az y;rw[hx]at rx;rw[hy]at ry;have ex:=Q4 rx;have ey:=Q4 ry;refine AJ.val hs hd (v:=.int k (if n<b then b else n)) ?_ (Au.int _ _) trivial;unfold execOp;simp[ho,resolve,invoke,builtin,ex,ey,Builtin.max_,Builtin.max2]
theorem ZcA{T:TypeId}(hT:Rn P T=true)(s:ByteArray)(l r:Nat)(lo hi:Option Value)(hlo:(lo=none/\l=0)∨∃ k,lo=some (.int k l))(hhi:(hi=none/\r=s.size)∨∃ k,hi=some (.int k r))(h1:l<=r)(h2:r<=s.size)(w:World):
  (Instr.sliceAt T (.string s) lo hi none).run P w=.ok (.string (s.extract l r)) w:=by
 have hb:(Instr.sliceBounds false s.size s.size lo hi none).run P w=.ok (l,r,s.size) w:=by
  have hl1:(l:Int)<=(r:Int):=by omega
  have hr1:(r:Int)<=(s.size:Int):=by omega
  rcases hlo with⟨rfl,rfl⟩|⟨k,rfl⟩<;> rcases hhi with⟨rfl,rfl⟩|⟨k',rfl⟩<;> simp[Instr.sliceBounds,Instr.sliceBound,asIntOf,hl1,hr1,h1,h2]
 simp[Instr.sliceAt,run_underlying (Znm hT),Instr.slice,hb]
theorem Z8b(hs:B5 U σ m a w)(hd:∀ t,o.dst=some t->t<σ.n)(T:TypeId)(x:Operand)(lo hi:Option Operand)(ho:o.op=.slice T x lo hi none)(hT:Rn P T=true)(s:ByteArray)(hx:Az σ.env x=.str s)(l r:Nat) 
  (hlo:(lo=none/\l=0)∨∃ ol k,lo=some ol/\Az σ.env ol=.int k l) (hhi:(hi=none/\r=s.size)∨∃ oh k,hi=some oh/\Az σ.env oh=.int k r) (h1:l<=r) (h2:r<=s.size):
  AJ P o U st σ m a w ⟨.str (s.extract l r),none,[],[],true,[],[]⟩:=by
 obtain⟨rx,_⟩:=hs.Az x;rw[hx]at rx;have e:=Tz rx
 have MX:(lo.map a.eval=none/\l=0)∨∃ k,lo.map a.eval=some (.int k l):=by
  rcases hlo with⟨rfl,rfl⟩|⟨ol,k,rfl,e1⟩
  .exact .inl ⟨rfl,rfl⟩
  .have:=(hs.Az ol).1;rw[e1]at this;exact .inr ⟨k,by simp[Q4 this]⟩
 have MY:(hi.map a.eval=none/\r=s.size)∨∃ k,hi.map a.eval=some (.int k r):=by
  rcases hhi with⟨rfl,rfl⟩|⟨oh,k,rfl,e1⟩
  .exact .inl ⟨rfl,rfl⟩
  .have:=(hs.Az oh).1;rw[e1]at this;exact .inr ⟨k,by simp[Q4 this]⟩
 have:=ZcA (P:=P) hT s l r _ _ MX MY h1 h2 w;refine AJ.val hs hd (v:=.string (s.extract l r)) ?_ (Au.str _) trivial;unfold execOp;simp only[ho,e,Option.map_none,Sem.run_bind,this,Result.andThen_ok,Sem.run_pure]
theorem KW.sub{Q:Nat->Prop}{A:Option Addr}{n c:Nat}{E:TypeId}{sz:Nat}{els:List (List AV)}{css:List (List Value)}(h:KW Q w A n c E sz els css)(l r:Nat)(hlr:l<=r)(hr:r<=n):
  KW Q w (if c=l then A else A.map (·.add (l*sz))) (r-l) (c-l) E sz ((els.take r).drop l) ((css.take r).drop l):=by
 have hn:=h.row.1;have hel:=h.len;have hlen:((css.take r).drop l).length=r-l:=by rw[ZK,ZC];omega
 have hget:∀ {α:Type} (L:List α) (i:Nat) (x:α),((L.take r).drop l)[i]? = some x->L[l+i]? = some x:=fun L i x hx=>by
  rw[List.getElem?_drop,List.getElem?_take]at hx;split at hx
  .exact hx
  .cases hx
 rcases h.ok with⟨rfl,rfl,rfl⟩|⟨g,off,rfl,hnc,hcm⟩
 .have:l=0:=by omega
  subst this;have:r=0:=by omega
  subst this;exact⟨⟨hlen,s_⟩,s_,.inl ⟨s_,rfl,rfl⟩,s_,s_⟩
 .have key:(if c=l then (some ⟨g,off,none⟩:Option Addr)else (some ⟨g,off,none⟩:Option Addr).map (·.add (l*sz)))=some ⟨g,if c=l then off else off+l*sz,none⟩:=by
   split
   .rfl
   .simp[Addr.add_mid]
  rw[key];refine⟨⟨hlen,fun i cs hi=>?_⟩,fun p hp=>?_,.inr ⟨g,_,rfl,o_,o_⟩,by rw[hlen,ZK,ZC];omega,fun i cs ds h1 h2=>h.each (l+i) cs ds (hget _ _ _ h1) (hget _ _ _ h2)⟩
  .have hi2:=hget _ _ _ hi;obtain⟨g2,Sc,hA,hc⟩:=h.row.2 _ _ hi2;have hil:i<r-l:=by rw[<- hlen];exact(Za.1 hi).1
   have e:g=g2/\off=Sc:=by simpa using hA
   obtain⟨rfl,rfl⟩:=e;refine⟨g,_,rfl,fun j v hj=>?_⟩;have:=hc j v hj;rw[if_neg o_];rw[Nat.add_mul]at this;have e2:off+l*sz+i*sz+j=off+(l*sz+i*sz)+j:=by omega
   rw[e2];exact this
  .simp only[Zi]at hp;subst hp;exact h.blk ⟨g,off,none⟩ rfl
theorem ZcB{T E:TypeId}(hE:E4 P T=some E)(h0:0<AB P E)(A:Option Addr)(n c l r:Nat)(lo hi:Option Value)(hlo:(lo=none/\l=0)∨∃ k,lo=some (.int k l))(hhi:(hi=none/\r=n)∨∃ k,hi=some (.int k r))(h1:l<=r)(h2:r<=c)(w:World):
  (Instr.sliceAt T (.slice A n c) lo hi none).run P w=.ok (.slice (if c=l then A else A.map (·.add (l*AB P E))) (r-l) (c-l)) w:=by
 have hb:(Instr.sliceBounds true n c lo hi none).run P w=.ok (l,r,c) w:=by
  have hl1:(l:Int)<=(r:Int):=by omega
  have hr1:(r:Int)<=(c:Int):=by omega
  rcases hlo with⟨rfl,rfl⟩|⟨k,rfl⟩<;> rcases hhi with⟨rfl,rfl⟩|⟨k',rfl⟩<;> simp[Instr.sliceBounds,Instr.sliceBound,asIntOf,hl1,hr1,h1,h2]
 simp[Instr.sliceAt,run_underlying (Vd hE),Instr.slice,hb,TB h0]
theorem ZjW{v:Value}{E:TypeId}{sz:Nat}{els:List (List AV)}{l r:Nat}(h:XQ m w v (.sl ns E sz els))(hlr:l<=r)(hr:r<=els.length):
  ∃ A n c,v=.slice A n c/\els.length=n/\r<=c/\XQ m w (.slice (if c=l then A else A.map (·.add (l*sz))) (r-l) (c-l)) (.sl ns E sz ((els.take r).drop l)):=by
 obtain⟨A,n,c,css,e,hS,hR,hrep⟩:=Va h;have hlen:=hS.lens;have hrc:r<=c:=by rcases hS.ok with⟨_,h1,h2⟩|⟨_,_,_,h1,_⟩<;> omega
 have hget:∀ {α:Type} (L:List α) (i:Nat) (x:α),((L.take r).drop l)[i]? = some x->L[l+i]? = some x:=fun L i x hx=>by
  rw[List.getElem?_drop,List.getElem?_take]at hx;split at hx
  .exact hx
  .cases hx
 refine⟨A,n,c,e,hlen,hrc,?_⟩;cases ns with
 |true=>exact⟨_,_,_,_,rfl,hS.sub l r hlr o_,fun i j cs ds x d a b c e=>hrep _ _ _ _ _ _ (hget _ _ _ a) (hget _ _ _ b) c e⟩
 |false=>exact Au.sl _ _ _ _ _ _ _ ((hR rfl).sub l r hlr o_) fun i j cs ds x d a b c e=>hrep _ _ _ _ _ _ (hget _ _ _ a) (hget _ _ _ b) c e
theorem Zfy(hs:B5 U σ m a w)(hd:∀ t,o.dst=some t->t<σ.n)(T:TypeId)(x:Operand)(lo hi:Option Operand)(ho:o.op=.slice T x lo hi none)(E:TypeId)(hE:E4 P T=some E)(ns:Bool)(E':TypeId)(sz:Nat)(els:List (List AV))(hx:Az σ.env x=.sl ns E' sz els)(l r:Nat) 
  (hlo:(lo=none/\l=0)∨∃ ol k,lo=some ol/\Az σ.env ol=.int k l) (hhi:(hi=none/\r=els.length)∨∃ oh k,hi=some oh/\Az σ.env oh=.int k r) (h1:l<=r) (h2:r<=els.length) (hsz:AB P E=sz) (h0:0<sz):
  AJ P o U st σ m a w ⟨.sl ns E' sz ((els.take r).drop l),none,[],[],true,[],[]⟩:=by
 obtain⟨rx,_⟩:=hs.Az x;rw[hx]at rx;obtain⟨A,n,c,e,hn,hrc,hrep⟩:=ZjW rx h1 h2;refine AJ.val hs hd ?_ hrep trivial
 have MX:(lo.map a.eval=none/\l=0)∨∃ k,lo.map a.eval=some (.int k l):=by
  rcases hlo with⟨rfl,rfl⟩|⟨ol,k,rfl,e1⟩
  .exact .inl ⟨rfl,rfl⟩
  .have:=(hs.Az ol).1;rw[e1]at this;exact .inr ⟨k,by simp[Q4 this]⟩
 have MY:(hi.map a.eval=none/\r=n)∨∃ k,hi.map a.eval=some (.int k r):=by
  rcases hhi with⟨rfl,rfl⟩|⟨oh,k,rfl,e1⟩
  .exact .inl ⟨rfl,hn⟩
  .have:=(hs.Az oh).1;rw[e1]at this;exact .inr ⟨k,by simp[Q4 this]⟩
 have:=ZcB (P:=P) hE o_ A n c l r _ _ MX MY h1 hrc w;unfold execOp;simp only[ho,e,Option.map_none,Sem.run_bind,this,Result.andThen_ok,Sem.run_pure,hsz]
theorem Z8G(us:List Value):∀ (cs:List Value) (off k:Nat),off+k+us.length<=cs.length ->
  (us.zipIdx k).foldl (fun(cs:Array Value) (p:Value×Nat)=>cs.setIfInBounds (off+p.2) p.1) cs.toArray=(cs.take (off+k)++(us++cs.drop (off+k+us.length))).toArray:=by
 induction us with
 |nil=>intro cs off k h;simp
 |cons u r ih =>
  intro cs off k h;simp only[Zt]at h;rw[List.zipIdx_cons,List.foldl_cons];have hset:cs.toArray.setIfInBounds (off+k) u=(cs.set (off+k) u).toArray:=by simp
  show List.foldl _ (cs.toArray.setIfInBounds (off+k) u) _=_;rw[hset,ih (cs.set (off+k) u) off (k+1) (by rw[List.length_set];omega)];congr 1;have hlt:off+k<cs.length:=by omega
  apply List.ext_getElem?;intro j;rw[show off+(k+1)=off+k+1 by omega];simp only[List.getElem?_append,ZC,List.length_set,List.getElem?_take,List.getElem?_set,List.getElem?_drop,Zt,Zq,ZK];rw[Nat.min_eq_left o_,Nat.min_eq_left o_];by_cases h1:j<off+k
  .rw[if_pos o_,if_pos o_,if_pos h1,if_pos h1,if_neg o_]
  .by_cases h2:j=off+k
   .subst h2;rw[if_pos o_,if_pos o_,if_pos rfl,if_pos hlt,if_neg o_,if_pos o_];simp
   .rw[if_neg o_,if_neg h1];have e1:j-(off+k)=(j-(off+k+1))+1:=by omega
    rw[e1];by_cases h3:j-(off+k+1)< r.length
    .rw[if_pos h3,if_pos o_,ZD]
    .rw[if_neg h3,if_neg o_,if_neg o_];congr 1;omega
theorem Zmo(hs:B5 U σ m a w)(pl:List (Nat×Nat)):∀ (ps:List (Nat×Operand)) (vs:List Value) (cs cs':List AV),BF m w vs cs->(∀ c∈cs,Bu U c)->Tw (fun i=>pl[i]?) cs (ps.map fun p=>(p.1,Az σ.env p.2))=some cs' ->
  ∃ vs',Instr.fill (pl.toArray[·]?) vs.toArray (ps.map fun p=>(p.1,a.eval p.2))=some vs'.toArray/\BF m w vs' cs'/\∀ c∈cs',Bu U c:=by
 intro ps;induction ps with
 |nil=>intro vs cs cs' r hu h;simp only[List.map_nil,Tw,Zi]at h;subst h;exact⟨vs,rfl,r,hu⟩
 |cons p rest ih =>
  intro vs cs cs' r hu h;obtain⟨i,x⟩:=p;simp only[List.map_cons,Tw]at h;split at h
  .rename_i off sz us hp hc;split at h
   .rename_i hcond;obtain⟨hsz,hle⟩:=hcond;obtain⟨rx,ux⟩:=hs.Az x;obtain⟨TC,ecs⟩:=mJ rx hc;have mR:=TC.len;have hvl:=r.len
    have hok:∀ c∈JF cs off us,Bu U c:=fun c hc'=>by
     unfold JF at hc';rcases Z9.1 hc' with h1|h1
     .exact hu c (ZT h1)
     .rcases Z9.1 h1 with h2|h2
      .exact mK hc ux c h2
      .exact hu c (ZG h2)
    obtain⟨vs',h1,h2,h3⟩:=ih _ _ cs' (r.splice TC off) hok h;refine⟨vs',?_,h2,h3⟩;have zK:(a.eval x).cells.size=us.length:=by rw[<- mR];simp
    simp only[List.map_cons,Instr.fill];rw[show pl.toArray[i]? = some (off,sz)by simpa using hp];dsimp only;rw[if_neg (by simp only[zK,List.size_toArray,Bool.or_eq_true,decide_eq_true_eq,not_or];refine⟨by simp[hsz],o_⟩)];have MZ:=Z8G (a.eval x).cells.toList vs off 0 (by simp only[Array.length_toList];omega)
    have:(a.eval x).cells.zipIdx.foldl (fun cs (c,j)=>cs.setIfInBounds (off+j) c) vs.toArray=(vs.take off++((a.eval x).cells.toList++vs.drop (off+(a.eval x).cells.toList.length))).toArray:=by
     rw[<- Array.foldl_toList,Array.toList_zipIdx];exact MZ
    rw[this];exact h1
   .cases h
  .cases h
theorem zL{T:TypeId}(h:YZ P T=some zs)(hD:zs.all Dj=true)(m:Mem)(w:World):∃ i z,P.info? T=some i/\i.zero=some z/\BF m w z.cells.toList zs/\z.cells=z.cells.toList.toArray/\∀ (j:Nat) v d,z.cells.toList[j]? = some v->zs[j]? = some d->Au (m.R w) w v d:=by
 unfold YZ at h;cases hi:P.info? T with
 |none=>rw[hi]at h;simp at h
 |some i =>
  cases hz:i.zero with
  |none=>rw[hi]at h;simp[hz]at h
  |some z =>
   rw[hi]at h;simp only[Option.bind_some,hz,Option.map_some,Zi]at h;subst h
   have key:∀ (j:Nat) v d,z.cells.toList[j]? = some v->(z.cells.toList.map MV)[j]? = some d->Au (m.R w) w v d:=fun j v d h1 h2=>by
    rw[ZH,h1]at h2;simp only[Option.map_some,Zi]at h2;subst h2;exact ZkM m w v (Zu.1 hD _ (ZB.2 ⟨v,Z6 h1,rfl⟩))
   exact⟨i,z,rfl,hz,⟨s_,fun j v d h1 h2=>JH (key j v d h1 h2)⟩,s_,key⟩
theorem ZkP(hD:zs.all Dj=true):∀ c∈zs,Bu U c:=fun c hc=>bV (Zu.1 hD c hc)
theorem ZlN(hs:B5 U σ m a w)(hd:∀ t,o.dst=some t->t<σ.n)(T:TypeId)(parts:Array (Nat×Operand))(ho:o.op=.build T parts)(zs:List AV)(hz:YZ P T=some zs)(pl:List (Nat×Nat))(hp:KZ P T=some pl)(cs:List AV)(hf:Tw (fun i=>pl[i]?) zs (parts.toList.map fun p=>(p.1,Az σ.env p.2))=some cs)(hD:zs.all Dj=true):
  AJ P o U st σ m a w ⟨.agg cs,none,[],[],true,[],[]⟩:=by
 obtain⟨i,z,hi,hz',rz,ez,_⟩:=zL hz hD m w;obtain⟨vs,h1,h2,h3⟩:=Zmo hs pl parts.toList _ zs cs rz (ZkP hD) hf;refine AJ.val hs hd (v:=.agg vs.toArray) ?_ ⟨vs,rfl,h2⟩ h3
 have hb:P.built T (parts.map fun(i,x)=>(i,a.eval x)).toList=some vs.toArray:=by
  unfold KZ at hp;split at hp
  .rename_i fs hu;unfold Program.built;rw[hi,hu];dsimp only;rw[hz',hp];dsimp only;rw[<- h1];simp
  .cases hp
 unfold execOp;simp only[ho,Sem.run_bind,run_build w T _ _ hb,Result.andThen_ok,Sem.run_pure]
end
section
variable{P:Program}{U:Nat->Prop}{st:Nat}{σ:AS}{m:Mem}{a:Act}{w:World}{o:Oper}
def Mem.with(m:Mem)(id:Nat)(b:AY)(l:Option Addr×Nat):Mem:={ m with loc:=fun i=>if i=id then l else m.loc i,bx:=fun i=>if i=id then some b else m.bx i }
structure Eg(U:Nat->Prop)(st:Nat)(σ:AS)(m:Mem)(w w':World)(id:Nat)(b:AY)(l:Option Addr×Nat)(row:Option Nat):Prop where
 grown:w.grownBy w' row
 row:∀ g,row=some g->∃ b0,σ.box id=some b0/\ob (m.loc id).1=some g
 new:∀ g,ob l.1=some g->(∃ b0,σ.box id=some b0/\ob (m.loc id).1=some g)∨w.heap.size<=g
 keep:(b.st=st/\¬ U st)∨∃ b0,σ.box id=some b0/\b0.st=b.st/\l=m.loc id/\b.sz=b0.sz/\b.els.length=b0.els.length
theorem Eg.LZ{id:Nat}{b:AY}{l:Option Addr×Nat}{row:Option Nat}(h:Eg U st σ m w w' id b l row)(hs:B5 U σ m a w):Cj U m w (m.with id b l) w':=by
 refine⟨rfl,rfl,fun g hg=>⟨h.grown.block g hg.1 (fun e=>?_),Zf hg.1 h.grown.size,fun hM=>?_⟩,fun id' b' hb' hU=>?_⟩
 .obtain⟨b0,e1,e2⟩:=h.row g e.symm;exact hg.2 ⟨id,b0,by rw[hs.bx];exact e1,e2⟩
 .obtain⟨id',b',e1,e2⟩:=hM;by_cases hi:id'=id
  .subst hi;have e2':ob l.1=some g:=by simpa [Mem.with]using e2
   rcases h.new g e2' with⟨b0,e3,e4⟩| h3
   .exact hg.2 ⟨id',b0,by rw[hs.bx];exact e3,e4⟩
   .have:=hg.1;omega
  .exact hg.2 ⟨id',b',by simpa [Mem.with,hi]using e1,by simpa [Mem.with,hi]using e2⟩
 .by_cases hi:id'=id
  .subst hi;have e:b=b':=by simpa [Mem.with]using hb'
   subst e;rcases h.keep with⟨h1,h2⟩|⟨b0,e1,e2,e3,e4,e5⟩
   .rw[h1]at hU;exact absurd hU h2
   .exact⟨b0,by rw[hs.bx];exact e1,e2,by simp[Mem.with,e3],e4,e5⟩
  .exact⟨b',by simpa [Mem.with,hi]using hb',rfl,by simp[Mem.with,hi],rfl,rfl⟩
theorem B5.blk(hs:B5 U σ m a w){id:Nat}{b:AY}(hb:σ.box id=some b){g:Nat}(hg:ob (m.loc id).1=some g):m.w0.heap.size<=g/\g<w.heap.size:=by
 obtain⟨css,ho,_⟩:=(hs.boxes id b hb).own;exact ho.lt g hg
theorem Eg.mU{id:Nat}{b:AY}{l:Option Addr×Nat}{row:Option Nat}(h:Eg U st σ m w w' id b l row)(hs:B5 U σ m a w)(hB:DU (fun s=>U s∨s=st) (m.with id b l) w' id b):B5 (fun s=>U s∨s=st) (σ.Bc (id,b)) (m.with id b l) a w':=by
 have ev:=h.LZ hs
 have bZ:∀ k,row=some k->m.w0.heap.size<=k:=fun k hk=>by
  obtain⟨b0,e1,e2⟩:=h.row k hk;exact(hs.blk e1 e2).1
 refine⟨?_,hs.below.grown h.grown hs.below.size bZ,hs.defers,hs.size,fun t=>ev.Ht (hs.slots t) (hs.ok t),fun t=>okV.mono (fun s h=>.inl h) (hs.ok t),fun id' b' hb'=>?_,fun i j bi bj g hi hj gi gj=>?_⟩
 .show(fun i=>if i=id then some b else m.bx i)=(fun i=>if i=id then some b else σ.box i);rw[hs.bx]
 .by_cases hi:id'=id
  .subst hi;have e:b=b':=by simpa [AS.Bc]using hb'
   subst e;exact hB
  .have hb2:σ.box id'=some b':=by simpa [AS.Bc,hi]using hb'
   obtain⟨⟨css,ho,hr⟩,h2,h3⟩:=hs.boxes id' b' hb2;have hloc:(m.with id b l).loc id'=m.loc id':=by simp[Mem.with,hi]
   refine⟨⟨css,?_,fun i cs ds a1 a2=>?_⟩,.inl h2,fun ds hd d hdd=>Bu.mono (fun s h=>.inl h) (h3 ds hd d hdd)⟩
   .rw[hloc];refine Own.grown ho h.grown fun g hg e=>?_
    obtain⟨b0,e1,e2⟩:=h.row g e;exact hi (hs.inj id' id b' b0 g hb2 e1 hg e2)
   .obtain⟨r1,r2,r3⟩:=hr i cs ds a1 a2;exact⟨r1,ev.EE r2 (h3 ds (Z6 a2)),fun hp j v d x y=>ev.Dc (r3 hp j v d x y)⟩
 .have ne:∀ k bk,k≠id->σ.box k=some bk->ob (m.loc k).1=some g->ob l.1=some g->False:=fun k bk hk hb e1 e2=>by
   rcases h.new g e2 with⟨b0,e3,e4⟩| h3
   .exact hk (hs.inj k id bk b0 g hb e3 e1 e4)
   .have:=(hs.blk hb e1).2;omega
  by_cases h1:i=id<;>by_cases h2:j=id
  .rw[h1,h2]
  .subst h1;exact absurd (ne j bj h2 (by simpa [AS.Bc,h2]using hj) (by simpa [Mem.with,h2]using gj) (by simpa [Mem.with]using gi)) id
  .subst h2;exact absurd (ne i bi h1 (by simpa [AS.Bc,h1]using hi) (by simpa [Mem.with,h1]using gi) (by simpa [Mem.with]using gj)) id
  .exact hs.inj i j bi bj g (by simpa [AS.Bc,h1]using hi) (by simpa [AS.Bc,h2]using hj) (by simpa [Mem.with,h1]using gi) (by simpa [Mem.with,h2]using gj)
theorem ZaA{e:Eff}{r:Next}{v:Value}{id:Nat}{b:AY}{l:Option Addr×Nat}{row:Option Nat}{m1:Mem}(hs:B5 U σ1 m1 a w)(hσ:σ1=σ.E8 e.fz)(h0:m1.w0=m.w0)(hF:m1.F=m.F)(hd:∀ t,o.dst=some t->t<σ.n)(hrun:(execOp a.eval o).run P w=.ok r w')(hr:r=.value v∨(r=.skip/\v=undef))(h:Eg U st σ1 m1 w w' id b l row) 
  (hB:DU (fun s=>U s∨s=st) (m1.with id b l) w' id b) (he:e.bx=some (id,b)) (hv:XQ (m1.with id b l) w' v e.val) (hu:okV (fun s=>U s∨s=st) e.val) (ev0:Cj U m w m1 w) (hbs:e.bs=[]:=by rfl):AJ P o U st σ m a w e:=by
 refine AJ.run (m':=m1.with id b l) hrun hr ?_ h0 hF (ev0.trans (h.LZ hs));rw[bW _ _ _ hbs,he];dsimp only;rw[<- hσ];refine(h.mU hs hB).put hv hu o.dst fun t ht=>?_
 rw[hσ];have:=hd t ht;unfold AS.E8;split<;>exact this
theorem AJ.turn{e:Eff}{r:Next}{v:Value}{id:Nat}{b:AY}{l:Option Addr×Nat}{row:Option Nat}(hs:B5 U σ m a w)(hd:∀ t,o.dst=some t->t<σ.n)(hrun:(execOp a.eval o).run P w=.ok r w')(hr:r=.value v∨(r=.skip/\v=undef))(h:Eg U st σ m w w' id b l row) 
  (hB:DU (fun s=>U s∨s=st) (m.with id b l) w' id b) (he:e.bx=some (id,b)) (hv:XQ (m.with id b l) w' v e.val) (hu:okV (fun s=>U s∨s=st) e.val) (hf:e.fz=[]) (hbs:e.bs=[]:=by rfl):AJ P o U st σ m a w e :=
 ZaA hs (by rw[hf];rfl) rfl rfl hd hrun hr h hB he hv hu (Cj.refl U m w) hbs
def Mem.DT(m:Mem)(fz:List Nat):Mem:={ m with bx:=fun id=>if fz.contains id then none else m.bx id }
theorem mV(σ:AS)(fz:List Nat)(id:Nat):(σ.E8 fz).box id=if fz.contains id then none else σ.box id:=by
 cases fz with
 |nil=>simp[AS.E8]
 |cons f l=>rfl
theorem cB(σ:AS)(fz:List Nat):(σ.E8 fz).env=σ.env/\(σ.E8 fz).n=σ.n/\(σ.E8 fz).clk=σ.clk:=by cases fz<;>exact⟨rfl,rfl,rfl⟩
theorem Zri{fz:List Nat}{g:Nat}(h:(m.DT fz).M g):m.M g:=by
 obtain⟨id,b,h1,h2⟩:=h;simp only[Mem.DT]at h1 h2;split at h1
 .cases h1
 .exact⟨id,b,h1,h2⟩
theorem TD(U:Nat->Prop)(m:Mem)(w:World)(fz:List Nat):Cj U m w (m.DT fz) w :=
 ⟨rfl,rfl,fun g hg=>⟨rfl,hg.1,fun h=>hg.2 (Zri h)⟩,fun id b' hb _=>by
  simp only[Mem.DT]at hb
  split at hb
  .cases hb
  .exact⟨b',hb,rfl,rfl,rfl,rfl⟩⟩
theorem B5.freeze(hs:B5 U σ m a w)(fz:List Nat):B5 U (σ.E8 fz) (m.DT fz) a w:=by
 have ev:=TD U m w fz;obtain⟨e1,e2,e3⟩:=cB σ fz
 have N5:∀ id b,(σ.E8 fz).box id=some b->σ.box id=some b:=fun id b h=>by
  rw[mV]at h;split at h
  .cases h
  .exact h
 refine⟨?_,hs.below,hs.defers,by rw[e2];exact hs.size,fun t=>by rw[e1];exact ev.Ht (hs.slots t) (hs.ok t),fun t=>by rw[e1];exact hs.ok t,fun id b hb=>?_,fun i j bi bj g hi hj gi gj=>hs.inj i j bi bj g (N5 _ _ hi) (N5 _ _ hj) gi gj⟩
 .funext id;rw[mV];show(if fz.contains id then none else m.bx id)= _;rw[hs.bx]
 .obtain⟨⟨css,ho,hr⟩,q2,q3⟩:=hs.boxes id b (N5 id b hb)
  exact⟨⟨css,ho,fun i cs ds a1 a2=>by
   obtain⟨r1,r2,r3⟩:=hr i cs ds a1 a2;exact⟨r1,ev.EE r2 (q3 ds (Z6 a2)),fun hp j v d x y=>ev.Dc (r3 hp j v d x y)⟩⟩,q2,q3⟩
theorem mW{e sz n c:Nat}{A:Option Addr}{css:List (List Value)}(h:Own w B e sz A n c css):yY A n c:=by
 rcases h.cases with⟨h1,h2,h3,_⟩|⟨g,h1,_,_,h4,h5⟩
 .exact .inl ⟨h1,h2,h3⟩
 .exact .inr ⟨g,0,h1,h4,h5⟩
theorem mX{sz n c:Nat}{e:TypeId}{A:Option Addr}{css:List (List Value)}(h:Own w B e sz A n c css):∀ p,A=some p->p.block<w.heap.size/\∃ cur fz,w.heap[p.block]? = some (.cells cur e fz):=fun p hp=>by
 rcases h.own.2 with⟨hv,_⟩|⟨g,cap,cur,hv,_,hg,_⟩
 .simp only[Value.slice.injEq]at hv;rw[hv.1]at hp;cases hp
 .simp only[Value.slice.injEq]at hv
  rw[hv.1]at hp
  obtain rfl:=Z7 hp
  refine⟨?_,cur,_,hg⟩
  rcases Nat.lt_or_ge g w.heap.size with h1|h1
  .exact h1
  .rw[Array.getElem?_eq_none h1]at hg;cases hg
theorem mY(hs:B5 U σ m a w){fz:List Nat}{id st:Nat}{b:AY}{v:Value}(hr:BB m w v (.vw id st))(hb:σ.box id=some b)(hst:b.st=st)(hpl:b.pl=true)(hid:id∈fz):Au ((m.DT fz).R w) w v (.sl false b.T b.sz b.els):=by
 have hv:=hr.2 b (by rw[hs.bx];exact hb) hst;obtain⟨css,ho,hel⟩:=(hs.boxes id b hb).own;have hR:=(TD U m w fz).R;subst hv;refine Au.sl _ _ _ _ _ _ css ⟨ho.row,fun p hp=>?_,mW ho,ho.len,fun i cs ds e1 e2=>⟨ho.each cs (Z6 e1),(hel i cs ds e1 e2).1⟩⟩ (fun i j cs ds x d e1 e2 e3 e4=>((hel i cs ds e1 e2).2.2 hpl j x d e3 e4).keep (fun _ _=>rfl) hR);obtain⟨q1,q2⟩:=mX ho p hp;have LU:ob (m.loc id).1=some p.block:=by rw[hp];rfl
 have hge:m.w0.heap.size<=p.block:=by
  obtain⟨css,ho,_⟩:=(hs.boxes id b hb).own;exact(ho.lt _ LU).1
 refine⟨⟨⟨q1,fun hM=>?_⟩,fun hl=>?_⟩,q2⟩
 .obtain⟨id',b',h1,h2⟩:=hM;simp only[Mem.DT]at h1 h2;split at h1
  .cases h1
  .rename_i hnc;have:=hs.inj id id' b b' p.block hb (by rw[<- hs.bx];exact h1) LU h2;subst this;exact hnc (by simpa using hid)
 .have hl':p.block<m.w0.heap.size:=hl;omega
theorem ZcF(hs:B5 U σ m a w)(hd:∀ t,o.dst=some t->t<σ.n)(T:TypeId)(x:Operand)(lo hi:Option Operand)(ho:o.op=.slice T x lo hi none)(E:TypeId)(hE:E4 P T=some E)(id s:Nat)(hx:Az σ.env x=.vw id s)(b:AY)(hb:σ.box id=some b)(hst:b.st=s)(hpl:b.pl=true)(l r:Nat) 
  (hlo:(lo=none/\l=0)∨∃ ol k,lo=some ol/\Az σ.env ol=.int k l) (hhi:(hi=none/\r=b.els.length)∨∃ oh k,hi=some oh/\Az σ.env oh=.int k r) (h1:l<=r) (h2:r<=b.els.length) (hsz:AB P E=b.sz) (h0:0<b.sz):
  AJ P o U st σ m a w ⟨.sl false b.T b.sz ((b.els.take r).drop l),none,[id],[],true,[id],[]⟩:=by
 obtain⟨rx,_⟩:=hs.Az x;rw[hx]at rx;have hrep:=mY hs (fz:=[id]) (show BB m w (a.eval x) (.vw id s)from rx) hb hst hpl s_;obtain⟨A,n,c,e,hn,hrc,cK⟩:=ZjW (m:=m.DT [id]) (w:=w) (show XQ (m.DT [id]) w (a.eval x) (.sl false b.T b.sz b.els)from hrep) h1 h2;have hs':=hs.freeze [id]
 have MX:(lo.map a.eval=none/\l=0)∨∃ k,lo.map a.eval=some (.int k l):=by
  rcases hlo with⟨rfl,rfl⟩|⟨ol,k,rfl,e1⟩
  .exact .inl ⟨rfl,rfl⟩
  .have:=(hs.Az ol).1;rw[e1]at this;exact .inr ⟨k,by simp[Q4 this]⟩
 have MY:(hi.map a.eval=none/\r=n)∨∃ k,hi.map a.eval=some (.int k r):=by
  rcases hhi with⟨rfl,rfl⟩|⟨oh,k,rfl,e1⟩
  .exact .inl ⟨rfl,hn⟩
  .have:=(hs.Az oh).1;rw[e1]at this;exact .inr ⟨k,by simp[Q4 this]⟩
 have hrun:=ZcB (P:=P) hE o_ A n c l r _ _ MX MY h1 hrc w;refine AJ.run (m':=m.DT [id]) (v:=.slice (if c=l then A else A.map (·.add (l*AB P E))) (r-l) (c-l)) (w':=w) (r:=.value _) ?_ (.inl rfl) ?_ rfl rfl (TD U m w [id])
 .unfold execOp;simp only[ho,e,Option.map_none,Sem.run_bind,hrun,Result.andThen_ok,Sem.run_pure]
 .rw[hsz];exact(hs'.put cK trivial o.dst hd).mono fun s h=>.inl h
theorem Zlz{R:Nat->Prop}{v:Value}{d:AV}(h:Au R w v d):Dj d=true:=by cases h<;>rfl
theorem ZdA(w:World)(B:Nat)(hB:B<=w.heap.size)(T:TypeId)(sz:Nat)(css:List (List Value))(he:∀ cs∈css,cs.length=sz)(hm:css.length<=maxLen):Own (w.alloc (.cells css.flatten.toArray T)) B T sz (some ⟨w.heap.size,0,none⟩) css.length css.length css:=by
 have hl:=iK he;refine⟨⟨hl,.inr ⟨w.heap.size,css.length,css.flatten.toArray,rfl,hB,heap_alloc_new w _,Zd _,hm,by simp[hl],?_⟩⟩,rfl,he⟩;rw[Zp (by simp[hl])]
theorem Z8F(w:World)(o:Obj)(row:Option Nat):w.grownBy (w.alloc o) row:=qF (Ze (Below.refl _ _) _) row
theorem Z9P(T:TypeId)(v:Value)(w:World):(newVar T v).run P w=.ok ⟨w.heap.size,0,none⟩ (w.alloc (.cells v.cells T)):=by
 simp[newVar,newRow,go_sem]
theorem Zh3 :1<=maxLen:=by unfold maxLen;omega
theorem ZkH(hs:B5 U σ m a w)(hst:¬ U st)(id:Nat)(T:TypeId)(sz:Nat)(vs:List Value)(ds:List AV)(hsz:ds.length=sz)(r:BF m w vs ds)(hu:∀ d∈ds,Bu U d):
  Eg U st σ m w (w.alloc (.cells vs.toArray T)) id ⟨T,sz,st,[ds],false⟩ (some ⟨w.heap.size,0,none⟩,1) none/\DU (fun s=>U s∨s=st) (m.with id ⟨T,sz,st,[ds],false⟩ (some ⟨w.heap.size,0,none⟩,1)) (w.alloc (.cells vs.toArray T)) id ⟨T,sz,st,[ds],false⟩:=by
 have ht:Eg U st σ m w (w.alloc (.cells vs.toArray T)) id ⟨T,sz,st,[ds],false⟩ (some ⟨w.heap.size,0,none⟩,1) none :=
  ⟨Z8F w _ _,s_,fun g hg=>.inr (by simp[ob]at hg;omega),.inl ⟨rfl,hst⟩⟩
 have ev:=ht.LZ hs;have ho:=ZdA w m.w0.heap.size hs.below.size T sz [vs] (by simp;rw[r.len,hsz]) Zh3;refine⟨ht,⟨[vs],?_,fun i cs ds' h1 h2=>?_⟩,.inr rfl,fun ds' hd d hdd=>?_⟩
 .simpa [Mem.with]using ho
 .cases i with
  |zero=>simp at h1 h2;subst h1;subst h2;exact⟨hsz,ev.EE r hu,fun h=>by cases h⟩
  |succ i=>simp at h1
 .simp at hd;subst hd;exact Bu.mono (fun s h=>.inl h) (hu d hdd)
theorem ZlO(hs:B5 U σ m a w)(hst:¬ U st)(hd:∀ t,o.dst=some t->t<σ.n)(T:TypeId)(ho:o.op=.alloc T)(d:Nat)(hdst:o.dst=some d)(zs:List AV)(hz:YZ P T=some zs)(h0:0<AB P T)(hl:zs.length=AB P T)(hD:zs.all Dj=true):
  AJ P o U st σ m a w ⟨.ptr d st 0 0,some (d,⟨T,AB P T,st,[zs],false⟩),[],[],false,[],[]⟩:=by
 obtain⟨i,z,hi,hz',rz,ez,_⟩:=zL hz hD m w;obtain⟨h1,h2⟩:=ZkH hs hst d T (AB P T) z.cells.toList zs hl rz (ZkP hD);rw[<- ez]at h1 h2;refine AJ.turn hs hd (v:=.pointer (some ⟨w.heap.size,0,none⟩)) ?_ (.inl rfl) h1 h2 rfl ?_ (.inr rfl) rfl
 .unfold execOp;simp[ho,Instr.alloc,zeroValue,typeInfo,hi,hz',Z9P]
 .intro b hb _;have e:(⟨T,AB P T,st,[zs],false⟩:AY)=b:=by simpa [Mem.with]using hb
  subst e;exact⟨w.heap.size,by simp[Mem.with],s_⟩
theorem ZqO(hs:B5 U σ m a w)(hst:¬ U st)(hd:∀ t,o.dst=some t->t<σ.n)(T:TypeId)(x:Operand)(ho:o.op=.box T x)(d:Nat)(hdst:o.dst=some d)(cs:List AV)(hx:P4 (Az σ.env x)=some cs)(hl:cs.length=AB P T):
  AJ P o U st σ m a w ⟨.ptr d st 0 0,some (d,⟨T,AB P T,st,[cs],false⟩),[],[],false,[],[]⟩:=by
 obtain⟨rx,ux⟩:=hs.Az x;obtain⟨rz,ez⟩:=mJ rx hx;obtain⟨h1,h2⟩:=ZkH hs hst d T (AB P T) (a.eval x).cells.toList cs hl rz (mK hx ux);rw[<- ez]at h1 h2;refine AJ.turn hs hd (v:=.pointer (some ⟨w.heap.size,0,none⟩)) ?_ (.inl rfl) h1 h2 rfl ?_ (.inr rfl) rfl
 .unfold execOp;simp[ho,Instr.box,Z9P]
 .intro b hb _;have e:(⟨T,AB P T,st,[cs],false⟩:AY)=b:=by simpa [Mem.with]using hb
  subst e;exact⟨w.heap.size,by simp[Mem.with],s_⟩
theorem Zke{css:List (List Value)}{sz k:Nat}{cs us:List Value}(he:∀ cs∈css,cs.length=sz)(hk:css[k]? = some cs)(ho:off+us.length<=sz):
  css.flatten.take (k*sz+off)++us++css.flatten.drop (k*sz+off+us.length)=(css.set k (cs.take off++(us++cs.drop (off+us.length)))).flatten:=by
 have hkl:=(Za.1 hk).1;have hcl:=he cs (Z6 hk);have hF:=iK he;have hk1:(k+1)* sz<=css.length*sz:=Nat.mul_le_mul_right _ hkl;rw[Nat.add_mul]at hk1
 have e0:css.flatten=css.flatten.take (k*sz)++(cs++css.flatten.drop (k*sz+sz)):=by
  have:=iL (cs:=cs) he hkl
  have hset:css.set k cs=css:=by
   apply List.ext_getElem?;intro j;rw[List.getElem?_set];by_cases h:k=j
   .subst h;simp[hkl,hk];rw[Z4 hkl]at hk;exact(Z7 hk).symm
   .simp[h]
  rw[hset,List.append_assoc]at this;exact this.symm
 rw[<- iL he hkl];have hA:(css.flatten.take (k*sz)).length=k*sz:=by rw[ZC];omega
 have e1:css.flatten.take (k*sz+off)=css.flatten.take (k*sz)++cs.take off:=by
  conv=>lhs;rw[e0]
  rw[List.take_append,hA,Zp o_,show k*sz+off-k*sz=off by omega,List.take_append_of_le_length o_]
 have e2:css.flatten.drop (k*sz+off+us.length)=cs.drop (off+us.length)++css.flatten.drop (k*sz+sz):=by
  conv=>lhs;rw[e0]
  rw[List.drop_append,hA,List.drop_eq_nil_of_le o_,List.nil_append,show k*sz+off+us.length-k*sz=off+us.length by omega,List.drop_append_of_le_length o_]
 rw[e1,e2];simp[List.append_assoc]
theorem Z9l{e sz n c g k:Nat}{css:List (List Value)}{cs:List Value}(hown:Own w B e sz (some ⟨g,0,none⟩) n c css)(hk:css[k]? = some cs)(ty:TypeId)(us:List Value)(hty:(P.info? ty).map (·.size)=some us.length)(v:Value)(hv:v.cells=us.toArray)(ho:off+us.length<=sz)(h1:∀ u∈us,u.oneCell'=true):
  ∃ w',(storeVar ty ⟨g,k*sz+off,none⟩ v).run P w=.ok () w'/\Own w' B e sz (some ⟨g,0,none⟩) n c (css.set k (cs.take off++(us++cs.drop (off+us.length))))/\w.grownBy w' (some g):=by
 have hkn:k<n:=by rw[<- hown.len];exact(Za.1 hk).1
 have hcl:=hown.each cs (Z6 hk);rcases hown.own.2 with⟨hv',_⟩|⟨g',cap,cur,hv',hb,hg,hnc,hcm,hcs',htake⟩
 .simp at hv'
 .simp only[Value.slice.injEq,Zi,Addr.mk.injEq,and_true,true_and]at hv';obtain⟨rfl,rfl⟩:=hv';have hk1:(k+1)* sz<=n*sz:=Nat.mul_le_mul_right _ hkn;have hk2:n*sz<=c*sz:=Nat.mul_le_mul_right _ hnc;rw[Nat.add_mul]at hk1;have hst:=run_storeCells_at P g (k*sz+off) e us 0 cur w hg o_ h1;have hfl:=Zke (us:=us) hown.each hk ho
  refine⟨w.setRow g ((cur.toList.take (k*sz+off)++us++cur.toList.drop (k*sz+off+us.length)).toArray),?_,⟨⟨?_,.inr ⟨g,c,_,rfl,hb,setRow_heap w g cur _ e _ hg,hnc,hcm,?_,?_⟩⟩,by simp[hown.len],?_⟩,
   ⟨rfl,rfl,rfl,by simp[World.setRow],fun q _ hq=>setRow_other w g q _ (fun e=>hq (by simp[e]))⟩⟩
  .cases hq:P.info? ty with
   |none=>simp[hq]at hty
   |some i =>
    have hi:i.size=us.length:=by simpa [hq]using hty
    simp only[Nat.add_zero]at hst;simp[storeVar,sizeOf,typeInfo,hq,hi,hv,hst]
  .rw[<- hfl];have:=hown.own.1;simp only[Zq,ZC,ZK];omega
  .simp only[List.size_toArray,Zq,ZC,ZK,Array.length_toList];omega
  .rw[<- hfl,<- htake];simp only[List.take_append,List.take_take,ZC,List.drop_take,Zq,Array.length_toList];have e1:min (n*sz) (k*sz+off)=k*sz+off:=by omega
   have e2:min (k*sz+off) (n*sz)=k*sz+off:=by omega
   have e3:min (k*sz+off) cur.size=k*sz+off:=by omega
   simp only[e1,e2,e3];congr 1;congr 1;rw[Zp];omega
  .intro x hx;rcases ZW hx with h|h
   .exact hown.each x h
   .rw[h];simp only[Zq,ZC,ZK];omega
theorem ZlK(hs:B5 U σ m a w)(hd:∀ t,o.dst=some t->t<σ.n)(T:TypeId)(x v:Operand)(ho:o.op=.store T x v)(id s i off:Nat)(hx:Az σ.env x=.ptr id s i off)(vs:List AV)(hv:P4 (Az σ.env v)=some vs)(b:AY)(hb:σ.box id=some b)(cs:List AV)(hi:b.els[i]? = some cs)(hst:b.st=s)(hl:vs.length=AB P T)(h0:0<AB P T)(hle:off+vs.length<=cs.length)(hpl:b.pl=true->vs.all Dj=true):
  AJ P o U st σ m a w ⟨.und,some (id,⟨b.T,b.sz,b.st,b.els.set i (JF cs off vs),b.pl⟩),[id],[],true,[],[]⟩:=by
 obtain⟨rx,ux⟩:=hs.Az x;obtain⟨rv,uv⟩:=hs.Az v;rw[hx]at rx ux;obtain⟨g,hA,e⟩:=rx b (by rw[hs.bx];exact hb) hst;obtain⟨TC,ecs⟩:=mJ rv hv;have hB:=hs.boxes id b hb;obtain⟨css,hown,hr⟩:=hB.own;have hin:=(Za.1 hi).1;obtain⟨cs0,hcs⟩:∃ c0,css[i]? = some c0:=⟨_,Z4 (by rw[hown.len];exact hin)⟩;obtain⟨hdl,hrep,Tq⟩:=hr i _ _ hcs hi;have mR:=TC.len;rw[hA]at hown;obtain⟨w',hrun,hown',hgr⟩:=Z9l (P:=P) hown hcs T (a.eval v).cells.toList (by rw[Zf7 h0,mR,hl]) (a.eval v) ecs (by rw[mR,<- hdl];exact hle) TC.one
 have ht:Eg U st σ m w w' id ⟨b.T,b.sz,b.st,b.els.set i (JF cs off vs),b.pl⟩ (m.loc id) (some g):=
  ⟨hgr,fun g' hg'=>⟨b,hb,by rw[hA];simpa [ob]using hg'⟩,fun g' hg'=>.inl ⟨b,hb,hg'⟩,.inr ⟨b,hb,rfl,rfl,rfl,s_⟩⟩
 have ev:=ht.LZ hs;have hloc:(m.with id ⟨b.T,b.sz,b.st,b.els.set i (JF cs off vs),b.pl⟩ (m.loc id)).loc id=m.loc id:=by simp[Mem.with]
 refine AJ.turn hs hd (v:=undef) ?_ (.inr ⟨rfl,rfl⟩) ht ⟨⟨css.set i (cs0.take off++((a.eval v).cells.toList++cs0.drop (off+(a.eval v).cells.toList.length))),?_,fun(j:Nat) cs' ds' h1 h2=>?_⟩,.inl hB.st,fun ds' hds d hdd=>?_⟩ rfl rfl trivial rfl
 .unfold execOp;simp[ho,e,Instr.storeAt,Instr.sureAddr,hrun]
 .rw[hloc,hA];show Own w' m.w0.heap.size b.T b.sz (some ⟨g,0,none⟩) (b.els.set i (JF cs off vs)).length (m.loc id).2 _;rw[List.length_set];exact hown'
 .have zM:∀ d∈JF cs off vs,Bu U d:=fun d Ve=>by
   unfold JF at Ve;rcases Z9.1 Ve with h1|h1
   .exact hB.ok cs (Z6 hi) d (ZT h1)
   .rcases Z9.1 h1 with h2|h2
    .exact mK hv uv d h2
    .exact hB.ok cs (Z6 hi) d (ZG h2)
  rw[List.getElem?_set]at h1 h2;by_cases hij:i=j
  .subst hij;rw[if_pos rfl,if_pos (by rw[hown.len];exact hin)]at h1;rw[if_pos rfl,if_pos hin]at h2;obtain rfl:=Z7 h1;obtain rfl:=Z7 h2;refine⟨?_,ev.EE (hrep.splice TC off) zM,fun hp j v' d' hj1 hj2=>?_⟩
   .show(JF cs off vs).length=b.sz;unfold JF;simp only[Zq,ZC,ZK];omega
   .have hc:=(hrep.splice TC off).at_ j v' d' hj1 hj2;refine ev.Dc (Vb hc ?_);have hmem:=Z6 hj2
    have cZ:∀ d∈cs,Dj d=true:=fun d Ve=>by
     obtain⟨q,hq,rfl⟩:=ZM Ve;have:=Tq hp q _ _ (Z4 (by rw[hrep.len];exact hq)) (Z4 hq);exact Zlz this
    unfold JF at hmem;rcases Z9.1 hmem with h1|h1
    .exact cZ d' (ZT h1)
    .rcases Z9.1 h1 with h2|h2
     .exact Zu.1 (hpl hp) d' h2
     .exact cZ d' (ZG h2)
  .rw[if_neg hij]at h1 h2;obtain⟨r1,r2,r3⟩:=hr j cs' ds' h1 h2;exact⟨r1,ev.EE r2 (hB.ok ds' (Z6 h2)),fun hp q v d x y=>ev.Dc (r3 hp q v d x y)⟩
 .rcases ZW hds with h|h
  .exact Bu.mono (fun s h=>.inl h) (hB.ok ds' h d hdd)
  .subst h;unfold JF at hdd;rcases Z9.1 hdd with h1|h1
   .exact Bu.mono (fun s h=>.inl h) (hB.ok cs (Z6 hi) d (ZT h1))
   .rcases Z9.1 h1 with h2|h2
    .exact Bu.mono (fun s h=>.inl h) (mK hv uv d h2)
    .exact Bu.mono (fun s h=>.inl h) (hB.ok cs (Z6 hi) d (ZG h2))
end
section
variable{P:Program}{U:Nat->Prop}{st:Nat}{σ:AS}{m:Mem}{a:Act}{w:World}{o:Oper}
structure Ce(m:Mem)(w:World)(sz:Nat)(css:List (List Value))(els:List (List AV)):Prop where
 len:css.length=els.length
 each:∀ (i:Nat) cs ds,css[i]? = some cs->els[i]? = some ds->cs.length=sz/\ds.length=sz
 at_:∀ (i j:Nat) cs ds v d,css[i]? = some cs->els[i]? = some ds->cs[j]? = some v->ds[j]? = some d->Au (m.R w) w v d
theorem Ce.zN{sz:Nat}{css:List (List Value)}{els:List (List AV)}(h:Ce m w sz css els):∀ cs∈css,cs.length=sz:=fun cs hc=>by
 obtain⟨i,hi,rfl⟩:=ZM hc
 exact(h.each i _ (els[i]'(by rw[<- h.len];exact hi)) (Z4 hi) (Z4 _)).1
theorem Ce.append{sz:Nat}{css RZ:List (List Value)}{els L8:List (List AV)}(h:Ce m w sz css els)(k:Ce m w sz RZ L8):Ce m w sz (css++RZ) (els++L8):=by
 have key:∀ (i:Nat) cs ds,(css++RZ)[i]? = some cs->(els++L8)[i]? = some ds->(css[i]? = some cs/\els[i]? = some ds)∨(RZ[i-css.length]? = some cs/\L8[i-css.length]? = some ds):=fun i cs ds h1 h2=>by
  rcases Nat.lt_or_ge i css.length with hi|hi
  .rw[List.getElem?_append_left hi]at h1;rw[List.getElem?_append_left (by rw[<- h.len];exact hi)]at h2;exact .inl ⟨h1,h2⟩
  .rw[List.getElem?_append_right hi]at h1;rw[List.getElem?_append_right (by rw[<- h.len];exact hi),<- h.len]at h2;exact .inr ⟨h1,h2⟩
 refine⟨by rw[Zq,Zq,h.len,k.len],fun i cs ds h1 h2=>?_,fun i j cs ds v d h1 h2 h3 h4=>?_⟩
 .rcases key i cs ds h1 h2 with⟨a,b⟩|⟨a,b⟩
  .exact h.each _ _ _ a b
  .exact k.each _ _ _ a b
 .rcases key i cs ds h1 h2 with⟨a,b⟩|⟨a,b⟩
  .exact h.at_ _ _ _ _ _ _ a b h3 h4
  .exact k.at_ _ _ _ _ _ _ a b h3 h4
theorem Ce.nil(sz:Nat):Ce m w sz [] []:=⟨rfl,s_,s_⟩
theorem Ce.cons{sz:Nat}{cs:List Value}{css:List (List Value)}{els:List (List AV)}(r:BF m w cs ds)(hs:ds.length=sz)(hD:ds.all Dj=true)(k:Ce m w sz css els):Ce m w sz (cs::css) (ds::els):=by
 have h1:Ce m w sz [cs] [ds]:=by
  refine⟨rfl,fun i a b h1 h2=>?_,fun i j a b v d h1 h2 h3 h4=>?_⟩
  .cases i with
   |zero=>simp at h1 h2;subst h1;subst h2;exact⟨by rw[r.len,hs],hs⟩
   |succ i=>simp at h1
  .cases i with
   |zero=>simp at h1 h2;subst h1;subst h2;exact Vb (r.at_ j v d h3 h4) (Zu.1 hD d (Z6 h4))
   |succ i=>simp at h1
 exact h1.append k
theorem Ce.LZ{U:Nat->Prop}{sz:Nat}{css:List (List Value)}{els:List (List AV)}(h:Ce m w sz css els)(ev:Cj U m w m' w'):Ce m' w' sz css els:=⟨h.len,h.each,fun i j cs ds v d h1 h2 h3 h4=>ev.Dc (h.at_ i j cs ds v d h1 h2 h3 h4)⟩
theorem Ce.ok{sz:Nat}{css:List (List Value)}{els:List (List AV)}(h:Ce m w sz css els):∀ ds∈els,∀ d∈ds,Bu U d:=fun ds hds d hd=>by
 obtain⟨i,hi,rfl⟩:=ZM hds
 obtain⟨j,hj,rfl⟩:=ZM hd
 have hc:css[i]? = some (css[i]'(by rw[h.len];exact hi)):=Z4 _
 have hl:=h.each i _ _ hc (Z4 hi)
 exact mM (h.at_ i j _ _ _ _ hc (Z4 hi) (Z4 (by rw[hl.1,<- hl.2];exact hj)) (Z4 hj))
theorem Ce.TE{m:Mem}{w:World}{id:Nat}{T:TypeId}{sz:Nat}{els:List (List AV)}{css:List (List Value)}(h:Ce m w sz css els)(hu:U st)(ho:Own w m.w0.heap.size T sz (m.loc id).1 els.length (m.loc id).2 css):DU U m w id ⟨T,sz,st,els,true⟩:=
 ⟨⟨css,ho,fun i cs ds h1 h2=>⟨(h.each i cs ds h1 h2).2,⟨by rw[(h.each i cs ds h1 h2).1,(h.each i cs ds h1 h2).2],fun j v d a b=>JH (h.at_ i j cs ds v d h1 h2 a b)⟩,fun _ j v d a b=>h.at_ i j cs ds v d h1 h2 a b⟩⟩,hu,h.ok⟩
theorem mZ(hs:B5 U σ m a w)(hst:¬ U st)(id:Nat)(T:TypeId)(sz:Nat)(css:List (List Value))(els:List (List AV))(c:Nat)(A:Option Addr)(h:Ce m w sz css els)(hg:w.grownBy w' none)(hA:∀ g,ob A=some g->w.heap.size<=g)(ho:Own w' m.w0.heap.size T sz A els.length c css):
  Eg U st σ m w w' id ⟨T,sz,st,els,true⟩ (A,c) none/\DU (fun s=>U s∨s=st) (m.with id ⟨T,sz,st,els,true⟩ (A,c)) w' id ⟨T,sz,st,els,true⟩/\XQ (m.with id ⟨T,sz,st,els,true⟩ (A,c)) w' (.slice A els.length c) (.vw id st):=by
 have ht:Eg U st σ m w w' id ⟨T,sz,st,els,true⟩ (A,c) none:=⟨hg,s_,fun g hg=>.inr (hA g hg),.inl ⟨rfl,hst⟩⟩;refine⟨ht,(h.LZ (ht.LZ hs)).TE (.inr rfl) (by simpa [Mem.with]using ho),⟨A,_,c,rfl⟩,fun b hb _=>?_⟩;have e:(⟨T,sz,st,els,true⟩:AY)=b:=by simpa [Mem.with]using hb
 subst e;simp[Mem.with]
theorem Zot(hs:B5 U σ m a w)(hst:¬ U st)(id:Nat)(b0:AY)(hb0:σ.box id=some b0)(T:TypeId)(sz:Nat)(css:List (List Value))(els:List (List AV))(c:Nat)(A:Option Addr)(h:Ce m w sz css els)(hg:w.grownBy w' (ob (m.loc id).1))(hA:ob A=ob (m.loc id).1∨ob A=some w.heap.size)(ho:Own w' m.w0.heap.size T sz A els.length c css):
  Eg U st σ m w w' id ⟨T,sz,st,els,true⟩ (A,c) (ob (m.loc id).1)/\DU (fun s=>U s∨s=st) (m.with id ⟨T,sz,st,els,true⟩ (A,c)) w' id ⟨T,sz,st,els,true⟩/\XQ (m.with id ⟨T,sz,st,els,true⟩ (A,c)) w' (.slice A els.length c) (.vw id st):=by
 have ht:Eg U st σ m w w' id ⟨T,sz,st,els,true⟩ (A,c) (ob (m.loc id).1):=⟨hg,fun g hg=>⟨b0,hb0,hg⟩,fun g hg=>by
  rcases hA with h1|h1
  .exact .inl ⟨b0,hb0,by rw[<- h1];exact hg⟩
  .have hg':ob A=some g:=hg;rw[h1]at hg';simp at hg';exact .inr o_,.inl ⟨rfl,hst⟩⟩
 refine⟨ht,(h.LZ (ht.LZ hs)).TE (.inr rfl) (by simpa [Mem.with]using ho),⟨A,_,c,rfl⟩,fun b hb _=>?_⟩;have e:(⟨T,sz,st,els,true⟩:AY)=b:=by simpa [Mem.with]using hb
 subst e;simp[Mem.with]
theorem Zkt(hs:B5 U σ m a w)(fz:List Nat)(sz:Nat):∀ (ps:List (Nat×Operand)) (els:List (List AV)),Tx (ps.map fun p=>Az σ.env p.2)=some els->(∀ id∈els.flatMap (fun cs=>cs.flatMap EJ),id∈fz)->(∀ cs∈els,∀ c∈cs,NW σ.box c)->(∀ cs∈els,cs.length=sz/\(cs.map (G9 σ.box)).all Dj=true)->Ce (m.DT fz) w sz (ps.map fun p=>(a.eval p.2).cells.toList) (els.map fun cs=>cs.map (G9 σ.box))
 |[],els,h,_,_,_=>by simp only[List.map_nil,Tx,Zi]at h;subst h;exact .nil sz
 |p::r,els,h,hf,hk,hc=>by
  simp only[List.map_cons,Tx]at h
  split at h
  .rename_i cs l h1 h2
   obtain rfl:=Z7 h
   obtain⟨rx,ux⟩:=hs.Az p.2
   have rl:=(mJ rx h1).1
   refine Ce.cons (ds:=cs.map (G9 σ.box)) ⟨by rw[Zo];exact rl.len,fun j v d e1 e2=>?_⟩ (by rw[Zo];exact(hc cs s_).1) (hc cs s_).2 (Zkt hs fz sz r l h2 (fun id hid=>hf id (by simp at hid ⊢;exact .inr hid)) (fun x hx=>hk x (by simp[hx])) fun x hx=>hc x (by simp[hx]))
   rw[ZH]at e2
   cases hx:cs[j]? with
   |none=>rw[hx]at e2;cases e2
   |some c =>
    rw[hx]at e2
    obtain rfl:=Z7 e2
    have hcm:=Z6 hx
    have hrc:=rl.at_ j v c e1 hx
    have hD:Dj (G9 σ.box c)=true:=Zu.1 (hc cs s_).2 _ (ZB.2 ⟨c,hcm,rfl⟩)
    have hok:=hk cs s_ c hcm
    by_cases hv:∃ id s,c=.vw id s
    .obtain⟨id,s,rfl⟩:=hv
     simp only[NW,G9]at hok ⊢
     cases hb:σ.box id with
     |none=>rw[hb]at hok;exact hok.elim
     |some b =>
      rw[hb]at hok
      exact JH (mY hs hrc hb hok.1 hok.2 (hf id (by simp only[List.flatMap_cons,Z9,List.mem_flatMap];exact .inl ⟨_,hcm,by simp[EJ]⟩)))
    .have e:G9 σ.box c=c:=by cases c<;>first|rfl|exact absurd ⟨_,_,rfl⟩ hv
     rw[e]at hD ⊢
     exact JH ((TD U m w fz).Dc (Vb hrc hD))
  .cases h
theorem Zg5(sz:Nat):∀ (ps:List (Nat×Value)) (k:Nat) (pre rest:List Value),pre.length=k*sz->rest.length=ps.length*sz->ps.map (·.1)=List.range' k ps.length->(∀ p∈ps,p.2.cells.size=sz)->
  Instr.fill (fun i=>some (i*sz,sz)) (pre++rest).toArray ps=some (pre++(ps.map fun p=>p.2.cells.toList).flatten).toArray
 |[],k,pre,rest,h1,h2,_,_=>by
  simp only[List.length_nil,Nat.zero_mul]at h2
  have:=ZN h2
  subst this
  simp[Instr.fill]
 |(i,v):: r,k,pre,rest,h1,h2,h3,h4=>by
  simp only[List.map_cons,Zt,List.range'_succ,List.cons.injEq]at h3
  obtain⟨rfl,h3⟩:=h3
  have hv:v.cells.size=sz:=h4 (i,v) s_
  simp only[Zt,Nat.add_mul,Nat.one_mul]at h2
  simp only[Instr.fill]
  rw[if_neg (by simp only[Bool.or_eq_true,decide_eq_true_eq,not_or];refine⟨by simp[hv],AR⟩)]
  have MZ:=Z8G v.cells.toList (pre++rest) (i*sz) 0 AR
  have:v.cells.zipIdx.foldl (fun cs (c,j)=>cs.setIfInBounds (i*sz+j) c) (pre++rest).toArray=((pre++v.cells.toList)++rest.drop sz).toArray:=by
   rw[<- Array.foldl_toList,Array.toList_zipIdx];refine MZ.trans ?_;congr 1;rw[Nat.add_zero,<- h1,List.take_left,List.drop_append,List.drop_eq_nil_of_le o_,List.nil_append];rw[show pre.length+v.cells.toList.length-pre.length=sz by simp[hv]];simp
  rw[this,Zg5 sz r (i+1) (pre++v.cells.toList) (rest.drop sz) (by simp[h1,hv,Nat.add_mul]) AR h3 (fun p hp=>h4 p (by simp[hp]))];simp
theorem Z9Q(T:TypeId)(cells:Array Value)(w:World):(newRow T cells).run P w=.ok ⟨w.heap.size,0,none⟩ (w.alloc (.cells cells T)):=by simp[newRow,go_sem]
theorem Zbh(hs:B5 U σ m a w)(hst:¬ U st)(hd:∀ t,o.dst=some t->t<σ.n)(T:TypeId)(len:Nat)(parts:Array (Nat×Operand))(ho:o.op=.buildSlice T len parts)(d:Nat)(hdst:o.dst=some d)(E:TypeId)(hE:E4 P T=some E)(zs:List AV)(hz:YZ P E=some zs)(els:List (List AV))(he:Tx (parts.toList.map fun p=>Az σ.env p.2)=some els)(h0:0<AB P E)(hl:zs.length=AB P E)(hp:parts.toList.map (·.1)=List.range len)(hm:len*AB P E<=16777216)(hk:∀ cs∈els,∀ c∈cs,NW σ.box c)(hc:∀ cs∈els,cs.length=AB P E/\(cs.map (G9 σ.box)).all Dj=true):
  AJ P o U st σ m a w ⟨.vw d st,some (d,⟨E,AB P E,st,els.map fun cs=>cs.map (G9 σ.box),true⟩),els.flatMap fun cs=>cs.flatMap EJ,[],false,els.flatMap fun cs=>cs.flatMap EJ,[]⟩:=by
 have hr0:=Zkt hs (els.flatMap fun cs=>cs.flatMap EJ) (AB P E) parts.toList els he (fun _ h=>h) hk hc;have hs0:=hs;have hs:=hs0.freeze (els.flatMap fun cs=>cs.flatMap EJ);generalize hels:(els.map fun cs=>cs.map (G9 σ.box))=Hu at *
 generalize hfz:(els.flatMap fun cs=>cs.flatMap EJ)=fz at *
 have hr:=hr0;clear hels hc hk;have N6:parts.toList.length=len:=by have:=congrArg List.length hp;simpa using this
 have hlen:Hu.length=len:=by rw[<- hr.len];simpa using N6
 have hsz:∀ p∈(parts.toList.map fun p=>(p.1,a.eval p.2)),p.2.cells.size=AB P E:=fun p hpm=>by
  obtain⟨q,hq,rfl⟩:=ZB.1 hpm;have:=hr.zN (a.eval q.2).cells.toList (ZB.2 ⟨q,hq,rfl⟩);simpa using this
 have hlm:len<=maxLen:=by
  have:len*1<=len*AB P E:=Nat.mul_le_mul_left _ h0;unfold maxLen;omega
 have P6:(parts.toList.map fun p=>(a.eval p.2).cells.toList).length=Hu.length:=hr.len
 obtain⟨w',hw',how⟩:∃ w',w'=w.alloc (.cells (parts.toList.map fun p=>(a.eval p.2).cells.toList).flatten.toArray E)/\Own w' m.w0.heap.size E (AB P E) (some ⟨w.heap.size,0,none⟩) Hu.length Hu.length (parts.toList.map fun p=>(a.eval p.2).cells.toList):=by
  refine⟨_,rfl,?_⟩;have:=ZdA w m.w0.heap.size hs.below.size E (AB P E) (parts.toList.map fun p=>(a.eval p.2).cells.toList) hr.zN (by rw[P6,hlen];exact hlm);rwa [P6]at this
 obtain⟨h1,h2,h3⟩:=mZ hs hst d E (AB P E) _ Hu Hu.length (some ⟨w.heap.size,0,none⟩) hr (hw'▸Z8F w _ none) (fun g hg=>by simp[ob]at hg;omega) how;refine ZaA hs rfl rfl rfl hd (v:=.slice (some ⟨w.heap.size,0,none⟩) Hu.length Hu.length) ?_ (.inl rfl) h1 h2 rfl h3 (.inr rfl) (TD U m w _);rw[hlen]
 .have dC:∀ zz:List Value,zz.length=len*AB P E->Instr.fill (fun i=>some (i*AB P E,AB P E)) zz.toArray (parts.toList.map fun p=>(p.1,a.eval p.2))=some (parts.toList.map fun p=>(a.eval p.2).cells.toList).flatten.toArray:=fun zz hzz=>by
   have:=Zg5 (AB P E) (parts.toList.map fun p=>(p.1,a.eval p.2)) 0 [] zz s_ (by rw[Zo,N6];exact hzz) (by rw[List.map_map,Zo,N6,List.range'_eq_map_range];simp;rw[<- hp];simp[Function.comp_def]) hsz;simpa [List.map_map,Function.comp_def]using this
  obtain⟨iT,hiT,hsT⟩:∃ i,P.info? E=some i/\i.size=AB P E:=by
   unfold AB at h0 ⊢;cases hi:P.info? E with
   |none=>rw[hi]at h0;simp at h0
   |some i=>exact⟨i,rfl,rfl⟩
  unfold YZ at hz;rw[hiT]at hz;cases hzz:iT.zero with
  |none=>simp[hzz]at hz
  |some z =>
   have hzE:(zeroValue E).run P w=.ok z w:=by simp[zeroValue,typeInfo,hiT,hzz]
   have hzc:∀ zz:Array Value,zz.size=len*AB P E->Instr.fill (fun i=>some (i*AB P E,AB P E)) zz (parts.toList.map fun p=>(p.1,a.eval p.2))=some (parts.toList.map fun p=>(a.eval p.2).cells.toList).flatten.toArray:=fun zz h=>by
    have:=dC zz.toList (by simpa using h);simpa using this
   have hm':¬(len*AB P E > 2 ^ 24):=by omega
   rw[hw'];unfold execOp;simp only[ho,Instr.buildSlice,Sem.run_bind,run_underlying (Vd hE),Result.andThen_ok,TB h0,if_neg hm'];by_cases h00:len*AB P E=0
   .rw[if_pos h00];have:=hzc ((Array.range (len*AB P E)).map (fun i=>(#[]:Array Value)[i % (#[]:Array Value).size]!)) s_;simp only[Sem.run_pure,Result.andThen_ok,Sem.run_bind,List.map_toArray,Array.toList_map,this,Z9Q]
   .rw[if_neg h00];have:=hzc ((Array.range (len*AB P E)).map (fun i=>z.cells[i % z.cells.size]!)) s_;simp only[hzE,Sem.run_pure,Result.andThen_ok,Sem.run_bind,List.map_toArray,Array.toList_map,this,Z9Q]
end
section
variable{P:Program}{U:Nat->Prop}{st:Nat}{σ:AS}{m:Mem}{a:Act}{w:World}{o:Oper}
theorem Zi7{E:TypeId}{n:Nat}(h:(YZ P E).map (·.length)=some n):∃ i z,P.info? E=some i/\i.zero=some z/\i.size=AB P E/\i.bytes=EI P E/\z.cells.size=n:=by
 unfold YZ at h;unfold AB EI;cases hi:P.info? E with
 |none=>rw[hi]at h;simp at h
 |some i =>
  cases hz:i.zero with
  |none=>rw[hi]at h;simp[hz]at h
  |some z=>rw[hi]at h;simp[hz]at h;exact⟨i,z,rfl,hz,rfl,rfl,h⟩
theorem Zgs{sz:Nat}{vs:List Value}{ds:List AV}(r:BF m w vs ds)(hs:ds.length=sz)(hD:ds.all Dj=true):∀ n,Ce m w sz (Zk n vs) (Zk n ds)
 |0=>.nil sz
 |n+1=>by rw[List.replicate_succ,List.replicate_succ];exact .cons r hs hD (Zgs r hs hD n)
theorem ZcG(hs:B5 U σ m a w)(hst:¬ U st)(hd:∀ t,o.dst=some t->t<σ.n)(T:TypeId)(l c:Operand)(ho:o.op=.makeSlice T l c)(d:Nat)(hdst:o.dst=some d)(E:TypeId)(hE:E4 P T=some E)(k k':IntKind)(n n':Int)(hl:Az σ.env l=.int k n)(hc:Az σ.env c=.int k' n')(zs:List AV)(hz:YZ P E=some zs)(hn:n=n')(h0:0<=n)(hb:n*EI P E<=281474976710656)(hm:n<=maxLen)(h1:0<AB P E)(hlz:zs.length=AB P E)(hD:zs.all Dj=true):
  AJ P o U st σ m a w ⟨.vw d st,some (d,⟨E,AB P E,st,Zk n.toNat zs,true⟩),[],[],false,[],[]⟩:=by
 subst hn;obtain⟨N,rfl⟩:=Zl h0;have el:=Q4 (hl ▸(hs.Az l).1);have ec:=Q4 (hc ▸(hs.Az c).1);obtain⟨i,z,hi,hz',rz,ez,hDz⟩:=zL hz hD m w;have hby:i.bytes=EI P E:=by unfold EI;rw[hi];rfl
 have hsz:i.size=AB P E:=by unfold AB;rw[hi];rfl
 have hb':i.bytes*N<=281474976710656:=by
  rw[hby,Nat.mul_comm];have:((N*EI P E:Nat):Int)<=281474976710656:=by rw[Int.natCast_mul];exact hb
  omega
 have hzl:z.cells.toList.length=AB P E:=by rw[rz.len,hlz]
 obtain⟨w',hrun,how,hgr⟩:=run_make_full (P:=P) w m.w0.heap.size T E i z (AB P E) (Vd hE) hi hz' hsz k k' N hb' o_ hs.below.size
 have zO:Own w' m.w0.heap.size E (AB P E) (some ⟨w.heap.size,0,none⟩) (Zk N zs).length N (Zk N z.cells.toList):=by
  rw[List.length_replicate];refine⟨?_,s_,fun cs hcs=>by rw[List.eq_of_mem_replicate hcs,hzl]⟩;rw[ez,qD z.cells.toList N (AB P E) hzl h1]at how;exact how
 obtain⟨t1,t2,t3⟩:=mZ hs hst d E (AB P E) _ _ N (some ⟨w.heap.size,0,none⟩) (Zgs rz hlz hD N) hgr (fun g hg=>by simp[ob]at hg;omega) zO;refine AJ.turn hs hd (v:=.slice (some ⟨w.heap.size,0,none⟩) (Zk N zs).length N) ?_ (.inl rfl) t1 t2 rfl t3 (.inr rfl) rfl;rw[List.length_replicate];unfold execOp;simp only[ho,el,ec,Sem.run_bind,hrun,Result.andThen_ok,Sem.run_pure]
theorem dD(hs:B5 U σ m a w)(hst:¬ U st)(hd:∀ t,o.dst=some t->t<σ.n)(T E:TypeId)(x y:Operand)(ho:o.op=.call ⟨.builtin .append,#[x,y],#[T,T]⟩)(hE:E4 P T=some E)(h0:0<AB P E)(hz:(YZ P E).map (·.length)=some (AB P E))(id:Nat) 
  (A:Option Addr) (n c:Nat) (css:List (List Value)) (els:List (List AV)) (hx:a.eval x=.slice A n c) (how:Own w m.w0.heap.size E (AB P E) A n c css) (hr:Ce m w (AB P E) css els)
  (hA:(∃ b0,σ.box id=some b0/\ob (m.loc id).1=ob A)∨A=none)
  (A2:Option Addr) (n2 c2:Nat) (news:List (List Value)) (DV:List (List AV)) (hy:a.eval y=.slice A2 n2 c2) (hrow:Row w A2 n2 (AB P E) news) (hr2:Ce m w (AB P E) news DV)
  (h63:els.length+DV.length<=maxLen) (hby:(els.length+DV.length)* EI P E<=140737488355328) (e:Eff) (he:e.val=.vw id st/\e.bx=some (id,⟨E,AB P E,st,els++DV,true⟩)/\e.fz=[]/\e.bs=[]):AJ P o U st σ m a w e:=fun K Q hK=>by
 obtain⟨i,z,hi,hz',hsz,zQ,hzs⟩:=Zi7 hz
 have hn:els.length=n:=by rw[<- hr.len,how.len]
 have hn2:DV.length=n2:=by rw[<- hr2.len,hrow.1]
 have hone:∀ cs∈news,∀ u∈cs,u.oneCell'=true:=fun cs hcs u hu=>by
  obtain⟨q,hq,rfl⟩:=ZM hcs
  obtain⟨j,hj,rfl⟩:=ZM hu
  have hc:news[q]? = some (news[q]'hq):=Z4 _
  have LH:q<DV.length:=by rw[<- hr2.len];exact hq
  have hel:DV[q]? = some (DV[q]'LH):=Z4 _
  have hl:=hr2.each q _ _ hc hel
  exact Au.one (hr2.at_ q j _ _ _ _ hc hel (Z4 hj) (Z4 (by rw[hl.2,<- hl.1];exact hj)))
 refine qE x y T ho m.w0.heap.size E (AB P E) (EI P E) i z (Vd hE) hi hz' hsz zQ hzs h0 A n c css hx how A2 n2 c2 news hy hrow hr2.zN hone o_ (by rw[<- hn,<- hn2];exact hby) hs.below.size fun A' c' w' h1 h2 h3=>?_
 have hlen:n+n2=(els++DV).length:=by rw[Zq,hn,hn2]
 rw[hlen]at h1 ⊢
 have key:∃ row,Eg U st σ m w w' id ⟨E,AB P E,st,els++DV,true⟩ (A',c') row/\DU (fun s=>U s∨s=st) (m.with id ⟨E,AB P E,st,els++DV,true⟩ (A',c')) w' id ⟨E,AB P E,st,els++DV,true⟩/\XQ (m.with id ⟨E,AB P E,st,els++DV,true⟩ (A',c')) w' (.slice A' (els++DV).length c') (.vw id st):=by
  rcases hA with⟨b0,hb0,LU⟩| rfl
  .exact⟨_,Zot hs hst id b0 hb0 E (AB P E) (css++news) (els++DV) c' A' (hr.append hr2) (LU▸h2) (LU▸h3) h1⟩
  .refine⟨_,mZ hs hst id E (AB P E) (css++news) (els++DV) c' A' (hr.append hr2) h2 (fun g hg=>?_) h1⟩;rcases h3 with h3|h3
   .rw[h3]at hg;simp[ob]at hg
   .rw[h3]at hg;simp at hg;omega
 obtain⟨row,t1,t2,t3⟩:=key;refine hK _ w' (m.with id ⟨E,AB P E,st,els++DV,true⟩ (A',c')) ?_ rfl rfl (t1.LZ hs);unfold AS.app;rw[he.1,he.2.1,he.2.2.1,he.2.2.2];exact(t1.mU hs t2).put t3 (.inr rfl) o.dst hd
theorem dE(hs:B5 U σ m a w){x:Operand}{id s:Nat}{b:AY}(hx:Az σ.env x=.vw id s)(hb:σ.box id=some b)(hst:b.st=s)(hpl:b.pl=true):∃ css,a.eval x=.slice (m.loc id).1 b.els.length (m.loc id).2/\Own w m.w0.heap.size b.T b.sz (m.loc id).1 b.els.length (m.loc id).2 css/\Ce m w b.sz css b.els:=by
 have r:=(hs.Az x).1;rw[hx]at r;obtain⟨css,ho,hr⟩:=(hs.boxes id b hb).own;exact⟨css,r.2 b (by rw[hs.bx];exact hb) hst,ho,⟨ho.len,fun i cs ds h1 h2=>⟨ho.each cs (Z6 h1),(hr i cs ds h1 h2).1⟩,fun i j cs ds v d h1 h2 h3 h4=>(hr i cs ds h1 h2).2.2 hpl j v d h3 h4⟩⟩
theorem Znr(hs:B5 U σ m a w){y:Operand}{E:TypeId}{sz:Nat}{els:List (List AV)}(hy:Az σ.env y=.sl ns E sz els):∃ A n c css,a.eval y=.slice A n c/\Row w A n sz css/\Ce m w sz css els:=by
 have r:=(hs.Az y).1;rw[hy]at r;obtain⟨A,n,c,css,e,hS,_,hr⟩:=Va r;exact⟨A,n,c,css,e,hS.row,⟨hS.len,hS.each,fun i j cs ds v d h1 h2 h3 h4=>hr i j cs ds v d h1 h2 h3 h4⟩⟩
theorem zS(hs:B5 U σ m a w){y:Operand}(hy:Az σ.env y=.nil):a.eval y=.slice none 0 0:=TA (hy ▸(hs.Az y).1)
theorem Zoy(w:World)(sz:Nat):Row w none 0 sz []:=⟨rfl,s_⟩
theorem Zpu(hs:B5 U σ m a w)(hst:¬ U st)(hd:∀ t,o.dst=some t->t<σ.n)(pl:Pl)(h:Km P o st σ.env σ.box=some pl)(hok:pl.ok):AJ P o U st σ m a w pl.e:=by
 unfold Km at h;split at h
 case h_1 x ho=>obtain rfl:=Z7 h;exact Zj1 hs hd x (.inl ho)
 case h_2 x ho=>obtain rfl:=Z7 h;exact Zj1 hs hd x (.inr ho)
 case h_3 c x y ho =>
  split at h
  .rename_i b hc;obtain rfl:=Z7 h;exact ZoT hs hd c x y ho b hc
  .cases h
 case h_4 T ho =>
  split at h
  .rename_i d zs hdst hz;obtain rfl:=Z7 h;obtain⟨h0,hl,hD⟩:=hok;exact ZlO hs hst hd T ho d hdst zs hz h0 hl hD
  .cases h
 case h_5 T x ho =>
  split at h
  .rename_i d cs hdst hc;obtain rfl:=Z7 h;obtain⟨h0,hl,_⟩:=hok;exact ZqO hs hst hd T x ho d hdst cs hc hl
  .cases h
 case h_6 T x ho =>
  split at h
  .rename_i g id s i off hg hx;split at h
   .rename_i b hb;split at h
    .rename_i cs hi;obtain rfl:=Z7 h;obtain⟨h1,h2,h3,h4⟩:=hok;exact ZlM hs hd T x ho g hg id s i off hx b hb cs hi h1 h2 h3 h4
    .cases h
   .cases h
  .rename_i g cs off hg hx;obtain rfl:=Z7 h;obtain⟨h2,h3,h4⟩:=hok;exact ZlL hs hd T x ho g hg cs off hx h2 h3 h4
  .cases h
 case h_7 T x v ho =>
  split at h
  .rename_i id s i off vs hx hv;split at h
   .rename_i b hb;split at h
    .rename_i cs hi;obtain rfl:=Z7 h;obtain⟨h1,h2,h3,h4,h5,h6⟩:=hok;exact ZlK hs hd T x v ho id s i off hx vs hv b hb cs hi h1 h2 h3 h4 h6
    .cases h
   .cases h
  .cases h
 case h_8 T x f ho =>
  split at h
  .rename_i fo fs id s i off hf hx;split at h
   .rename_i b hb;obtain rfl:=Z7 h;obtain⟨h1,h2⟩:=hok;exact Zj7 hs hd T x f ho fo fs hf id s i off hx b hb h1 h2
   .cases h
  .rename_i fo fs cs off hf hx;obtain rfl:=Z7 h;exact Zj6 hs hd T x f ho fo fs hf cs off hx hok
  .cases h
 case h_9 T x ix ho =>
  split at h
  .rename_i k n s hix hx;split at h
   .rename_i c hc;obtain rfl:=Z7 h;exact Zeg hs hd T x ix ho hok.2 k n hix s hx c hc hok.1
   .cases h
  .rename_i k n cs hix hx;split at h
   .rename_i len E hE;split at h
    .rename_i g hg;obtain rfl:=Z7 h;obtain⟨h1,h2,h3,h4,h5⟩:=hok;exact Zeh hs hd T x ix ho len E hE g hg k n hix cs hx h1 h2 h3 h4 h5
    .cases h
   .cases h
  .cases h
 case h_10 T x ix ho =>
  split at h
  .rename_i len E hE;split at h
   .rename_i k n id s i off hix hx;split at h
    .rename_i b hb;obtain rfl:=Z7 h;obtain⟨h1,h2,h3,h4⟩:=hok;exact Zh5 hs hd T x ix ho len E hE k n hix id s i off hx b hb h1 h2 h3 h4
    .cases h
   .rename_i k n cs off hix hx;obtain rfl:=Z7 h;obtain⟨h2,h3,h4⟩:=hok;exact Zh4 hs hd T x ix ho len E hE k n hix cs off hx h2 h3 h4
   .cases h
  .rename_i hna;split at h
   .rename_i E k n ns E' sz els hE hix hx;split at h
    .rename_i cs hi;obtain rfl:=Z7 h;obtain⟨h1,h2,h3⟩:=hok;exact Zj4 hs hd T x ix ho E hE k n hix ns E' sz els hx cs hi h1 h2 h3
    .cases h
   .rename_i E k n id s hE hix hx;split at h
    .rename_i b hb;obtain rfl:=Z7 h;obtain⟨h1,h2,h3,h4,h5⟩:=hok;exact Zj5 hs hd T x ix ho E hE k n hix id s hx b hb h1 h2 h3 h4 h5
    .cases h
   .cases h
 case h_11 T parts ho =>
  split at h
  .rename_i zs Hw hz hp;split at h
   .rename_i cs hf;obtain rfl:=Z7 h;exact ZlN hs hd T parts ho zs hz Hw hp cs hf hok
   .cases h
  .cases h
 case h_12 T len parts ho =>
  split at h
  .rename_i d E hdst hE;split at h
   .rename_i zs els hz he;obtain rfl:=Z7 h;obtain⟨h0,hl,hp,hm,hk,hc⟩:=hok;exact Zbh hs hst hd T len parts ho d hdst E hE zs hz els he h0 hl hp hm hk hc
   .cases h
  .cases h
 case h_13 x k ho =>
  split at h
  .rename_i vs hx;split at h
   .rename_i v hv;obtain rfl:=Z7 h;exact Zh6 hs hd x k ho vs hx v hv
   .cases h
  .cases h
 case h_14 op T x ho =>
  split at h
  .rename_i b hx;obtain rfl:=Z7 h;exact ZqK hs hd T x ho b hx
  .rename_i k n hx;obtain rfl:=Z7 h;exact ZqL hs hd T x ho k n hx hok
  .cases h
 case h_15 op T x y T' ho =>
  split at h
  .rename_i k n k' b hx hy;split at h
   .rename_i p v hb;obtain rfl:=Z7 h;obtain⟨rfl,hp⟩:=hok;exact ZoU hs hd op T T' x y ho k n b hx hy p v hb hp
   .cases h
  .rename_i s u hx hy;split at h
   .obtain rfl:=Z7 h;exact zG hs hd _ T T' x y ho s u hx hy _ _ (.inl ⟨rfl,rfl,rfl⟩)
   .obtain rfl:=Z7 h;exact zG hs hd _ T T' x y ho s u hx hy _ _ (.inr (.inl ⟨rfl,rfl,rfl⟩))
   .obtain rfl:=Z7 h;exact zG hs hd _ T T' x y ho s u hx hy _ _ (.inr (.inr ⟨rfl,rfl,rfl,hok⟩))
   .cases h
  .rename_i s u hx hy;split at h
   .rename_i hT;obtain rfl:=Z7 h;exact Zj8 hs hd _ T T' x y ho hT s u hx hy _ (.inl ⟨rfl,rfl⟩)
   .rename_i hT;obtain rfl:=Z7 h;exact Zj8 hs hd _ T T' x y ho hT s u hx hy _ (.inr ⟨rfl,rfl⟩)
   .cases h
  .cases h
 case h_16 S T x ho =>
  split at h
  .rename_i k0 k k' n h0 hk hx;obtain rfl:=Z7 h;exact Zh7 hs hd S T x ho k0 k k' h0 hk n hx
  .cases h
 case h_17 T x lo hi mx ho =>
  split at h
  .rename_i s k l hE hx hlo
   have hl':∀ L:Nat,l=(L:Int)->(lo=none/\L=0)∨∃ ol k,lo=some ol/\Az σ.env ol=.int k (L:Int):=fun L hL=>by
    cases lo with
    |none=>simp[Tu]at hlo;exact .inl ⟨rfl,o_⟩
    |some ol=>exact .inr ⟨ol,k,rfl,by rw[<- hL];exact hlo⟩
   split at h
   .rename_i FB;obtain rfl:=Z7 h;obtain⟨h1,h2,h3,rfl⟩:=hok;obtain⟨L,rfl⟩:=Zl h1;exact Z8b (P:=P) (st:=st) (U:=U) hs hd T x lo none ho h3 s hx L s.size (hl' L rfl) (.inl ⟨rfl,rfl⟩) o_ (Zd _)
   .rename_i k2 n FB;obtain rfl:=Z7 h;obtain⟨h1,h2,h3,h4⟩:=hok;obtain⟨L,rfl⟩:=Zl h1;obtain⟨N,rfl⟩:=Zl (show 0<=n by omega);refine Z8b hs hd T x lo hi ho h4 s hx L N (hl' L rfl) ?_ o_ o_;cases hi with
    |none=>simp[Tv]at FB
    |some oh=>exact .inr ⟨oh,k2,rfl,FB⟩
   .cases h
  .rename_i E id s k l hE hx hlo
   have hl':∀ L:Nat,l=(L:Int)->(lo=none/\L=0)∨∃ ol k,lo=some ol/\Az σ.env ol=.int k (L:Int):=fun L hL=>by
    cases lo with
    |none=>simp[Tu]at hlo;exact .inl ⟨rfl,o_⟩
    |some ol=>exact .inr ⟨ol,k,rfl,by rw[<- hL];exact hlo⟩
   split at h
   .rename_i b hb;split at h
    .rename_i FB;obtain rfl:=Z7 h;obtain⟨g1,g2,h1,h2,h3,h4,rfl⟩:=hok;obtain⟨L,rfl⟩:=Zl h1;have:=ZcF (P:=P) (st:=st) (U:=U) hs hd T x lo none ho E hE id s hx b hb g1 g2 L b.els.length (hl' L rfl) (.inl ⟨rfl,rfl⟩) o_ (Zd _) h3 h4;rwa [Zp (Zd _)]at this
    .rename_i k2 n FB;obtain rfl:=Z7 h;obtain⟨g1,g2,h1,h2,h3,h4,h5⟩:=hok;obtain⟨L,rfl⟩:=Zl h1;obtain⟨N,rfl⟩:=Zl (show 0<=n by omega);refine ZcF hs hd T x lo hi ho E hE id s hx b hb g1 g2 L N (hl' L rfl) ?_ o_ o_ h4 h5;cases hi with
     |none=>simp[Tv]at FB
     |some oh=>exact .inr ⟨oh,k2,rfl,FB⟩
    .cases h
   .cases h
  .rename_i E ns E' sz els k l hE hx hlo
   have hl':∀ L:Nat,l=(L:Int)->(lo=none/\L=0)∨∃ ol k,lo=some ol/\Az σ.env ol=.int k (L:Int):=fun L hL=>by
    cases lo with
    |none=>simp[Tu]at hlo;exact .inl ⟨rfl,o_⟩
    |some ol=>exact .inr ⟨ol,k,rfl,by rw[<- hL];exact hlo⟩
   split at h
   .rename_i FB;obtain rfl:=Z7 h;obtain⟨h1,h2,h3,h4,rfl⟩:=hok;obtain⟨L,rfl⟩:=Zl h1;have:=Zfy (P:=P) (st:=st) (U:=U) hs hd T x lo none ho E hE ns E' sz els hx L els.length (hl' L rfl) (.inl ⟨rfl,rfl⟩) o_ (Zd _) h3 h4;rwa [Zp (Zd _)]at this
   .rename_i k2 n FB;obtain rfl:=Z7 h;obtain⟨h1,h2,h3,h4,h5⟩:=hok;obtain⟨L,rfl⟩:=Zl h1;obtain⟨N,rfl⟩:=Zl (show 0<=n by omega);refine Zfy hs hd T x lo hi ho E hE ns E' sz els hx L N (hl' L rfl) ?_ o_ o_ h4 h5;cases hi with
    |none=>simp[Tv]at FB
    |some oh=>exact .inr ⟨oh,k2,rfl,FB⟩
   .cases h
  .cases h
 case h_18 T l c ho =>
  split at h
  .rename_i d E k n k' n' hdst hE hl hc;split at h
   .rename_i zs hz;obtain rfl:=Z7 h;obtain⟨h1,h2,h3,h4,h5,h6,h7⟩:=hok;exact ZcG hs hst hd T l c ho d hdst E hE k k' n n' hl hc zs hz h1 h2 h3 h4 h5 h6 h7
   .cases h
  .cases h
 case h_19 c ho =>
  obtain⟨callee,args,ats⟩:=c;split at h
  .rename_i x T FD hargs IL;dsimp only at FD hargs IL;have ha:args =#[x]:=by rw[<- Array.toArray_toList (xs:=args),hargs]
   have ht:ats =#[T]:=by rw[<- Array.toArray_toList (xs:=ats),IL]
   subst FD ha ht;split at h
   .rename_i ns E sz els hx;obtain rfl:=Z7 h;obtain⟨A,n,c,css,e,hS,_⟩:=Va (hx ▸(hs.Az x).1);exact zJ hs hd x T ho hok els.length [] ⟨A,c,by rw[e,hS.lens]⟩
   .rename_i hx;obtain rfl:=Z7 h;exact zJ hs hd x T ho hok 0 [] ⟨none,0,TA (hx ▸(hs.Az x).1)⟩
   .rename_i id s hx;split at h
    .rename_i b hb;obtain rfl:=Z7 h;have r:=(hs.Az x).1;rw[hx]at r;exact zJ hs hd x T ho hok.2 b.els.length [id] ⟨_,_,r.2 b (by rw[hs.bx];exact hb) hok.1⟩
    .cases h
   .rename_i s hx;obtain rfl:=Z7 h;exact Zj2 hs hd x T ho hok s hx
   .cases h
  .rename_i x y FD hargs;dsimp only at FD hargs;have ha:args =#[x,y]:=by rw[<- Array.toArray_toList (xs:=args),hargs]
   subst FD ha;split at h
   .rename_i k n k' b hx hy;obtain rfl:=Z7 h;exact ZqM hs hd x y ats ho k k' n b hx hy
   .cases h
  .rename_i x y FD hargs;dsimp only at FD hargs;have ha:args =#[x,y]:=by rw[<- Array.toArray_toList (xs:=args),hargs]
   subst FD ha;split at h
   .rename_i k n k' b hx hy;obtain rfl:=Z7 h;exact ZqN hs hd x y ats ho k k' n b hx hy
   .cases h
  .rename_i x y T T' FD hargs IL;dsimp only at FD hargs IL;have ha:args =#[x,y]:=by rw[<- Array.toArray_toList (xs:=args),hargs]
   have ht:ats =#[T,T']:=by rw[<- Array.toArray_toList (xs:=ats),IL]
   subst FD ha ht;split at h
   .rename_i d E hdst hE hx;split at h
    .rename_i ns E' L6 Dv hy;obtain rfl:=Z7 h;obtain⟨rfl,rfl,rfl,h3,h4,h5,h6⟩:=hok;obtain⟨A2,n2,c2,css,e2,hrow,hr⟩:=Znr hs hy;exact dD hs hst hd T' E' x y ho hE h3 h4 d none 0 0 [] [] (zS hs hx) (Qz _ _ _ _) (.nil _) (.inr rfl) A2 n2 c2 css Dv e2 hrow hr (by simpa using h6) (by simpa using h5) _ ⟨rfl,rfl,rfl,rfl⟩
    .rename_i id' s' hy;split at h
     .rename_i b' hb';obtain rfl:=Z7 h;obtain⟨rfl,h1,h2,rfl,h4,h5,h6,h7,h8,h9⟩:=hok;obtain⟨css,e2,how,hr⟩:=dE hs hy hb' h1 h2;rw[h4]at hr how;exact dD hs hst hd T' b'.T x y ho hE h5 h6 d none 0 0 [] [] (zS hs hx) (Qz _ _ _ _) (.nil _) (.inr rfl) _ _ _ css b'.els e2 how.row hr (by simpa using h8) (by simpa using h7) _ ⟨rfl,rfl,rfl,rfl⟩
     .cases h
    .cases h
   .rename_i d E id s hdst hE hx;split at h
    .rename_i b ns E' L6 Dv hb hy;obtain rfl:=Z7 h;obtain⟨rfl,h1,h2,rfl,rfl,h4,rfl,h5,h6,h7,h8⟩:=hok;obtain⟨css,e1,how,hr⟩:=dE hs hx hb h1 h2;rw[h4]at hr how;obtain⟨A2,n2,c2,MN,e2,hrow,hr2⟩:=Znr hs hy;exact dD hs hst hd T' b.T x y ho hE h5 h6 id _ _ _ css b.els e1 how hr (.inl ⟨b,hb,rfl⟩) A2 n2 c2 MN Dv e2 hrow hr2 h8 h7 _ ⟨rfl,rfl,rfl,rfl⟩
    .rename_i b hb hy;obtain rfl:=Z7 h;obtain⟨rfl,h1,h2,rfl,h4,h5,h6,h7,h8⟩:=hok;obtain⟨css,e1,how,hr⟩:=dE hs hx hb h1 h2;rw[h4]at hr how;exact dD hs hst hd T' b.T x y ho hE h5 h6 id _ _ _ css b.els e1 how hr (.inl ⟨b,hb,rfl⟩) none 0 0 [] [] (zS hs hy) (Zoy _ _) (.nil _) (by simpa using h8) (by simpa using h7) _ ⟨rfl,s_,rfl,rfl⟩
    .rename_i b id' s' hb hy;split at h
     .rename_i b' hb';obtain rfl:=Z7 h;obtain⟨rfl,h1,h2,rfl,h4,g1,g2,g3,g4,h5,h6,h7,h8,h9⟩:=hok;obtain⟨css,e1,how,hr⟩:=dE hs hx hb h1 h2;rw[h4]at hr how;obtain⟨MN,e2,dG,hr2⟩:=dE hs hy hb' g1 g2;rw[g4]at hr2 dG;exact dD hs hst hd T' b.T x y ho hE h5 h6 id _ _ _ css b.els e1 how hr (.inl ⟨b,hb,rfl⟩) _ _ _ MN b'.els e2 dG.row hr2 h8 h7 _ ⟨rfl,rfl,rfl,rfl⟩
     .cases h
    .cases h
   .cases h
  .cases h
 case h_20=>cases h
end
def TF:AV->Option (TypeId×Nat×List (List AV))
 |.own E sz els=>some (E,sz,els)
 |_=>none
def N7:AV->Option (TypeId×Nat×List (List AV))
 |.tup ds=>ds.findSome? TF
 |d=>TF d
def Kn(x:AV):AV->AV
 |.own _ _ _=>x
 |d=>d
def NY(x:AV):AV->AV
 |.tup ds=>.tup (ds.map (Kn x))
 |d=>Kn x d
def P7:AV->Bool
 |.agg cs=>cs.all Dj
 |.own _ _ _=>true
 |d=>Dj d
def GG:AV->Bool
 |.tup ds=>ds.all P7
 |d=>P7 d
def Gp(r:AV)(st:Nat):Option AY:=(N7 r).map fun x=>⟨x.1,x.2.1,st,x.2.2,true⟩
def Hy(w:World)(F:Nat->Prop):Mem:=⟨w,F,fun _=>(none,0),fun _=>none⟩
def TG(w:World)(F:Nat->Prop)(w':World)(v:Value)(r:AV):Prop :=
 ∃ m:Mem,m.w0=w/\m.F=F/\(∀ j,m.bx j=if j=0 then Gp r 0 else none)/\(∀ b,Gp r 0=some b->DU (fun _=>True) m w' 0 b)/\XQ m w' v (NY (.vw 0 0) r)
def Spec(P:Program)(f:FuncId)(ds:List AV)(r:AV):Prop :=
 GG r=true/\(∀ args w,(callFunc f args).run P w=.ok (.enter f args) w)/\
 ∀ (w:World) (F:Nat->Prop) (vs:List Value),vs.length=ds.length->(∀ (j:Nat) v d,vs[j]? = some v->ds[j]? = some d->Ez (Hy w F) w v d)->
  Calls P f vs.toArray w fun e w'=>∃ v,e=.returned v/\TG w F w' v r/\Below w.heap.size w w'
def Hz(fz:List Nat)(box:Nat->Option AY):AV->AV
 |.vw id st=>match box id with|some b=>.sl (!fz.contains id) b.T b.sz b.els|none=>.Zbt
 |d=>d
def Lb(box:Nat->Option AY):AV->Prop
 |.vw id st=>match box id with|some b=>b.st=st/\b.pl=true|none=>False
 |d=>KY d=true
def IM(fz:List Nat)(box:Nat->Option AY):AV->AV
 |.agg cs=>.agg (cs.map (Hz fz box))
 |d=>Hz fz box d
def N8(box:Nat->Option AY):AV->Prop
 |.agg cs=>∀ c∈cs,Lb box c
 |d=>Lb box d
def EK:AV->List Nat
 |.agg cs=>cs.flatMap EJ
 |d=>EJ d
def X8(d st:Nat)(rd:List Nat)(fz:List Nat)(r:AV):Eff:=match Gp r st with
 |some b=>⟨NY (.vw d st) r,some (d,b),rd,[],false,fz,[]⟩
 |none=>⟨r,none,rd,[],true,fz,[]⟩
def plC(P:Program)(o:Oper)(st:Nat)(env:Nat->AV)(box:Nat->Option AY)(pl:Pl):Prop :=
 ∃ f args ats r fz,o.op=.call ⟨.value (.func f),args,ats⟩/\Spec P f (args.toList.map fun x=>IM fz box (Az env x)) r /\
  pl=⟨∀ x∈args.toList,N8 box (Az env x),X8 (o.dst.getD 0) st (args.toList.flatMap fun x=>EK (Az env x)) fz r⟩
section
variable{P:Program}{U:Nat->Prop}{st:Nat}{σ:AS}{m:Mem}{a:Act}{w:World}{o:Oper}
theorem ZqW{g:Nat}(hg:m.S w g)(F:Nat->Prop):(Hy w F).S w g:=⟨hg.1,fun hM=>by obtain⟨_,_,e,_⟩:=hM;cases e⟩
theorem Zrh(m:Mem)(w:World)(fz:List Nat){g:Nat}(hg:m.R w g):(Hy w ((m.DT fz).R w)).R w g:=⟨⟨hg.1.1,fun hM=>by obtain⟨_,_,e,_⟩:=hM;cases e⟩,fun _=>(TD (fun _=>True) m w fz).R g hg⟩
theorem Zrg(m:Mem)(w:World){g:Nat}(hg:m.R w g):(Hy w (m.R w)).R w g:=⟨⟨hg.1.1,fun hM=>by obtain⟨_,_,e,_⟩:=hM;cases e⟩,fun _=>hg⟩
theorem Zgk(hs:B5 U σ m a w)(fz:List Nat){v:Value}{d:AV}(r:BB m w v d)(hok:Lb σ.box d):BB (Hy w ((m.DT fz).R w)) w v (Hz fz σ.box d):=by
 have hR:∀ g,m.R w g->(Hy w ((m.DT fz).R w)).R w g:=fun g hg=>Zrh m w fz hg
 cases d
 case vw id s =>
  simp only[Lb]at hok;simp only[Hz];cases hb:σ.box id with
  |none=>rw[hb]at hok;exact hok.elim
  |some b =>
   rw[hb]at hok;obtain⟨h1,h2⟩:=hok;by_cases hid:fz.contains id=true
   .dsimp only;rw[hid];exact JH ((mY hs r hb h1 h2 (by simpa using hid)).keep (fun _ _=>rfl) (fun g hg=>Zrg (m.DT fz) w hg))
   .have zT:fz.contains id=false:=by simpa using hid
    dsimp only;rw[zT];have hv:=r.2 b (by rw[hs.bx];exact hb) h1;obtain⟨css,ho,hr⟩:=(hs.boxes id b hb).own;refine⟨_,_,_,css,hv,⟨ho.row,fun p hp=>?_,mW ho,ho.len,fun i cs ds e1 e2=>⟨ho.each cs (Z6 e1),(hr i cs ds e1 e2).1⟩⟩,fun i j cs ds x d e1 e2 e3 e4=>?_⟩
    .obtain⟨q1,q2⟩:=mX ho p hp;exact⟨⟨q1,fun hM=>by obtain⟨_,_,e,_⟩:=hM;cases e⟩,q2⟩
    .exact((hr i cs ds e1 e2).2.2 h2 j x d e3 e4).keep (fun _ _=>rfl) hR
 case sl ns E sz els =>
  cases ns with
  |false=>exact Au.keep (fun _ _=>rfl) hR (show Au (m.R w) w v _ from r)
  |true =>
   obtain⟨A,n,c,css,rfl,h1,h2⟩:=r;exact⟨A,n,c,css,rfl,h1.keep (fun _ _=>rfl) (fun g hg=>ZqW hg _),fun i j cs ds x d a b c e=>(h2 i j cs ds x d a b c e).keep (fun _ _=>rfl) hR⟩
 case bool=>exact Au.keep (fun _ _=>rfl) hR (show Au (m.R w) w v _ from r)
 case int=>exact Au.keep (fun _ _=>rfl) hR (show Au (m.R w) w v _ from r)
 case str=>exact Au.keep (fun _ _=>rfl) hR (show Au (m.R w) w v _ from r)
 case nil=>exact Au.keep (fun _ _=>rfl) hR (show Au (m.R w) w v _ from r)
 all_goals cases hok
theorem Znv{v:Value}{d:AV}(r:XQ m w v d)(hok:N8 σ.box d):Ez m w v d:=by
 cases d
 case ptr=>cases hok
 case pe=>cases hok
 case tup=>cases hok
 case und=>cases hok
 case Zbt=>cases hok
 all_goals exact r
theorem zU{m:Mem}{w:World}{v:Value}{d:AV}(h:∀ cs,d≠.agg cs):Ez m w v d↔BB m w v d:=by
 cases d<;>first|exact Iff.rfl|exact absurd rfl (h _)
theorem nC{box:Nat->Option AY}{d:AV}(h:∀ cs,d≠.agg cs):N8 box d↔Lb box d:=by
 cases d<;>first|exact Iff.rfl|exact absurd rfl (h _)
theorem nD{fz:List Nat}{box:Nat->Option AY}{d:AV}(h:∀ cs,d≠.agg cs):IM fz box d=Hz fz box d:=by
 cases d<;>first|rfl|exact absurd rfl (h _)
theorem ZhM(fz:List Nat)(box:Nat->Option AY){d:AV}(hd:∀ cs,d≠.agg cs):∀ cs,Hz fz box d≠.agg cs:=fun cs e=>by
 cases d<;>simp only[Hz]at e<;>first|exact hd _ e |(split at e<;>cases e)| cases e
theorem ZmY(hs:B5 U σ m a w)(fz:List Nat){v:Value}{d:AV}(r:XQ m w v d)(hok:N8 σ.box d):Ez (Hy w ((m.DT fz).R w)) w v (IM fz σ.box d):=by
 have r':=Znv r hok;by_cases ht:∃ cs,d=.agg cs
 .obtain⟨cs,rfl⟩:=ht;obtain⟨vs,rfl,rl⟩:=r';refine⟨vs,rfl,by rw[Zo];exact rl.len,fun j x d h1 h2=>?_⟩;rw[ZH]at h2;cases hc:cs[j]? with
  |none=>rw[hc]at h2;cases h2
  |some c =>
   rw[hc]at h2;obtain rfl:=Z7 h2;exact Zgk hs fz (rl.at_ j x c h1 hc) (hok c (Z6 hc))
 .have h:∀ cs,d≠.agg cs:=fun cs e=>ht ⟨cs,e⟩
  rw[nD h,zU (ZhM _ _ h)];exact Zgk hs fz ((zU h).1 r') ((nC h).1 hok)
theorem Zfm{m:Mem}(hR:∀ g,m.R w' g->m'.R w' g){v:Value}{d:AV}(r:BB m w' v d)(hd:Dj d=true):BB m' w' v d :=
 JH ((Vb r hd).keep (fun _ _=>rfl) hR)
theorem zV{m:Mem}{w:World}{v:Value}{d:AV}(hd:Dj d=true):Ez m w v d↔BB m w v d:=by
 cases d<;>first|exact Iff.rfl|cases hd
theorem Zh8{d:AV}(h:P7 d=true):(∃ E sz els,d=.own E sz els)∨(∃ cs,d=.agg cs/\cs.all Dj=true)∨Dj d=true:=by
 cases d
 case own E sz els=>exact .inl ⟨E,sz,els,rfl⟩
 case agg cs=>exact .inr (.inl ⟨cs,rfl,h⟩)
 all_goals exact .inr (.inr h)
theorem ZjU{x d:AV}(h:Dj d=true):Kn x d=d:=by cases d<;>first|rfl|cases h
theorem Zfl{m:Mem}(hR:∀ g,m.R w' g->m'.R w' g){x y:AV}{v:Value}(hx:∃ i s,x=.vw i s)(hy:∃ i s,y=.vw i s)(hxy:BB m w' v x->BB m' w' v y){d:AV}(r:Ez m w' v (Kn x d))(hok:P7 d=true):Ez m' w' v (Kn y d):=by
 obtain⟨i,s,rfl⟩:=hx;obtain⟨i',s',rfl⟩:=hy;rcases Zh8 hok with⟨E,sz,els,rfl⟩|⟨cs,rfl,hcs⟩| hD
 .exact hxy r
 .obtain⟨vs,rfl,rl⟩:=r;exact⟨vs,rfl,rl.len,fun j v d h1 h2=>Zfm hR (rl.at_ j v d h1 h2) (Zu.1 hcs d (Z6 h2))⟩
 .rw[ZjU hD]at r ⊢;exact(zV hD).2 (Zfm hR ((zV hD).1 r) hD)
theorem zX{m:Mem}{w:World}{v:Value}{x d:AV}(hx:∃ i s,x=.vw i s)(hok:P7 d=true):XQ m w v (Kn x d)↔ Ez m w v (Kn x d):=by
 obtain⟨i,s,rfl⟩:=hx;cases d
 case tup=>cases hok
 case ptr=>cases hok
 case pe=>cases hok
 case und=>cases hok
 case Zbt=>cases hok
 all_goals exact Iff.rfl
theorem Z9K{x d:AV}(h:∀ ds,d≠.tup ds):NY x d=Kn x d:=by cases d<;>first|rfl|exact absurd rfl (h _)
theorem Zfk{m:Mem}(hR:∀ g,m.R w' g->m'.R w' g){x y:AV}(hx:∃ i s,x=.vw i s)(hy:∃ i s,y=.vw i s)(hxy:∀ v,BB m w' v x->BB m' w' v y){v:Value}{d:AV}(r:XQ m w' v (NY x d))(hok:GG d=true):XQ m' w' v (NY y d):=by
 by_cases ht:∃ ds,d=.tup ds
 .obtain⟨ds,rfl⟩:=ht;obtain⟨vs,rfl,hl,hr⟩:=r;refine⟨vs,rfl,by simpa using hl,fun j v d h1 h2=>?_⟩;rw[ZH]at h2;cases hc:ds[j]? with
  |none=>rw[hc]at h2;cases h2
  |some c =>
   rw[hc]at h2;obtain rfl:=Z7 h2;exact Zfl hR hx hy (hxy v) (hr j v _ h1 (by rw[ZH,hc];rfl)) (Zu.1 hok c (Z6 hc))
 .have ht':∀ ds,d≠.tup ds:=fun ds e=>ht ⟨ds,e⟩
  rw[Z9K ht']at r ⊢;have hok':P7 d=true:=by cases d<;>first|exact hok|exact absurd rfl (ht' _)
  exact(zX hy hok').2 (Zfl hR hx hy (hxy v) ((zX hx hok').1 r) hok')
theorem ZlR{U:Nat->Prop}{i s:Nat}(hs:U s){d:AV}(hok:P7 d=true):G8 U (Kn (.vw i s) d):=by
 cases d
 case own=>exact hs
 case agg cs=>exact fun c hc=>bV (Zu.1 hok c hc)
 case vw=>cases hok
 all_goals trivial
theorem Zfz{U:Nat->Prop}{i s:Nat}(hs:U s){d:AV}(hok:GG d=true):okV U (NY (.vw i s) d):=by
 cases d
 case tup ds =>
  intro d hd;obtain⟨c,hc,rfl⟩:=ZB.1 hd;exact ZlR hs (Zu.1 hok c hc)
 case own=>exact hs
 case agg cs=>exact fun c hc=>bV (Zu.1 hok c hc)
 case vw=>cases hok
 case ptr=>cases hok
 all_goals trivial
theorem Zos{x d:AV}(h:TF d=none):Kn x d=d:=by cases d<;>first|rfl|cases h
theorem nE{x d:AV}(h:N7 d=none):NY x d=d:=by
 cases d
 case tup ds =>
  simp only[NY];congr 1;have:∀ c∈ds,TF c=none:=List.findSome?_eq_none_iff.1 h;have h2:ds.map (Kn x)=ds.map id:=List.map_congr_left fun c hc=>Zos (this c hc)
  rw[h2,List.map_id]
 all_goals first|rfl|cases h
theorem Zfg(hf:∀ args w,(callFunc f args).run P w=.ok (.enter f args) w)(args:Array Operand)(ats:Array TypeId)(ho:o.op=.call ⟨.value (.func f),args,ats⟩):(execOp a.eval o).run P w=.ok (.enter f (args.map a.eval)) w:=by
 unfold execOp;simp only[ho,resolve,Act.eval,Deferred.ofValue,invoke,Sem.run_bind,Sem.run_pure,Result.andThen_ok];have:=hf (args.map a.eval) w;simpa [Act.eval]using this
theorem ZqE(hs:B5 U σ m a w)(hst:¬ U st)(hd:∀ t,o.dst=some t->t<σ.n)(pl:Pl)(h:plC P o st σ.env σ.box pl)(hok:pl.ok):AJ P o U st σ m a w pl.e:=by
 obtain⟨f,args,ats,r,fz,ho,⟨hR,hf,hsp⟩,rfl⟩:=h;intro K Q hK;unfold Oper.wp;rw[Zfg hf args ats ho,Oper.upon_enter]
 have hc:=hsp w ((m.DT fz).R w) (args.toList.map a.eval) (by rw[Zo,Zo]) (fun j v d h1 h2=>by
  rw[ZH]at h1 h2;cases hx:args.toList[j]? with
  |none=>rw[hx]at h1;cases h1
  |some x =>
   rw[hx]at h1 h2;obtain rfl:=Z7 h1;obtain rfl:=Z7 h2;exact ZmY hs fz (hs.Az x).1 (hok x (Z6 hx)))
 have hs0:=hs;have dH:=TD U m w fz;have hs:=hs0.freeze fz;have hd1:∀ t,o.dst=some t->t <(σ.E8 fz).n:=fun t ht=>by rw[(cB σ fz).2.1];exact hd t ht
 obtain⟨σ1,N9⟩:∃ s,s=σ.E8 fz:=⟨_,rfl⟩;obtain⟨m1,hm1⟩:∃ x,x=m.DT fz:=⟨_,rfl⟩;have GH:m1.w0=m.w0:=by rw[hm1];rfl
 have eF0:m1.F=m.F:=by rw[hm1];rfl
 rw[<- N9]at hs hd1;rw[<- hm1]at hs hc dH;clear hd hok
 replace hK:∀ v w' m',B5 (fun s=>U s∨s=st) (match (X8 (o.dst.getD 0) st (args.toList.flatMap fun x=>EK (Go.Proofs.YtcnbphnnfmphlaaGreatDoor.Az σ.env x)) fz r).bx with
  |some p=>(σ1.Bc p).put o.dst (X8 (o.dst.getD 0) st (args.toList.flatMap fun x=>EK (Go.Proofs.YtcnbphnnfmphlaaGreatDoor.Az σ.env x)) fz r).val
  |none=>σ1.put o.dst (X8 (o.dst.getD 0) st (args.toList.flatMap fun x=>EK (Go.Proofs.YtcnbphnnfmphlaaGreatDoor.Az σ.env x)) fz r).val) m' (a.put o.dst v) w'->m'.w0=m1.w0->m'.F=m1.F->Cj U m1 w m' w'->K (a.put o.dst v) w':=fun v w' m' h1 h2 h3 h4=>by
  refine hK v w' m' ?_ (h2.trans GH) (h3.trans eF0) (dH.trans h4);rw[bW _ _ _ (by unfold X8;split<;>rfl)];have hfz:(X8 (o.dst.getD 0) st (args.toList.flatMap fun x=>EK (Go.Proofs.YtcnbphnnfmphlaaGreatDoor.Az σ.env x)) fz r).fz=fz:=by unfold X8;split<;>rfl
  rw[hfz,<- N9];exact h1
 have harr:(args.toList.map a.eval).toArray=args.map a.eval:=by
  cases args with
  |mk l=>exact(List.map_toArray (f:=a.eval) (l:=l)).symm
 rw[harr]at hc;refine Calls.mono hc fun e w' he=>?_
 obtain⟨v,rfl,⟨mc,e0,eF,Lc,hB,hv⟩,hb⟩:=he;show K (a.put o.dst v) w';have hg:∀ row,w.grownBy w' row:=fun row=>qF hb row
 cases hown:Gp r 0 with
 |none =>
  have zY:N7 r=none:=by
   unfold Gp at hown;cases h:N7 r with
   |none=>rfl
   |some x=>rw[h]at hown;cases hown
  have hst':Gp r st=none:=by unfold Gp;rw[zY];rfl
  have ev:Cj U m1 w m1 w':=⟨rfl,rfl,fun g hg=>⟨hb.block g hg.1,Zf hg.1 hb.size,hg.2⟩,fun id b h _=>⟨b,h,rfl,rfl,rfl,rfl⟩⟩
  have hRR:∀ g,mc.R w' g->m1.R w' g:=fun g hg=>by
   obtain⟨⟨h1,h2⟩,h3⟩:=hg;rw[e0,eF]at h3;refine⟨⟨h1,fun hM=>?_⟩,fun hl=>?_⟩
   .obtain⟨id,b,q1,q2⟩:=hM;have:=(hs.blk (by rw[<- hs.bx];exact q1) q2).2;exact(h3 this).1.2 ⟨id,b,q1,q2⟩
   .exact(h3 (Zf hl hs.below.size)).2 hl
  have hbw:Below m1.w0.heap.size m1.w0 w':=hs.below.trans (hb.mono hs.below.size)
  have hs':B5 (fun s=>U s∨s=st) σ1 m1 a w':=⟨hs.bx,hbw,hs.defers,hs.size,fun t=>ev.Ht (hs.slots t) (hs.ok t),fun t=>okV.mono (fun s h=>.inl h) (hs.ok t),fun id b hbx=>by
   obtain⟨⟨css,ho,hr⟩,q2,q3⟩:=hs.boxes id b hbx
   exact⟨⟨css,Own.grown ho (hg none) (fun g hg e=>by cases e),fun i cs ds a1 a2=>by
    obtain⟨r1,r2,r3⟩:=hr i cs ds a1 a2;exact⟨r1,ev.EE r2 (q3 ds (Z6 a2)),fun hp j v d x y=>ev.Dc (r3 hp j v d x y)⟩⟩,.inl q2,fun ds hd d hdd=>Bu.mono (fun s h=>.inl h) (q3 ds hd d hdd)⟩,hs.inj⟩
  refine hK v w' m1 ?_ rfl rfl (ev.mono fun s h=>h);unfold X8;rw[hst']
  have hv':XQ m1 w' v (NY (.vw 0 st) r):=Zfk hRR ⟨_,_,rfl⟩ ⟨_,_,rfl⟩ (fun v hc=>by
   obtain⟨h1,h2⟩:=hc;refine⟨h1,fun b hb zZ=>?_⟩;have:=(hs.boxes 0 b (by rw[<- hs.bx];exact hb)).st;rw[zZ]at this;exact absurd this hst) hv hR
  rw[nE zY]at hv';have hok':=Zfz (U:=fun s=>U s∨s=st) (i:=0) (s:=st) (.inr rfl) hR;rw[nE zY]at hok';exact hs'.put hv' hok' o.dst hd1
 |some b0 =>
  obtain⟨E,sz,els,rfl,hst'⟩:∃ E sz els,b0=⟨E,sz,0,els,true⟩/\Gp r st=some ⟨E,sz,st,els,true⟩:=by
   unfold Gp at hown ⊢;cases h:N7 r with
   |none=>rw[h]at hown;cases hown
   |some x=>rw[h]at hown;exact⟨x.1,x.2.1,x.2.2,(Z7 hown).symm,rfl⟩
  obtain⟨⟨css,ho,hr⟩,_,_⟩:=hB _ hown;dsimp only at ho hr;have dI:mc.bx 0=some ⟨E,sz,0,els,true⟩:=by rw[Lc 0,if_pos rfl,hown]
  have ht:Eg U st σ1 m1 w w' (o.dst.getD 0) ⟨E,sz,st,els,true⟩ (mc.loc 0) none :=
   ⟨hg none,s_,fun g hg=>.inr (by have:=(ho.lt g hg).1;rwa [e0]at this),.inl ⟨rfl,hst⟩⟩
  have ev:=ht.LZ hs
  have hRR:∀ g,mc.R w' g->(m1.with (o.dst.getD 0) ⟨E,sz,st,els,true⟩ (mc.loc 0)).R w' g:=fun g hg=>by
   obtain⟨⟨h1,h2⟩,h3⟩:=hg;rw[e0,eF]at h3;refine⟨⟨h1,fun hM=>?_⟩,fun hl=>?_⟩
   .obtain⟨id,b,q1,q2⟩:=hM;by_cases hi:id=o.dst.getD 0
    .subst hi;exact h2 ⟨0,_,dI,by simpa [Mem.with]using q2⟩
    .have q1':m1.bx id=some b:=by simpa [Mem.with,hi]using q1
     have q2':ob (m1.loc id).1=some g:=by simpa [Mem.with,hi]using q2
     have:=(hs.blk (by rw[<- hs.bx];exact q1') q2').2;exact(h3 this).1.2 ⟨id,b,q1',q2'⟩
   .exact(h3 (Zf hl hs.below.size)).2 hl
  have hE:Ce (m1.with (o.dst.getD 0) ⟨E,sz,st,els,true⟩ (mc.loc 0)) w' sz css els:=⟨ho.len,fun i cs ds a1 a2=>⟨ho.each cs (Z6 a1),(hr i cs ds a1 a2).1⟩,fun i j cs ds v d a1 a2 a3 a4=>((hr i cs ds a1 a2).2.2 rfl j v d a3 a4).keep (fun _ _=>rfl) hRR⟩
  have N5:=hE.TE (st:=st) (U:=fun s=>U s∨s=st) (id:=o.dst.getD 0) (T:=E) (.inr rfl) (by
   have e1:(m1.with (o.dst.getD 0) ⟨E,sz,st,els,true⟩ (mc.loc 0)).loc (o.dst.getD 0)=mc.loc 0:=by simp[Mem.with]
   rw[e1];rw[e0]at ho;exact ho.Ay hs.below.size)
  refine hK v w' (m1.with (o.dst.getD 0) ⟨E,sz,st,els,true⟩ (mc.loc 0)) ?_ rfl rfl ev;unfold X8;rw[hst'];refine(ht.mU hs N5).put (Zfk hRR ⟨_,_,rfl⟩ ⟨_,_,rfl⟩ (fun v hc=>?_) hv hR) (Zfz (.inr rfl) hR) o.dst hd1;obtain⟨h1,h2⟩:=hc;refine⟨h1,fun b hb _=>?_⟩;have e1:(⟨E,sz,st,els,true⟩:AY)=b:=by simpa [Mem.with]using hb
  subst e1;have:=h2 _ dI rfl;simpa [Mem.with]using this
end
section
variable{P:Program}{o:Oper}{st:Nat}{env env':Nat->AV}{box box':Nat->Option AY}
theorem Zkm{x:Operand}(h:∀ t,x=.tmp t->env' t=env t):Az env' x=Az env x:=by
 cases x with
 |tmp t=>exact h t rfl
 |_=>rfl
theorem Ztt{α:Type}{f g:Operand->α}{l:List (Nat×Operand)}(h:∀ x∈l.map (·.2),f x=g x):(l.map fun p=>f p.2)=l.map fun p=>g p.2:=List.map_congr_left fun p hp=>h p.2 (ZB.2 ⟨p,hp,rfl⟩)
theorem Zst{α:Type}{f g:Operand->α}{l:List (Nat×Operand)}(h:∀ x∈l.map (·.2),f x=g x):(l.map fun p=>(p.1,f p.2))=l.map fun p=>(p.1,g p.2):=List.map_congr_left fun p hp=>by rw[h p.2 (ZB.2 ⟨p,hp,rfl⟩)]
theorem Zmz(h:∀ x∈o.op.operands.toList,Az env' x=Az env x):Km P o st env' box=Km P o st env box:=by
 unfold Km;cases ho:o.op<;>simp only[ho,Op.operands]at h<;>try rfl
 case move x=>dsimp only;rw[h x s_]
 case assign x=>dsimp only;rw[h x s_]
 case pick c x y=>dsimp only;rw[h c s_,h x s_,h y s_]
 case box T x=>dsimp only;rw[h x s_]
 case load T x=>dsimp only;rw[h x s_]
 case store T x v=>dsimp only;rw[h x s_,h v s_]
 case fieldAddr T x f=>dsimp only;rw[h x s_]
 case indexAddr T x ix=>dsimp only;rw[h x s_,h ix s_]
 case index T x ix=>dsimp only;rw[h x s_,h ix s_]
 case build T ps =>
  have e:(ps.toList.map fun p=>(p.1,Az env' p.2))=ps.toList.map fun p=>(p.1,Az env p.2):=Zst (by simpa using h)
  dsimp only;rw[e]
 case buildSlice T n ps =>
  have e:(ps.toList.map fun p=>Az env' p.2)=ps.toList.map fun p=>Az env p.2:=Ztt (by simpa using h)
  dsimp only;rw[e]
 case extract x k=>dsimp only;rw[h x s_]
 case unOp op T x=>dsimp only;rw[h x s_]
 case binOp op T x y T'=>dsimp only;rw[h x s_,h y s_]
 case convert S T x=>dsimp only;rw[h x s_]
 case makeSlice T l c=>dsimp only;rw[h l s_,h c s_]
 case slice T x lo hi mx =>
  have e1:Tu env' lo=Tu env lo:=by cases lo with
   |none=>rfl
   |some l=>exact h l s_
  have e2:Tv env' hi=Tv env hi:=by cases hi with
   |none=>rfl
   |some l=>exact h l s_
  dsimp only;rw[h x s_,e1,e2]
 case call c =>
  obtain⟨callee,args,ats⟩:=c
  have ha:∀ x∈args.toList,Az env' x=Az env x:=fun x hx=>h x (by
   simp only[Call.operands,Array.toList_append,Z9];exact .inr hx)
  dsimp only;split
  .rename_i x T h2 _;rw[ha x (by rw[h2];simp)]
  .rename_i x y h2;rw[ha x (by rw[h2];simp),ha y (by rw[h2];simp)]
  .rename_i x y h2;rw[ha x (by rw[h2];simp),ha y (by rw[h2];simp)]
  .rename_i x y T T' h2 _;rw[ha x (by rw[h2];simp),ha y (by rw[h2];simp)]
  .rfl
theorem Zah{c:AV}(h:∀ id∈EJ c,box' id=box id):G9 box' c=G9 box c/\(NW box c->NW box' c):=by
 cases c
 case vw id s=>simp only[G9,NW,h id (by simp[EJ])];exact⟨trivial,fun a=>a⟩
 all_goals exact⟨rfl,fun a=>a⟩
theorem Zk6{els:List (List AV)}(h:∀ id∈els.flatMap (fun cs=>cs.flatMap EJ),box' id=box id):(els.map fun cs=>cs.map (G9 box'))=(els.map fun cs=>cs.map (G9 box))/\∀ cs∈els,cs.map (G9 box')=cs.map (G9 box)/\∀ c∈cs,NW box c->NW box' c:=by
 have key:∀ cs∈els,∀ c∈cs,∀ id∈EJ c,box' id=box id:=fun cs hcs c hc id hid=>h id (List.mem_flatMap.2 ⟨cs,hcs,List.mem_flatMap.2 ⟨c,hc,hid⟩⟩)
 have k2:∀ cs∈els,cs.map (G9 box')=cs.map (G9 box):=fun cs hcs=>List.map_congr_left fun c hc=>(Zah (key cs hcs c hc)).1
 exact⟨List.map_congr_left k2,fun cs hcs=>⟨k2 cs hcs,fun c hc=>(Zah (key cs hcs c hc)).2⟩⟩
def dJ(b b':Option AY):Prop:=(∀ x,b=some x->∃ x',b'=some x'/\x'.T=x.T/\x'.sz=x.sz/\x'.st=x.st/\x'.els.length=x.els.length/\x'.pl=x.pl)
theorem ZmA{pl:Pl}(h:Km P o st env box=some pl)(hr:∀ id∈pl.e.rd,box' id=box id)(hs:∀ id∈pl.e.rs,dJ (box id) (box' id)):∃ Hw,Km P o st env box'=some Hw/\Hw.e=pl.e/\(pl.ok->Hw.ok):=by
 unfold Km at h ⊢;cases ho:o.op<;>simp only[ho]at h ⊢<;>try exact⟨pl,h,rfl,id⟩
 case buildSlice T n ps =>
  split at h
  .rename_i d E hdst hE;split at h
   .rename_i zs els hz he;obtain rfl:=Z7 h;obtain⟨k1,k2⟩:=Zk6 (box:=box) (box':=box') (els:=els) hr;refine⟨_,rfl,by simp only[k1],fun⟨h1,h2,h3,h4,h5,h6⟩=>⟨h1,h2,h3,h4,fun cs hcs c hc=>(k2 cs hcs).2 c hc (h5 cs hcs c hc),fun cs hcs=>⟨(h6 cs hcs).1,by rw[(k2 cs hcs).1];exact(h6 cs hcs).2⟩⟩⟩
   .cases h
  .cases h
 case load T x =>
  split at h
  .rename_i g id s i off hg hx;split at h
   .rename_i b hb;split at h
    .rename_i cs hi;obtain rfl:=Z7 h;rw[hr id s_,hb];dsimp only;rw[hi];exact⟨_,rfl,rfl,fun a=>a⟩
    .cases h
   .cases h
  .exact⟨pl,h,rfl,id⟩
  .cases h
 case store T x v =>
  split at h
  .rename_i id s i off vs hx hv;split at h
   .rename_i b hb;split at h
    .rename_i cs hi;obtain rfl:=Z7 h;rw[hr id s_,hb];dsimp only;rw[hi];exact⟨_,rfl,rfl,fun a=>a⟩
    .cases h
   .cases h
  .cases h
 case fieldAddr T x f =>
  split at h
  .rename_i fo fs id s i off hf hx;split at h
   .rename_i b hb;obtain rfl:=Z7 h;obtain⟨b',e1,e2,e3,e4,e5,e6⟩:=hs id s_ b hb;rw[e1];exact⟨_,rfl,rfl,fun hk=>⟨by rw[e4];exact hk.1,hk.2⟩⟩
   .cases h
  .exact⟨pl,h,rfl,id⟩
  .cases h
 case indexAddr T x ix =>
  split at h
  .rename_i len E hE;split at h
   .rename_i k n id s i off hix hx;split at h
    .rename_i b hb;obtain rfl:=Z7 h;obtain⟨b',e1,e2,e3,e4,e5,e6⟩:=hs id s_ b hb;rw[e1];exact⟨_,rfl,rfl,fun hk=>by rw[e4];exact hk⟩
    .cases h
   .exact⟨pl,h,rfl,id⟩
   .cases h
  .rename_i hna;split at h
   .exact⟨pl,h,rfl,id⟩
   .rename_i E k n id s hE hix hx;split at h
    .rename_i b hb;obtain rfl:=Z7 h;obtain⟨b',e1,e2,e3,e4,e5,e6⟩:=hs id s_ b hb;rw[e1];exact⟨_,rfl,rfl,fun hk=>by rw[e3,e4,e5];exact hk⟩
    .cases h
   .cases h
 case slice T x lo hi mx =>
  split at h
  .exact⟨pl,h,rfl,id⟩
  .rename_i E id s k l hE hx hlo;split at h
   .rename_i b hb;split at h
    .obtain rfl:=Z7 h;rw[hr id s_,hb];exact⟨_,rfl,rfl,fun a=>a⟩
    .obtain rfl:=Z7 h;rw[hr id s_,hb];exact⟨_,rfl,rfl,fun a=>a⟩
    .cases h
   .cases h
  .exact⟨pl,h,rfl,id⟩
  .cases h
 case call c =>
  obtain⟨callee,args,ats⟩:=c;dsimp only at h ⊢;split at h
  .rename_i x T hargs IL;split at h
   .exact⟨pl,h,rfl,id⟩
   .exact⟨pl,h,rfl,id⟩
   .rename_i id s hx;split at h
    .rename_i b hb;obtain rfl:=Z7 h;obtain⟨b',e1,e2,e3,e4,e5,e6⟩:=hs id s_ b hb;rw[e1];exact⟨_,rfl,by rw[e5],fun hk=>by rw[e4];exact hk⟩
    .cases h
   .exact⟨pl,h,rfl,id⟩
   .cases h
  .exact⟨pl,h,rfl,id⟩
  .exact⟨pl,h,rfl,id⟩
  .rename_i x y T T' hargs IL;split at h
   .rename_i d E hdst hE hx;split at h
    .exact⟨pl,h,rfl,id⟩
    .rename_i id' s' hy;split at h
     .rename_i b' hb';obtain rfl:=Z7 h;rw[hr id' s_,hb'];exact⟨_,rfl,rfl,fun a=>a⟩
     .cases h
    .cases h
   .rename_i d E id s hdst hE hx;split at h
    .rename_i b ns E' L6 Dv hb hy;obtain rfl:=Z7 h;rw[hr id s_,hb,hy];exact⟨_,rfl,rfl,fun a=>a⟩
    .rename_i b hb hy;obtain rfl:=Z7 h;rw[hr id s_,hb,hy];exact⟨_,rfl,rfl,fun a=>a⟩
    .rename_i b id' s' hb hy;split at h
     .rename_i b' hb';obtain rfl:=Z7 h;rw[hr id s_,hb,hy];dsimp only;rw[hr id' s_,hb'];exact⟨_,rfl,rfl,fun a=>a⟩
     .cases h
    .cases h
   .cases h
  .cases h
end
def LB:Nat:=100000
abbrev BL:=TypeId×Nat×List (List AV)
def Ij(bs:List BL)(id:Nat):Option AY:=if LB<=id then (bs[id-LB]?).map fun x=>⟨x.1,x.2.1,0,x.2.2,true⟩else none
theorem Zo0{bs:List BL}{k:Nat}{x:BL}(h:bs[k]? = some x):Ij bs (LB+k)=some ⟨x.1,x.2.1,0,x.2.2,true⟩:=by
 unfold Ij;rw[if_pos o_,show LB+k-LB=k by omega,h];rfl
theorem Vf{bs:List BL}{id:Nat}{b:AY}(h:Ij bs id=some b):∃ k x,id=LB+k/\bs[k]? = some x/\b=⟨x.1,x.2.1,0,x.2.2,true⟩:=by
 unfold Ij at h;split at h
 .cases hx:bs[id-LB]? with
  |none=>rw[hx]at h;cases h
  |some x=>rw[hx]at h;exact⟨id-LB,x,o_,hx,(Z7 h).symm⟩
 .cases h
def EL:AV->Bool
 |.bool _|.int _ _|.str _=>true
 |_=>false
theorem Zp9{d:AV}(h:EL d=true):Dj d=true:=by cases d<;>first|rfl|cases h
theorem ZoD{R R':Nat->Prop}{w:World}{v:Value}{d:AV}(h:Au R w v d)(hs:EL d=true):Au R' w' v d:=by
 cases h with
 |bool b=>exact .bool b
 |int k n=>exact .int k n
 |str s=>exact .str s
 |nil=>cases hs
 |sl=>cases hs
structure Ko(m:Mem)(w:World)(bs:List BL):Prop where
 bx:m.bx=Ij bs
 boxes:∀ id b,Ij bs id=some b->DU (fun s=>s<1) m w id b
 inj:∀ id id' b b' g,Ij bs id=some b->Ij bs id'=some b'->ob (m.loc id).1=some g->ob (m.loc id').1=some g->id=id'
 below:Below m.w0.heap.size m.w0 w
def M0:List BL->List (List (List AV))->List BL
 |x::l,n::k=>(x.1,x.2.1,n):: M0 l k
 |_,_=>[]
def dK:AV->Bool
 |.tup []=>true
 |d=>EL d
def Kq:List BL->List (List (List AV))->Bool
 |[],[]=>true
 |x::l,n::k=>(n.length == x.2.2.length) && ((n.all fun cs=>cs.all EL) && Kq l k)
 |_,_=>false
theorem Zkg:∀ {bs:List BL} {ns:List (List (List AV))},Kq bs ns=true->ns.length=bs.length/\∀ (k:Nat) x n,bs[k]? = some x->ns[k]? = some n->n.length=x.2.2.length/\(∀ cs∈n,cs.all EL=true)/\(M0 bs ns)[k]? = some (x.1,x.2.1,n)
 |[],[],_=>⟨rfl,s_⟩
 |x::l,n::k,h=>by
  simp only[Kq,Zc,beq_iff_eq]at h
  obtain⟨h1,h2,h3⟩:=h
  obtain⟨h4,h5⟩:=Zkg h3
  refine⟨by simp[h4],fun j y z hy hz=>?_⟩
  cases j with
  |zero =>
   simp only[Zw,Zi]at hy hz
   subst hy;subst hz
   exact⟨h1,fun cs hcs=>Zu.1 h2 cs hcs,rfl⟩
  |succ j=>exact h5 j y z (by simpa using hy) (by simpa using hz)
 |[],_::_,h=>by cases h
 |_::_,[],h=>by cases h
def HY(P:Program)(f:FuncId)(ds:List AV)(bs:List BL)(r:AV)(ns:List (List (List AV))):Prop :=
 dK r=true/\Kq bs ns=true/\(∀ args w,(callFunc f args).run P w=.ok (.enter f args) w)/\
 ∀ (m:Mem) (w:World) (vs:List Value),Ko m w bs->vs.length=ds.length->(∀ (j:Nat) v d,vs[j]? = some v->ds[j]? = some d->XQ m w v d)->
  Calls P f vs.toArray w fun e w'=>∃ v m',e=.returned v/\(∀ (m2:Mem) (w2:World),XQ m2 w2 v r)/\Ko m' w' (M0 bs ns)/\m'.w0=m.w0/\m'.F=m.F/\Cj (fun s=>s<1) m w m' w'
def M3:List Nat->Nat->Option Nat
 |[],_=>none
 |x::l,id=>if id=x then some 0 else (M3 l id).map (· + 1)
theorem ZcY:∀ {l:List Nat} {id k:Nat},M3 l id=some k->l[k]? = some id
 |[],_,_,h=>by cases h
 |x::l,id,k,h=>by
  simp only[M3]at h
  split at h
  .rename_i e;subst e;cases h;rfl
  .cases hx:M3 l id with
   |none=>rw[hx]at h;cases h
   |some j=>rw[hx]at h;cases h;simpa using ZcY hx
theorem ZcZ:∀ {l:List Nat} {id:Nat},M3 l id=none->id ∉ l
 |[],_,_=>by simp
 |x::l,id,h=>by
  simp only[M3]at h
  split at h
  .cases h
  .rename_i hne
   cases hx:M3 l id with
   |none=>simp only[Zn,not_or];exact⟨hne,ZcZ hx⟩
   |some j=>rw[hx]at h;cases h
def Ld(ln:List Nat)(box:Nat->Option AY):AV->AV
 |.vw id st=>match M3 ln id with
  |some k=>.vw (LB+k) 0
  |none=>Hz [] box (.vw id st)
 |d=>IM [] box d
def wb(b:Option AY)(n:List (List AV)):AY:=match b with|some b=>{ b with els:=n }| none=>⟨0,0,0,[],true⟩
def I1(box:Nat->Option AY):List Nat->List (List (List AV))->List (Nat×AY)
 |id::l,n::k=>(id,wb (box id) n):: I1 box l k
 |_,_=>[]
def Na(box:Nat->Option AY):List Nat->List BL->Prop
 |[],[]=>True
 |id::l,x::k=>(match box id with|some b=>b.T=x.1/\b.sz=x.2.1/\b.els=x.2.2/\b.pl=true|none=>False)/\Na box l k
 |_,_=>False
theorem ZkJ:∀ {box:Nat->Option AY} {ln:List Nat} {bs:List BL},Na box ln bs->ln.length=bs.length/\∀ (k:Nat) id x,ln[k]? = some id->bs[k]? = some x->∃ b,box id=some b/\b.T=x.1/\b.sz=x.2.1/\b.els=x.2.2/\b.pl=true
 |_,[],[],_=>⟨rfl,s_⟩
 |box,id::l,x::k,h=>by
  obtain⟨h1,h2⟩:=ZkJ h.2
  refine⟨by simp[h1],fun j i y hi hy=>?_⟩
  cases j with
  |zero =>
   simp only[Zw,Zi]at hi hy
   subst hi;subst hy
   have:=h.1
   split at this
   .rename_i b hb;exact⟨b,hb,this⟩
   .exact this.elim
  |succ j=>exact h2 j i y (by simpa using hi) (by simpa using hy)
 |_,[],_::_,h=>h.elim
 |_,_::_,[],h=>h.elim
def Rs:List Nat->Bool
 |[]=>true
 |x::l=>!l.contains x && Rs l
def Ru(ln:List Nat):AV->Prop
 |.vw _ _=>True
 |d=>∀ id∈EK d,id ∉ ln
structure Rv(P:Program)(f:FuncId)(raw:List AV)(box:Nat->Option AY)(ln:List Nat)(bs:List BL)(ns:List (List (List AV)))(r:AV):Prop where
 spec:HY P f (raw.map (Ld ln box)) bs r ns
 ne:ln≠[]
 nd:Rs ln=true
 bx:Na box ln bs
 args:∀ d∈raw,Ru ln d
 in_:∀ id∈ln,∃ st,AV.vw id st∈raw
def TH(box:Nat->Option AY)(rd:List Nat)(ln:List Nat)(ns:List (List (List AV)))(r:AV):Eff:=⟨r,none,rd,[],false,[],I1 box ln ns⟩
def Zt4(P:Program)(o:Oper)(st:Nat)(env:Nat->AV)(box:Nat->Option AY)(pl:Pl):Prop :=
 ∃ f args ats ln bs ns r,o.op=.call ⟨.value (.func f),args,ats⟩/\Rv P f (args.toList.map (Az env)) box ln bs ns r /\
  pl=⟨∀ x∈args.toList,N8 box (Az env x),TH box (args.toList.flatMap fun x=>EK (Az env x)) ln ns r⟩
def Le(P:Program)(o:Oper)(st:Nat)(env:Nat->AV)(box:Nat->Option AY)(pl:Pl):Prop:=Km P o st env box=some pl∨plC P o st env box pl∨Zt4 P o st env box pl
theorem ZfB:∀ {l:List Nat},Rs l=true->∀ (i j:Nat) x,l[i]? = some x->l[j]? = some x->i=j
 |[],_,i,j,x,hi,_=>by simp at hi
 |y::l,h,i,j,x,hi,hj=>by
  simp only[Rs,Zc,Bool.not_eq_true',List.contains_eq_mem,decide_eq_false_iff_not]at h
  cases i with
  |zero =>
   cases j with
   |zero=>rfl
   |succ j =>
    simp at hi hj;subst hi
    exact absurd (Z6 hj) h.1
  |succ i =>
   cases j with
   |zero =>
    simp at hi hj;subst hj
    exact absurd (Z6 hi) h.1
   |succ j=>rw[ZfB h.2 i j x (by simpa using hi) (by simpa using hj)]
theorem Zf2:∀ {box:Nat->Option AY} {ln:List Nat} {ns:List (List (List AV))} {id:Nat} {b':AY},GD (I1 box ln ns) id=some b'->∃ (k:Nat) (n:List (List AV)),ln[k]? = some id/\ns[k]? = some n/\(∀ b,box id=some b->b' ={ b with els:=n })
 |_,[],_,_,_,h=>by simp[I1,GD]at h
 |_,_::_,[],_,_,h=>by simp[I1,GD]at h
 |box,x::l,n::k,id,b',h=>by
  simp only[I1,GD]at h
  split at h
  .rename_i e
   subst e
   refine⟨0,n,rfl,rfl,fun b hb=>?_⟩
   rw[hb]at h
   exact(Z7 h).symm
  .obtain⟨j,m,h1,h2,h3⟩:=Zf2 h
   exact⟨j+1,m,by simpa using h1,by simpa using h2,h3⟩
theorem Zf1:∀ {box:Nat->Option AY} {ln:List Nat} {ns:List (List (List AV))} {id:Nat},ln.length<=ns.length->GD (I1 box ln ns) id=none->id ∉ ln
 |_,[],_,_,_,_=>by simp
 |_,_::_,[],_,h,_=>by simp at h
 |box,x::l,n::k,id,hl,h=>by
  simp only[I1,GD]at h
  split at h
  .cases h
  .rename_i e
   simp only[Zn,not_or]
   exact⟨e,Zf1 (by simpa using hl) h⟩
theorem Zia:∀ (box:Nat->Option AY) (ln:List Nat) (ns:List (List (List AV))),ln.length=ns.length->(I1 box ln ns).map (·.1)=ln
 |_,[],[],_=>rfl
 |_,[],_::_,h=>by simp at h
 |_,_::_,[],h=>by simp at h
 |box,x::l,n::k,h=>by
  simp only[I1,List.map_cons]
  rw[Zia box l k (by simpa using h)]
section
variable{P:Program}{U:Nat->Prop}{st:Nat}{σ:AS}{m:Mem}{a:Act}{w:World}{o:Oper}
theorem ZqD(hs:B5 U σ m a w)(hst:¬ U st)(hd:∀ t,o.dst=some t->t<σ.n)(pl:Pl)(h:Zt4 P o st σ.env σ.box pl)(hok:pl.ok):AJ P o U st σ m a w pl.e:=by
 obtain⟨f,args,ats,ln,bs,ns,r,ho,⟨⟨hR,hN,hf,hsp⟩,hne,hnd,hbx,hargs,hin⟩,rfl⟩:=h;obtain⟨hlen,TJ⟩:=ZkJ hbx;obtain⟨hnl,dN⟩:=Zkg hN;intro K Q hK;unfold Oper.wp;rw[Zfg hf args ats ho,Oper.upon_enter];obtain⟨mc,hmc⟩:∃ mc:Mem,mc=⟨m.w0,m.F,fun id=>m.loc (ln.getD (id-LB) 0),Ij bs⟩:=⟨_,rfl⟩;have c0:mc.w0=m.w0:=by rw[hmc]
 have cF:mc.F=m.F:=by rw[hmc]
 have cb:mc.bx=Ij bs:=by rw[hmc]
 have cl:∀ (k:Nat) id,ln[k]? = some id->mc.loc (LB+k)=m.loc id:=fun k id hk=>by
  rw[hmc];show m.loc (ln.getD (LB+k-LB) 0)= _;rw[show LB+k-LB=k by omega,List.getD_eq_getElem?_getD,hk];rfl
 have Kr:∀ (k:Nat) x,bs[k]? = some x->∃ id b,ln[k]? = some id/\σ.box id=some b/\b.T=x.1/\b.sz=x.2.1/\b.els=x.2.2/\b.pl=true:=fun k x hx=>by
  have hkl:k<ln.length:=by rw[hlen];exact(Za.1 hx).1
  obtain⟨b,e1,e2⟩:=TJ k _ x (Z4 hkl) hx;exact⟨_,b,Z4 hkl,e1,e2⟩
 have cM:∀ g,mc.M g->∃ k id b,ln[k]? = some id/\σ.box id=some b/\ob (m.loc id).1=some g:=fun g ⟨id,b,h1,h2⟩=>by
  rw[cb]at h1;obtain⟨k,x,rfl,hx,_⟩:=Vf h1;obtain⟨id',b',q1,q2,_⟩:=Kr k x hx;rw[cl k id' q1]at h2;exact⟨k,id',b',q1,q2,h2⟩
 have cMm:∀ g,mc.M g->m.M g:=fun g hg=>by
  obtain⟨k,id,b,q1,q2,q3⟩:=cM g hg;exact⟨id,b,by rw[hs.bx];exact q2,q3⟩
 have cS:∀ g,m.S w g->mc.S w g:=fun g hg=>⟨hg.1,fun hm=>hg.2 (cMm g hm)⟩
 have cR:∀ g,m.R w g->mc.R w g:=fun g hg=>⟨cS g hg.1,fun hl=>by rw[cF];rw[c0]at hl;exact hg.2 hl⟩
 have cO:∀ (id:Nat) b g,id ∉ ln->σ.box id=some b->ob (m.loc id).1=some g->¬ mc.M g:=fun id b g hid hb hg hm=>by
  obtain⟨k,id',b',q1,q2,q3⟩:=cM g hm;have:=hs.inj id id' b b' g hb q2 hg q3;subst this;exact hid (Z6 q1)
 have hls:Ko mc w bs:=by
  refine⟨cb,fun id b hb=>?_,fun id id' b b' g h1 h2 g1 g2=>?_,by rw[c0];exact hs.below⟩
  .obtain⟨k,x,rfl,hx,rfl⟩:=Vf hb;obtain⟨id',b',q1,q2,q3,q4,q5,q6⟩:=Kr k x hx;obtain⟨⟨css,how,hr⟩,_,_⟩:=hs.boxes id' b' q2;rw[q3,q4,q5]at how;rw[q4,q5,q6]at hr;have hD:∀ (i:Nat) cs ds,css[i]? = some cs->x.2.2[i]? = some ds->∀ (j:Nat) v d,cs[j]? = some v->ds[j]? = some d->Au (mc.R w) w v d:=fun i cs ds a1 a2 j v d u1 u2=>((hr i cs ds a1 a2).2.2 rfl j v d u1 u2).keep (fun _ _=>rfl) cR
   refine⟨⟨css,by rw[c0,cl k id' q1];exact how,fun i cs ds a1 a2=>⟨(hr i cs ds a1 a2).1,⟨(hr i cs ds a1 a2).2.1.len,fun j v d u1 u2=>JH (hD i cs ds a1 a2 j v d u1 u2)⟩,fun _=>hD i cs ds a1 a2⟩⟩,by show(0:Nat)< 1;omega,fun ds hds d hdd=>?_⟩;obtain⟨i,hi,rfl⟩:=ZM hds;have hci:css[i]? = some (css[i]'(by rw[how.len];exact hi)):=Z4 _;obtain⟨r1,r2,r3⟩:=hr i _ _ hci (Z4 hi);obtain⟨j,hj,rfl⟩:=ZM hdd;exact mM (hD i _ _ hci (Z4 hi) j _ _ (Z4 (by rw[r2.len];exact hj)) (Z4 hj))
  .obtain⟨k,x,rfl,hx,_⟩:=Vf h1;obtain⟨k',x',rfl,hx',_⟩:=Vf h2;obtain⟨i1,b1,q1,q2,_⟩:=Kr k x hx;obtain⟨i2,b2,p1,p2,_⟩:=Kr k' x' hx';rw[cl k i1 q1]at g1;rw[cl k' i2 p1]at g2;have e:=hs.inj i1 i2 b1 b2 g q2 p2 g1 g2;subst e;rw[ZfB hnd k k' i1 q1 p1]
 have hC:∀ v d,BB m w v d->Lb σ.box d->(∀ id∈EJ d,id ∉ ln)->BB mc w v (Hz [] σ.box d):=fun v d rr hk hni=>by
  cases d
  case vw id s =>
   simp only[Lb]at hk;simp only[Hz];cases hb:σ.box id with
   |none=>rw[hb]at hk;exact hk.elim
   |some b =>
    rw[hb]at hk;obtain⟨h1,h2⟩:=hk;have hv:=rr.2 b (by rw[hs.bx];exact hb) h1;obtain⟨css,how,hr⟩:=(hs.boxes id b hb).own;refine⟨_,_,_,css,hv,⟨how.row,fun p hp=>?_,mW how,how.len,fun i cs ds e1 e2=>⟨how.each cs (Z6 e1),(hr i cs ds e1 e2).1⟩⟩,fun i j cs ds x d e1 e2 e3 e4=>?_⟩
    .obtain⟨q1,q2⟩:=mX how p hp;exact⟨⟨q1,cO id b p.block (hni id (by simp[EJ])) hb (by rw[hp];rfl)⟩,q2⟩
    .exact((hr i cs ds e1 e2).2.2 h2 j x d e3 e4).keep (fun _ _=>rfl) cR
  case sl ns E sz els =>
   cases ns with
   |false=>exact Au.keep (fun _ _=>rfl) cR (show Au (m.R w) w v _ from rr)
   |true =>
    obtain⟨A,n,c,css,rfl,h1,h2⟩:=rr;exact⟨A,n,c,css,rfl,h1.keep (fun _ _=>rfl) (fun g hg=>cS g hg),fun i j cs ds x d a b c e=>(h2 i j cs ds x d a b c e).keep (fun _ _=>rfl) cR⟩
  case bool=>exact Au.keep (fun _ _=>rfl) cR (show Au (m.R w) w v _ from rr)
  case int=>exact Au.keep (fun _ _=>rfl) cR (show Au (m.R w) w v _ from rr)
  case str=>exact Au.keep (fun _ _=>rfl) cR (show Au (m.R w) w v _ from rr)
  case nil=>exact Au.keep (fun _ _=>rfl) cR (show Au (m.R w) w v _ from rr)
  all_goals cases hk
 have hA:∀ (v:Value) (d:AV),XQ m w v d->N8 σ.box d->Ru ln d->XQ mc w v (Ld ln σ.box d):=fun v d rr hk hn=>by
  have rt:=Znv rr hk;by_cases hvw:∃ id s,d=.vw id s
  .obtain⟨id,s,rfl⟩:=hvw;have hk':Lb σ.box (.vw id s):=hk;have rc:BB m w v (.vw id s):=rt;simp only[Ld];cases hx:M3 ln id with
   |none =>
    exact P5 (hC v (.vw id s) rc hk' (fun i hi=>by simp only[EJ,List.mem_singleton]at hi;rw[hi];exact ZcZ hx))
   |some k =>
    have hlk:=ZcY hx;have hkb:k<bs.length:=by rw[<- hlen];exact(Za.1 hlk).1
    obtain⟨b,e1,e2,e3,e4,e5⟩:=TJ k id _ hlk (Z4 hkb);simp only[Lb,e1]at hk';have hv:=rc.2 b (by rw[hs.bx];exact e1) hk'.1;refine P5 (d:=.vw (LB+k) 0) ⟨⟨_,_,_,hv⟩,fun b2 hb2 _=>?_⟩;rw[cb,Zo0 (Z4 hkb)]at hb2;obtain rfl:=Z7 hb2;rw[hv,cl k id hlk,e4]
  .have hL:Ld ln σ.box d=IM [] σ.box d:=by
    cases d<;>first|rfl|exact absurd ⟨_,_,rfl⟩ hvw
   have hni:∀ id∈EK d,id ∉ ln:=by
    cases d<;>first|exact hn|exact absurd ⟨_,_,rfl⟩ hvw
   rw[hL];by_cases ht:∃ cs,d=.agg cs
   .obtain⟨cs,rfl⟩:=ht;obtain⟨vs,rfl,rl⟩:=(show Ez m w v (.agg cs)from rt);refine⟨vs,rfl,by rw[Zo];exact rl.len,fun j x d h1 h2=>?_⟩;rw[ZH]at h2;cases hc:cs[j]? with
    |none=>rw[hc]at h2;cases h2
    |some c =>
     rw[hc]at h2;obtain rfl:=Z7 h2;have hcm:=Z6 hc;exact hC x c (rl.at_ j x c h1 hc) (hk c hcm) fun id hid=>hni id (List.mem_flatMap.2 ⟨c,hcm,hid⟩)
   .have h:∀ cs,d≠.agg cs:=fun cs e=>ht ⟨cs,e⟩
    rw[nD h];exact P5 (hC v d ((zU h).1 rt) ((nC h).1 hk) (fun id hid=>hni id (by cases d<;>first|exact hid|exact absurd rfl (h _))))
 have hc:=hsp mc w (args.toList.map a.eval) hls (by rw[Zo,Zo,Zo]) (fun j v d h1 h2=>by
  rw[ZH]at h1;rw[ZH,ZH]at h2;cases hx:args.toList[j]? with
  |none=>rw[hx]at h1;cases h1
  |some x =>
   rw[hx]at h1 h2;obtain rfl:=Z7 h1;obtain rfl:=Z7 h2;have hxm:=Z6 hx;exact hA _ _ (hs.Az x).1 (hok x hxm) (hargs _ (ZB.2 ⟨x,hxm,rfl⟩)))
 have harr:(args.toList.map a.eval).toArray=args.map a.eval:=by
  cases args with
  |mk l=>exact(List.map_toArray (f:=a.eval) (l:=l)).symm
 rw[harr]at hc;refine Calls.mono hc fun e w' he=>?_
 obtain⟨v,m',rfl,hv,TK,e0,eF,hev⟩:=he;show K (a.put o.dst v) w';obtain⟨W,hW⟩:∃ W,W=I1 σ.box ln ns:=⟨_,rfl⟩;have hWn:ln.length<=ns.length:=by omega
 have hWs:∀ id b',GD W id=some b'->∃ (k:Nat) (x:BL) (n:List (List AV)) (b:AY),ln[k]? = some id/\bs[k]? = some x/\ns[k]? = some n/\σ.box id=some b/\b.T=x.1/\b.sz=x.2.1/\b.els=x.2.2/\b.pl=true/\b' ={ b with els:=n }:=fun id b' hl=>by
  rw[hW]at hl;obtain⟨k,n,q1,q2,q3⟩:=Zf2 hl;have hkb:k<bs.length:=by rw[<- hlen];exact(Za.1 q1).1
  obtain⟨b,p1,p2,p3,p4,p5⟩:=TJ k id _ q1 (Z4 hkb);exact⟨k,_,n,b,q1,Z4 hkb,q2,p1,p2,p3,p4,p5,q3 b p1⟩
 obtain⟨m2,hm2⟩:∃ m2:Mem,m2 ={ m with bx:=fun id=>match GD W id with|some b=>some b|none=>m.bx id }:=⟨_,rfl⟩;have d0:m2.w0=m.w0:=by rw[hm2]
 have dF:m2.F=m.F:=by rw[hm2]
 have dl:m2.loc=m.loc:=by rw[hm2]
 have db:m2.bx=fun id=>match GD W id with|some b=>some b|none=>m.bx id:=by rw[hm2]
 have hback:∀ id b',m2.bx id=some b'->∃ b,m.bx id=some b/\b.st=b'.st/\b'.sz=b.sz/\b'.els.length=b.els.length:=fun id b' hb=>by
  rw[db]at hb;dsimp only at hb;cases hl:GD W id with
  |none=>rw[hl]at hb;exact⟨b',hb,rfl,rfl,rfl⟩
  |some b2 =>
   rw[hl]at hb;obtain rfl:=Z7 hb;obtain⟨k,x,n,b,q1,q2,q3,q4,q5,q6,q7,q8,rfl⟩:=hWs id b2 hl;exact⟨b,by rw[hs.bx];exact q4,rfl,rfl,by show n.length=_;rw[(dN k x n q2 q3).1,q7]⟩
 have dM:∀ g,m2.M g->m.M g:=fun g ⟨id,b',q1,q2⟩=>by
  obtain⟨b,p1,_⟩:=hback id b' q1;exact⟨id,b,p1,by rw[dl]at q2;exact q2⟩
 have ev:Cj U m w m2 w':=⟨d0,dF,fun g hg=>⟨(hev.S g (cS g hg)).1,(hev.S g (cS g hg)).2.1,fun hm=>hg.2 (dM g hm)⟩,fun id b' hb _=>by
  obtain⟨b,p1,p2,p3,p4⟩:=hback id b' hb;exact⟨b,p1,p2,by rw[dl],p3,p4⟩⟩
 refine hK v w' m2 ?_ d0 dF ev
 have Z0p:W≠[]:=fun e=>by
  have:=Zia σ.box ln ns o_;rw[<- hW,e]at this;exact hne this.symm
 rw[mO _ _ _ (by show I1 σ.box ln ns≠[];rw[<- hW];exact Z0p)];show B5 _ ((σ.Bh (I1 σ.box ln ns)).put o.dst r) m2 _ w';rw[<- hW];obtain⟨se,sc,sn⟩:=mP σ W
 have hs1:B5 (fun s=>U s∨s=st) (σ.Bh W) m2 a w':=by
  refine⟨?_,by rw[d0];have:=TK.below;rwa [e0,c0]at this,hs.defers,by rw[sn];exact hs.size,fun t=>by rw[se];exact ev.Ht (hs.slots t) (hs.ok t),fun t=>by rw[se];exact okV.mono (fun s h=>.inl h) (hs.ok t),fun id b' hb'=>?_,fun i j bi bj g hi hj gi gj=>?_⟩
  .funext id;rw[J6,db];dsimp only;rw[hs.bx];cases GD W id<;>rfl
  .rw[J6]at hb';cases hl:GD W id with
   |some b2 =>
    rw[hl]at hb';obtain rfl:=Z7 hb';obtain⟨k,x,n,b,q1,q2,q3,q4,q5,q6,q7,q8,rfl⟩:=hWs id b2 hl;obtain⟨f1,f2,f3⟩:=dN k x n q2 q3;have hbn:=Zo0 f3;obtain⟨⟨css,how,hr⟩,_,_⟩:=TK.boxes _ _ hbn;obtain⟨b0,g1,g2,g3,g4,g5⟩:=hev.bx (LB+k) _ (by rw[TK.bx];exact hbn) (by show(0:Nat)< 1;omega);rw[e0,c0,g3,cl k id q1]at how;have hD:∀ (i:Nat) cs ds,css[i]? = some cs->n[i]? = some ds->∀ (j:Nat) v d,cs[j]? = some v->ds[j]? = some d->Au (m2.R w') w' v d:=fun i cs ds a1 a2 j v d u1 u2=>ZoD ((hr i cs ds a1 a2).2.2 rfl j v d u1 u2) (Zu.1 (f2 ds (Z6 a2)) d (Z6 u2))
    refine⟨⟨css,by rw[d0,dl,q5,q6];exact how,fun i cs ds a1 a2=>⟨by rw[q6];exact(hr i cs ds a1 a2).1,⟨(hr i cs ds a1 a2).2.1.len,fun j v d u1 u2=>JH (hD i cs ds a1 a2 j v d u1 u2)⟩,fun _=>hD i cs ds a1 a2⟩⟩,.inl (hs.boxes id b q4).st,fun ds hds d hdd=>bV (Zp9 (Zu.1 (f2 ds hds) d hdd))⟩
   |none =>
    rw[hl]at hb';have hid:id ∉ ln:=by rw[hW]at hl;exact Zf1 hWn hl
    obtain⟨⟨css,how,hr⟩,h2,h3⟩:=hs.boxes id b' hb';refine⟨⟨css,by rw[d0,dl];exact how.keep (fun g hg=>(hev.S g ⟨(how.lt g hg).2,cO id b' g hid hb' hg⟩).1),fun i cs ds a1 a2=>?_⟩,.inl h2,fun ds hds d hdd=>Bu.mono (fun s h=>.inl h) (h3 ds hds d hdd)⟩;obtain⟨r1,r2,r3⟩:=hr i cs ds a1 a2;exact⟨r1,ev.EE r2 (h3 ds (Z6 a2)),fun hp j v d x y=>ev.Dc (r3 hp j v d x y)⟩
  .have fb:∀ id b',(σ.Bh W).box id=some b'->∃ b,σ.box id=some b:=fun id b' hb=>by
    rw[J6]at hb;cases hl:GD W id with
    |some b2=>obtain⟨k,x,n,b,q1,q2,q3,q4,_⟩:=hWs id b2 hl;exact⟨b,q4⟩
    |none=>rw[hl]at hb;exact⟨b',hb⟩
   obtain⟨b1,f1⟩:=fb i bi hi;obtain⟨b2,f2⟩:=fb j bj hj;rw[dl]at gi gj;exact hs.inj i j b1 b2 g f1 f2 gi gj
 refine hs1.put (hv m2 w') ?_ o.dst (fun t ht=>by rw[sn];exact hd t ht);cases r
 case tup ds=>cases ds with
  |nil=>intro d hd;cases hd
  |cons _ _=>cases hR
 all_goals first|trivial|cases hR
theorem ZoM(hs:B5 U σ m a w)(hst:¬ U st)(hd:∀ t,o.dst=some t->t<σ.n)(pl:Pl)(h:Le P o st σ.env σ.box pl)(hok:pl.ok):AJ P o U st σ m a w pl.e:=by
 rcases h with h|h|h
 .exact Zpu hs hst hd pl h hok
 .exact ZqE hs hst hd pl h hok
 .exact ZqD hs hst hd pl h hok
end
def M4(ops:Array Oper)(o:Oper)(env:Nat->AV):Option Bool :=
 match o.guard with
 |none=>some true
 |some (g,want)=>match (ops[g]?).bind (·.dst)with
  |some d=>match env d with
   |.bool b=>some (b == want)
   |.und=>some false
   |_=>none
  |none=>none
def Vg:Pl:=⟨True,⟨.und,none,[],[],true,[],[]⟩⟩
def SP(P:Program)(ops:Array Oper)(o:Oper)(st:Nat)(env:Nat->AV)(box:Nat->Option AY)(pl:Pl):Prop :=
 (M4 ops o env=some true/\Le P o st env box pl)∨(M4 ops o env=some false/\pl=Vg)
structure IP where
 dst:Option Tmp
 lk:List Tmp
 wr:List Nat
 cw:Bool
 rd:List Nat
 rs:List Nat
 ix:Nat
def Vh(e:Eff):List Nat:=(match e.bx with|some p=>[p.1]| none=>[])++(e.fz++e.bs.map (·.1))
def Vi(e:Eff):Bool:=e.cw && (e.fz.isEmpty && e.bs.isEmpty)
structure De where
 ix:Nat
 o:Oper
 wr:List Nat
 cw:Bool
 rd:List Nat
 rs:List Nat
def dO(ops:Array Oper)(x:De):IP:=⟨x.o.dst,x.o.looksAt ops,x.wr,x.cw,x.rd,x.rs,x.ix⟩
def I4(ops:Array Oper)(i:Nat)(o:Oper)(e:Eff):IP:=dO ops ⟨i,o,Vh e,Vi e,e.rd,e.rs⟩
def dP(x y:IP):Bool :=
 (match x.dst with|some d=>!y.lk.contains d && y.dst != some d|none=>true) &&
 ((match y.dst with|some d=>!x.lk.contains d|none=>true) &&
 ((x.wr.all fun b=>!y.wr.contains b && (!y.rd.contains b && (x.cw || !y.rs.contains b))) &&
 (y.wr.all fun b=>!x.rd.contains b && (y.cw || !x.rs.contains b))))
section
variable{P:Program}{ops:Array Oper}{o:Oper}{st:Nat}{env env':Nat->AV}{box box':Nat->Option AY}
theorem dR{fz:List Nat}{d:AV}(h:∀ id∈EJ d,box' id=box id):Hz fz box' d=Hz fz box d/\(Lb box d->Lb box' d):=by
 cases d
 case vw id s=>simp only[Hz,Lb,h id (by simp[EJ])];exact⟨trivial,fun a=>a⟩
 all_goals exact⟨rfl,fun a=>a⟩
theorem nG{fz:List Nat}{d:AV}(h:∀ id∈EK d,box' id=box id):IM fz box' d=IM fz box d/\(N8 box d->N8 box' d):=by
 by_cases ht:∃ cs,d=.agg cs
 .obtain⟨cs,rfl⟩:=ht;have hc:∀ c∈cs,∀ id∈EJ c,box' id=box id:=fun c hc id hid=>h id (List.mem_flatMap.2 ⟨c,hc,hid⟩)
  exact⟨by simp only[IM];rw[List.map_congr_left fun c hc'=>(dR (fz:=fz) (hc c hc')).1],fun hk c hc'=>(dR (fz:=fz) (hc c hc')).2 (hk c hc')⟩
 .have h2:∀ cs,d≠.agg cs:=fun cs e=>ht ⟨cs,e⟩
  have h3:∀ id∈EJ d,box' id=box id:=fun id hid=>h id (by cases d<;>first|exact hid|exact absurd rfl (h2 _))
  rw[nD h2,nD h2];exact⟨(dR (fz:=fz) h3).1,fun hk=>(nC h2).2 ((dR (fz:=fz) h3).2 ((nC h2).1 hk))⟩
theorem Le.loc{pl:Pl}(h:Le P o st env box pl)(he:∀ x∈o.op.operands.toList,Az env' x=Az env x)(hr:∀ id∈pl.e.rd,box' id=box id)(hs:∀ id∈pl.e.rs,dJ (box id) (box' id)):∃ Hw,Le P o st env' box' Hw/\Hw.e=pl.e/\(pl.ok->Hw.ok):=by
 rcases h with h |⟨f,args,ats,r,fz,ho,hsp,rfl⟩|⟨f,args,ats,ln,bs,ns,r,ho,hL,rfl⟩
 .obtain⟨Hw,h1,h2,h3⟩:=ZmA h hr hs;exact⟨Hw,.inl ((Zmz he).trans h1),h2,h3⟩
 .have ha:∀ x∈args.toList,Az env' x=Az env x:=fun x hx=>he x (by
   rw[ho];simp only[Op.operands,Call.operands,Array.toList_append,Z9];exact .inr hx)
  have hrd:∀ id∈args.toList.flatMap (fun x=>EK (Az env x)),box' id=box id:=fun id hid=>hr id (by
   show id∈(X8 (o.dst.getD 0) st (args.toList.flatMap fun x=>EK (Az env x)) fz r).rd;unfold X8;split<;>exact hid)
  have hb:∀ x∈args.toList,∀ id∈EK (Az env x),box' id=box id:=fun x hx id hid=>hrd id (List.mem_flatMap.2 ⟨x,hx,hid⟩)
  have e1:(args.toList.map fun x=>IM fz box' (Az env' x))=args.toList.map fun x=>IM fz box (Az env x):=List.map_congr_left fun x hx=>by rw[ha x hx,(nG (fz:=fz) (hb x hx)).1]
  have e2:(args.toList.flatMap fun x=>EK (Az env' x))=args.toList.flatMap fun x=>EK (Az env x):=by
   rw[List.flatMap_def,List.flatMap_def,List.map_congr_left fun x hx=>by rw[ha x hx]]
  exact⟨_,.inr (.inl ⟨f,args,ats,r,fz,ho,by rw[e1];exact hsp,rfl⟩),by rw[e2],fun hk x hx=>by rw[ha x hx];exact(nG (fz:=fz) (hb x hx)).2 (hk x hx)⟩
 .have ha:∀ x∈args.toList,Az env' x=Az env x:=fun x hx=>he x (by
   rw[ho];simp only[Op.operands,Call.operands,Array.toList_append,Z9];exact .inr hx)
  have hrd:∀ id∈args.toList.flatMap (fun x=>EK (Az env x)),box' id=box id:=fun id hid=>hr id hid
  have hb:∀ x∈args.toList,∀ id∈EK (Az env x),box' id=box id:=fun x hx id hid=>hrd id (List.mem_flatMap.2 ⟨x,hx,hid⟩)
  have e0:args.toList.map (Az env')=args.toList.map (Az env):=List.map_congr_left ha
  have e2:(args.toList.flatMap fun x=>EK (Az env' x))=args.toList.flatMap fun x=>EK (Az env x):=by
   rw[List.flatMap_def,List.flatMap_def,List.map_congr_left fun x hx=>by rw[ha x hx]]
  have e3:∀ d∈args.toList.map (Az env),Ld ln box' d=Ld ln box d:=fun d hd=>by
   obtain⟨x,hx,rfl⟩:=ZB.1 hd;have hbx:=hb x hx;generalize Az env x=d at hbx ⊢;cases d
   case vw id s =>
    simp only[Ld];cases M3 ln id with
    |some k=>rfl
    |none=>exact(dR (fz:=[]) (d:=.vw id s) hbx).1
   all_goals exact(nG (fz:=[]) hbx).1
  have e4:∀ id∈ln,box' id=box id:=fun id hid=>by
   obtain⟨st,h1⟩:=hL.in_ id hid;obtain⟨x,hx,h2⟩:=ZB.1 h1;exact hb x hx id (by rw[h2];simp[EK,EJ])
  have e5:∀ (l:List Nat) (k:List (List (List AV))),(∀ id∈l,box' id=box id)->I1 box' l k=I1 box l k:=fun l=>by
   induction l with
   |nil=>intro k _;cases k<;>rfl
   |cons id l ih =>
    intro k h;cases k with
    |nil=>rfl
    |cons n k=>simp only[I1];rw[h id s_,ih k fun i hi=>h i (by simp[hi])]
  have e6:∀ (l:List Nat) (k:List BL),(∀ id∈l,box' id=box id)->Na box l k->Na box' l k:=fun l=>by
   induction l with
   |nil=>intro k _ h;cases k<;>exact h
   |cons id l ih =>
    intro k h hf;cases k with
    |nil=>exact hf
    |cons n k =>
     refine⟨?_,ih k (fun i hi=>h i (by simp[hi])) hf.2⟩;rw[h id s_];exact hf.1
  refine⟨_,.inr (.inr ⟨f,args,ats,ln,bs,ns,r,ho,⟨by rw[e0,List.map_congr_left e3];exact hL.spec,hL.ne,hL.nd,e6 ln bs e4 hL.bx,by rw[e0];exact hL.args,by rw[e0];exact hL.in_⟩,rfl⟩),?_,fun hk x hx=>by rw[ha x hx];exact(nG (fz:=[]) (hb x hx)).2 (hk x hx)⟩;show TH box' _ ln ns r=TH box _ ln ns r;unfold TH;rw[e2,e5 ln ns e4]
theorem Zm8{x:Operand}(hx:x∈o.op.operands.toList)(h:∀ t∈o.looksAt ops,env' t=env t):Az env' x=Az env x :=
 Zkm fun t ht=>h t (by subst ht;unfold Oper.looksAt;exact Z9.2 (.inl (List.mem_filterMap.2 ⟨_,hx,rfl⟩)))
theorem Zd8(h:∀ t∈o.looksAt ops,env' t=env t):M4 ops o env'=M4 ops o env:=by
 unfold M4;cases hg:o.guard with
 |none=>rfl
 |some p =>
  obtain⟨g,want⟩:=p;dsimp only;cases hd:(ops[g]?).bind (·.dst)with
  |none=>rfl
  |some d =>
   dsimp only;rw[h d (by unfold Oper.looksAt;rw[hg];simp[hd])]
theorem SP.loc{pl:Pl}(h:SP P ops o st env box pl)(he:∀ t∈o.looksAt ops,env' t=env t)(hr:∀ id∈pl.e.rd,box' id=box id)(hs:∀ id∈pl.e.rs,dJ (box id) (box' id)):∃ Hw,SP P ops o st env' box' Hw/\Hw.e=pl.e/\(pl.ok->Hw.ok):=by
 rcases h with⟨hg,h⟩|⟨hg,rfl⟩
 .obtain⟨Hw,h1,h2,h3⟩:=h.loc (fun x hx=>Zm8 hx he) hr hs;exact⟨Hw,.inl ⟨by rw[Zd8 he,hg],h1⟩,h2,h3⟩
 .exact⟨Vg,.inr ⟨by rw[Zd8 he,hg],rfl⟩,rfl,fun a=>a⟩
theorem Zpv{pl:Pl}(h:Km P o st env box=some pl)(hc:pl.e.cw=true){id:Nat}(hb:pl.e.bx=some (id,b')):∃ b,box id=some b/\b'.T=b.T/\b'.sz=b.sz/\b'.st=b.st/\b'.els.length=b.els.length/\b'.pl=b.pl:=by
 unfold Km at h;cases ho:o.op<;>simp only[ho]at h
 case store T x v =>
  split at h
  .split at h
   .rename_i b hbx;split at h
    .obtain rfl:=Z7 h;have e:=Z7 hb;simp only[Prod.mk.injEq]at e;obtain⟨rfl,rfl⟩:=e;exact⟨b,hbx,rfl,rfl,rfl,s_,rfl⟩
    .cases h
   .cases h
  .cases h
 all_goals
  exfalso;repeat' split at h
  all_goals first
   |cases h;done
   |(obtain rfl:=Z7 h;first|cases hb;done|cases hc;done)
theorem SP.shape{pl:Pl}(h:SP P ops o st env box pl)(hc:pl.e.cw=true){id:Nat}(hb:pl.e.bx=some (id,b')):∃ b,box id=some b/\b'.T=b.T/\b'.sz=b.sz/\b'.st=b.st/\b'.els.length=b.els.length/\b'.pl=b.pl:=by
 rcases h with⟨_,h |⟨f,args,ats,r,fz,ho,hsp,rfl⟩|⟨f,args,ats,ln,bs,ns,r,ho,hL,rfl⟩⟩|⟨_,rfl⟩
 .exact Zpv h hc hb
 .unfold X8 at hc hb;dsimp only at hc hb;split at hb
  .rename_i x hx;rw[hx]at hc;cases hc
  .cases hb
 .cases hc
 .cases hb
theorem dJ.refl(b:Option AY):dJ b b:=fun x h=>⟨x,h,rfl,rfl,rfl,rfl,rfl⟩
theorem ZeL(σ:AS)(d:Option Tmp)(e:Eff)(t:Nat):(σ.app d e).env t=if d=some t then e.val else σ.env t:=by
 have h:∀ σ':AS,(σ'.put d e.val).env t=if d=some t then e.val else σ'.env t:=fun σ'=>by
  cases d with
  |none=>simp[AS.put]
  |some t0 =>
   show(if t=t0 then e.val else σ'.env t)= _;by_cases h:t=t0
   .subst h;simp
   .rw[if_neg h,if_neg (fun e=>h (Z7 e).symm)]
 by_cases hbs:e.bs=[]
 .rw[bW _ _ _ hbs];cases hb:e.bx with
  |some p=>dsimp only;rw[h];show(if d=some t then e.val else (σ.E8 e.fz).env t)= _;rw[(cB σ e.fz).1]
  |none=>dsimp only;rw[h,(cB σ e.fz).1]
 .rw[mO _ _ _ hbs,h,(mP σ e.bs).1]
theorem TL(σ:AS)(d:Option Tmp)(e:Eff)(id:Nat):(σ.app d e).box id=match e.bs with
  |[]=>(match e.bx with|some p=>if id=p.1 then some p.2 else (if e.fz.contains id then none else σ.box id)| none=>if e.fz.contains id then none else σ.box id)
  |p::l=>match GD (p::l) id with|some b=>some b|none=>σ.box id:=by
 have h:∀ σ':AS,(σ'.put d e.val).box=σ'.box:=fun σ'=>by cases d<;>rfl
 by_cases hbs:e.bs=[]
 .rw[bW _ _ _ hbs,hbs];cases hb:e.bx with
  |some p=>dsimp only;rw[h];show(if id=p.1 then some p.2 else (σ.E8 e.fz).box id)= _;rw[mV]
  |none=>dsimp only;rw[h,mV]
 .rw[mO _ _ _ hbs,h,J6];cases hl:e.bs with
  |nil=>exact absurd hl hbs
  |cons p l=>rfl
theorem Vj(σ:AS)(d:Option Tmp)(e:Eff):(σ.app d e).clk=σ.clk/\(σ.app d e).n=σ.n:=by
 have h:∀ σ':AS,(σ'.put d e.val).clk=σ'.clk/\(σ'.put d e.val).n=σ'.n:=fun σ'=>by cases d<;>exact⟨rfl,rfl⟩
 obtain⟨_,h2,h3⟩:=cB σ e.fz;by_cases hbs:e.bs=[]
 .rw[bW _ _ _ hbs];cases hb:e.bx with
  |some p=>dsimp only;exact⟨(h _).1.trans h3,(h _).2.trans h2⟩
  |none=>dsimp only;exact⟨(h _).1.trans h3,(h _).2.trans h2⟩
 .rw[mO _ _ _ hbs];obtain⟨_,h4,h5⟩:=mP σ e.bs;exact⟨(h _).1.trans h4,(h _).2.trans h5⟩
theorem ZpZ{a b:AS}(h1:∀ t,a.env t=b.env t)(h2:∀ i,a.box i=b.box i)(h3:a.clk=b.clk)(h4:a.n=b.n):a=b:=by
 obtain⟨ea,ba,ca,na⟩:=a;obtain⟨eb,bb,cb,nb⟩:=b;simp only at h1 h2 h3 h4;subst h3 h4;rw[funext h1,funext h2]
structure Ap(x y:IP):Prop where
 a:∀ d,x.dst=some d->d ∉ y.lk/\y.dst≠some d
 b:∀ d,y.dst=some d->d ∉ x.lk
 c:∀ b,b∈x.wr->b ∉ y.wr/\b ∉ y.rd/\(x.cw=true∨b ∉ y.rs)
 d:∀ b,b∈y.wr->b ∉ x.rd/\(y.cw=true∨b ∉ x.rs)
theorem ZeM{x y:IP}(h:dP x y=true):Ap x y:=by
 unfold dP at h;simp only[Zc]at h;obtain⟨h1,h2,h3,h4⟩:=h;refine⟨fun d hd=>?_,fun d hd=>?_,fun b hb=>?_,fun b hb=>?_⟩
 .rw[hd]at h1;simpa using h1
 .rw[hd]at h2;simpa using h2
 .have:=Zu.1 h3 b hb;simpa using this
 .have:=Zu.1 h4 b hb;simpa using this
theorem Vk{σ:AS}{d:Option Tmp}{e:Eff}{i id:Nat}{o:Oper}(h:id ∉(I4 ops i o e).wr):(σ.app d e).box id=σ.box id:=by
 have h2:id ∉(match e.bx with|some p=>[p.1]| none=>[])++(e.fz++e.bs.map (·.1)):=h;rw[Z9,Z9,not_or,not_or]at h2;obtain⟨h3,h4,h6⟩:=h2;have h5:e.fz.contains id=false:=by simpa using h4
 rw[TL];cases hl:e.bs with
 |nil =>
  dsimp only;cases hb:e.bx with
  |some p =>
   rw[hb]at h3;dsimp only at h3 ⊢;rw[if_neg (by simpa using h3),h5]
   rfl
  |none=>dsimp only;rw[h5];rfl
 |cons p l =>
  dsimp only;rw[<- hl,Za3 h6]
theorem Zrx{e:Eff}{i id:Nat}{o:Oper}(h:id∈(I4 ops i o e).wr)(hc:(I4 ops i o e).cw=true):e.cw=true/\e.bs=[]/\e.fz=[]/\∃ b,e.bx=some (id,b):=by
 have hc2:(e.cw && (e.fz.isEmpty && e.bs.isEmpty))=true:=hc;simp only[Zc,List.isEmpty_iff]at hc2;have h2:id∈(match e.bx with|some p=>[p.1]| none=>[])++(e.fz++e.bs.map (·.1)):=h;rw[hc2.2.1,hc2.2.2,List.map_nil,List.append_nil,List.append_nil]at h2;refine⟨hc2.1,hc2.2.2,hc2.2.1,?_⟩;cases hb:e.bx with
 |none=>rw[hb]at h2;cases h2
 |some p=>rw[hb]at h2;simp at h2;exact⟨p.2,by rw[h2]⟩
theorem ZpV{σ:AS}{k i:Nat}{ok oi:Oper}{sk si:Nat}{pk pi:Pl}(hk:SP P ops ok sk σ.env σ.box pk)(hi:SP P ops oi si (σ.app ok.dst pk.e).env (σ.app ok.dst pk.e).box pi)(ha:Ap (I4 ops k ok pk.e) (I4 ops i oi pi.e)):
  ∃ TM Vl,SP P ops oi si σ.env σ.box TM/\TM.e=pi.e/\(pi.ok->TM.ok)/\SP P ops ok sk (σ.app oi.dst pi.e).env (σ.app oi.dst pi.e).box Vl/\Vl.e=pk.e/\(pk.ok->Vl.ok)/\(σ.app ok.dst pk.e).app oi.dst pi.e=(σ.app oi.dst pi.e).app ok.dst pk.e:=by
 have hbk:∀ id,id ∉(I4 ops k ok pk.e).wr->(σ.app ok.dst pk.e).box id=σ.box id:=fun id h=>Vk h
 have hbi:∀ id,id ∉(I4 ops i oi pi.e).wr->(σ.app oi.dst pi.e).box id=σ.box id:=fun id h=>Vk h
 obtain⟨TM,h1,h2,h3⟩:=hi.loc (env':=σ.env) (box':=σ.box) (fun t ht=>by
   rw[ZeL,if_neg];intro e;exact(ha.a t e).1 ht) (fun id hid=>(hbk id fun hw=>(ha.c id hw).2.1 hid).symm) (fun id hid=>by
   by_cases hw:id∈(I4 ops k ok pk.e).wr
   .rcases(ha.c id hw).2.2 with hc|hc
    .obtain⟨c1,cbs,c2,b,hb⟩:=Zrx hw hc;obtain⟨b0,q1,q2⟩:=hk.shape c1 hb;intro x hx;rw[TL,cbs,hb]at hx;dsimp only at hx;rw[if_pos rfl]at hx;obtain rfl:=Z7 hx;exact⟨b0,q1,q2.1.symm,q2.2.1.symm,q2.2.2.1.symm,q2.2.2.2.1.symm,q2.2.2.2.2.symm⟩
    .exact absurd hid hc
   .rw[hbk id hw];exact .refl _)
 obtain⟨Vl,h4,h5,h6⟩:=hk.loc (env':=(σ.app oi.dst pi.e).env) (box':=(σ.app oi.dst pi.e).box) (fun t ht=>by
   rw[ZeL,if_neg];intro e;exact ha.b t e ht) (fun id hid=>hbi id fun hw=>(ha.d id hw).1 hid) (fun id hid=>by
   by_cases hw:id∈(I4 ops i oi pi.e).wr
   .rcases(ha.d id hw).2 with hc|hc
    .obtain⟨c1,cbs,c2,b,hb⟩:=Zrx hw hc;obtain⟨b0,q1,q2⟩:=h1.shape (by rw[h2];exact c1) (by rw[h2];exact hb);intro x hx;rw[q1]at hx;obtain rfl:=Z7 hx;refine⟨b,?_,q2⟩;rw[TL,cbs,hb];exact if_pos rfl
    .exact absurd hid hc
   .rw[hbi id hw];exact .refl _)
 refine⟨TM,Vl,h1,h2,h3,h4,h5,h6,ZpZ (fun t=>?_) (fun id=>?_) (by simp only[Vj]) (by simp only[Vj])⟩
 .simp only[ZeL];by_cases e1:oi.dst=some t<;>by_cases e2:ok.dst=some t
  .exact absurd e1 (ha.a t e2).2
  .rw[if_pos e1,if_neg e2,if_pos e1]
  .rw[if_neg e1,if_pos e2,if_pos e2]
  .rw[if_neg e1,if_neg e2,if_neg e2,if_neg e1]
 .by_cases e1:id∈(I4 ops i oi pi.e).wr
  .have e2:id ∉(I4 ops k ok pk.e).wr:=fun h=>(ha.c id h).1 e1
   rw[Vk (σ:=σ.app oi.dst pi.e) e2,TL (σ.app ok.dst pk.e) oi.dst pi.e id,TL σ oi.dst pi.e id,Vk (σ:=σ) e2]
  .rw[Vk (σ:=σ.app ok.dst pk.e) e1,TL σ ok.dst pk.e id,TL (σ.app oi.dst pi.e) ok.dst pk.e id,Vk (σ:=σ) e1]
end
inductive Dm(P:Program)(ops:Array Oper)(clk:Nat):List (Nat×Oper)->AS->List IP->AS->Prop
 |nil (σ:AS):Dm P ops clk [] σ [] σ
 |cons {i:Nat} {o:Oper} {l:List (Nat×Oper)} {σ σ':AS} {ss:List IP} {pl:Pl} (h:SP P ops o (clk+i) σ.env σ.box pl) (hk:pl.ok) (hr:Dm P ops clk l (σ.app o.dst pl.e) ss σ'):Dm P ops clk ((i,o):: l) σ (I4 ops i o pl.e::ss) σ'
def dS(ops:Array Oper):Nat->Nat->Nat->Bool
 |0,_,_=>false
 |f+1,i,k=>match ops[i]? with
  |some o=>o.after.any fun e=>Region.binds .any e && (e.on == k || dS ops f e.on k)
  |none=>false
def Zp5(ops:Array Oper):Bool:=(List.range ops.size).all fun i=>match ops[i]? with
 |some o=>o.after.all fun e=>!Region.binds .any e || decide (e.on<i)
 |none=>true
def Zpw(n:Nat)(ops:List Oper):Bool:=ops.all fun o=>match o.dst with|some d=>decide (d<n)| none=>true
def nH(ops:Array Oper)(x y:IP):Bool:=dP x y || dS ops ops.size y.ix x.ix
def Vm(ops:Array Oper):List IP->Bool
 |[]=>true
 |x::l=>l.all (nH ops x) && Vm ops l
section
variable{P:Program}{ops:Array Oper}{clk:Nat}
theorem ZlQ{l:List IP}(h:Vm ops l=true):l.Pairwise fun x y=>nH ops x y=true:=by
 induction l with
 |nil=>exact .nil
 |cons x l ih =>
  simp only[Vm,Zc]at h;exact .cons (fun y hy=>Zu.1 h.1 y hy) (ih h.2)
theorem Z90:∀ (l1:List (Nat×Oper)) {l2:List (Nat×Oper)} {i:Nat} {o:Oper} {σ σ':AS} {ss:List IP},Dm P ops clk (l1++(i,o):: l2) σ ss σ' ->
  ∃ NZ s TN,ss=NZ++s::TN/\NZ.map (·.ix)=l1.map (·.1)/\s.ix=i/\((∀ x∈NZ,dP x s=true)->∃ pl,SP P ops o (clk+i) σ.env σ.box pl/\pl.ok/\s=I4 ops i o pl.e/\Dm P ops clk (l1++l2) (σ.app o.dst pl.e) (NZ++TN) σ')
 |[],l2,i,o,σ,σ',ss,h=>by
  cases h with
  |cons h hk hr=>exact⟨[],_,_,rfl,rfl,rfl,fun _=>⟨_,h,hk,rfl,hr⟩⟩
 |(k,ok):: l1,l2,i,o,σ,σ',ss,h=>by
  cases h with
  |cons h hk hr =>
   rename_i ss0 pk
   obtain⟨NZ,s,TN,e1,e2,e3,e4⟩:=Z90 l1 hr
   refine⟨I4 ops k ok pk.e::NZ,s,TN,by rw[e1];rfl,by simp[e2,I4,dO],e3,fun hall=>?_⟩
   obtain⟨pl,h1,h2,h3,h4⟩:=e4 fun x hx=>hall x (by simp[hx])
   have hap:=ZeM (hall (I4 ops k ok pk.e) s_)
   rw[h3]at hap
   obtain⟨TM,Vl,q1,q2,q3,q4,q5,q6,q7⟩:=ZpV h h1 hap
   refine⟨TM,q1,q3 h2,by rw[q2];exact h3,?_⟩
   rw[q2]
   show Dm P ops clk ((k,ok)::(l1++l2)) (σ.app o.dst pl.e) (I4 ops k ok pk.e ::(NZ++TN)) σ'
   rw[<- q5]
   refine .cons q4 (q6 hk) ?_
   rw[q5,<- q7]
   exact h4
theorem Zau{listed:Array Bool}(hc:∀ j o,listed.getD j false=true->ops[j]? = some o->∀ e∈o.after,Region.binds .any e=true->listed.getD e.on false=true):∀ (f i k:Nat) (o:Oper),ops[i]? = some o->(∀ e∈o.after,Region.binds .any e=true->listed.getD e.on false=true)->dS ops f i k=true->listed.getD k false=true
 |0,_,_,_,_,_,h=>by cases h
 |f+1,i,k,o,ho,hd,h=>by
  simp only[dS,ho]at h
  obtain⟨j,hj,he⟩:=Array.any_eq_true.1 h
  simp only[Zc,Bool.or_eq_true,beq_iff_eq]at he
  have hm:o.after[j]∈o.after:=Array.getElem_mem hj
  have hl:=hd _ hm he.1
  rcases he.2 with e|e
  .rw[<- e];exact hl
  .cases ho2:ops[(o.after[j]).on]? with
   |none =>
    exfalso
    cases f with
    |zero=>cases e
    |succ f=>simp[dS,ho2]at e
   |some o2=>exact Zau hc f _ k o2 ho2 (fun e2 hm2 hb2=>hc _ o2 hl ho2 e2 hm2 hb2) e
def UD(clk:Nat)(listed:Array Bool)(s:Nat):Prop:=s<clk∨∃ i,listed.getD i false=true/\s=clk+i
theorem Zd7{U:Nat->Prop}{σ:AS}{m:Mem}{a:Act}{w:World}{o:Oper}(hs:B5 U σ m a w){b:Bool}(h:M4 ops o σ.env=some b):Region.wanted o (yielded ops a.tmps)=b:=by
 unfold M4 at h;unfold Region.wanted;cases hg:o.guard with
 |none=>rw[hg]at h;exact Z7 h
 |some p =>
  obtain⟨g,want⟩:=p;rw[hg]at h;dsimp only at h ⊢;unfold yielded;cases hd:(ops[g]?).bind (·.dst)with
  |none=>rw[hd]at h;cases h
  |some d =>
   rw[hd]at h;dsimp only at h;have hv:=hs.slots d;rw[Array.getD_eq_getD_getElem?]at hv;split at h
   .rename_i b' hb';rw[hb']at hv;have e:=Jt hv;obtain rfl:=Z7 h;cases ht:a.tmps[d]? with
    |none=>rw[ht]at e;cases e
    |some v=>rw[ht]at e;simp only[Option.getD_some]at e;subst e;simp[ht]
   .rename_i hb';rw[hb']at hv;have e:(a.tmps[d]?).getD undef=undef:=hv;obtain rfl:=Z7 h;cases ht:a.tmps[d]? with
    |none=>simp[ht]
    |some v=>rw[ht]at e;simp only[Option.getD_some]at e;subst e;simp[ht,undef]
   .cases h
theorem Zo7{U:Nat->Prop}{σ:AS}{m:Mem}{a:Act}{w:World}{o:Oper}{st:Nat}{pl:Pl}(hs:B5 U σ m a w)(hst:¬ U st)(hd:∀ t,o.dst=some t->t<σ.n)(h:SP P ops o st σ.env σ.box pl)(hok:pl.ok)(K:Act->World->Prop)(Q:Exit->Act->World->Prop) 
  (hK:∀ v w' m',B5 (fun s=>U s∨s=st) (σ.app o.dst pl.e) m' (a.put o.dst v) w'->m'.w0=m.w0->m'.F=m.F->Cj U m w m' w'->K (a.put o.dst v) w'):
  if Region.wanted o (yielded ops a.tmps)then o.wp P a w K Q∨(o.asks P a w/\LetsOut Q)else K (a.put o.dst undef) w:=by
 rcases h with⟨hg,h⟩|⟨hg,rfl⟩
 .rw[Zd7 hs hg];exact .inl (ZoM hs hst hd pl h hok K Q hK)
 .rw[Zd7 hs hg];refine hK undef w m ?_ rfl rfl (Cj.refl U m w);exact(hs.put (d:=.und) rfl trivial o.dst hd).mono fun s h=>.inl h
theorem ZrJ(Q:Exit->Act->World->Prop)(hlex:Zp5 ops=true):∀ (fuel:Nat) (listed:Array Bool) (L:List (Nat×Oper)) (σ σ':AS) (ss:List IP) (m:Mem) (a:Act) (w:World),
  Dm P ops clk L σ ss σ'->ss.Pairwise (fun x y=>nH ops x y=true)->L.length=fuel->listed.size=ops.size->(∀ p∈L,ops[p.1]? = some p.2/\listed.getD p.1 true=false)->(∀ i,i<ops.size->listed.getD i true=false->∃ o,(i,o)∈L)->
  (∀ j o,listed.getD j false=true->ops[j]? = some o->∀ e∈o.after,Region.binds .any e=true->listed.getD e.on false=true)->L.Pairwise (fun p q=>p.1<q.1)->(∀ p∈L,∀ t,p.2.dst=some t->t<σ.n)->B5 (UD clk listed) σ m a w ->
  (∀ m' a' w' listed',B5 (UD clk listed') σ' m' a' w'->listed'.size=ops.size->m'.w0=m.w0->m'.F=m.F->Cj (fun s=>s<clk) m w m' w'->Q .normal a' w')->wpAny P .any ops Q fuel listed a w:=by
 have IQ:∀ (listed:Array Bool) (i:Nat),i∈Region.ready .any ops listed↔i<ops.size/\listed.getD i true=false/\∃ o,ops[i]? = some o/\∀ e∈o.after,Region.binds .any e=true->listed.getD e.on false=true:=fun listed i=>by
  unfold Region.ready;rw[List.mem_filter,List.mem_range];constructor
  .rintro⟨h1,h2⟩;simp only[Zc,Bool.not_eq_true']at h2;refine⟨h1,h2.1,?_⟩;cases ho:ops[i]? with
   |none=>rw[ho]at h2;simp at h2
   |some o =>
    rw[ho]at h2;refine⟨o,rfl,fun e he hb=>?_⟩;have:=Array.all_eq_true_iff_forall_mem.1 (show o.after.all _=true from h2.2) e he;simpa [hb]using this
  .rintro⟨h1,h2,o,ho,h3⟩;refine⟨h1,?_⟩;rw[h2,ho];simp only[Bool.not_false,Bool.true_and,Option.map_some,Option.getD_some]
   exact Array.all_eq_true_iff_forall_mem.2 fun e he=>by
    cases hb:Region.binds .any e
    .rfl
    .simp[h3 e he hb]
 intro fuel;induction fuel with
 |zero =>
  intro listed L σ σ' ss m a w hch hpw hlen hsz hL Nb hcl hsrt hdst hs hQ;have hLn:=ZN hlen;subst hLn;cases hch;refine⟨?_,hQ m a w listed hs hsz rfl rfl (Cj.refl _ m w)⟩;apply List.eq_nil_iff_forall_not_mem.2;intro i hi;obtain⟨h1,h2,_⟩:=(IQ listed i).1 hi;obtain⟨o,ho⟩:=Nb i h1 h2;cases ho
 |succ fuel ih =>
  intro listed L σ σ' ss m a w hch hpw hlen hsz hL Nb hcl hsrt hdst hs hQ;refine⟨fun hr=>?_,fun i hi=>?_⟩
  .exfalso;cases L with
   |nil=>simp at hlen
   |cons p r =>
    obtain⟨i,o⟩:=p;obtain⟨h1,h2⟩:=hL (i,o) s_;have hi:i<ops.size:=(Array.getElem?_eq_some_iff.1 h1).1
    have:i∈Region.ready .any ops listed:=(IQ listed i).2 ⟨hi,h2,o,h1,fun e he hb=>by
     have hl:=Zu.1 hlex i (List.mem_range.2 hi);rw[h1]at hl;have hlt:=Array.all_eq_true_iff_forall_mem.1 (show o.after.all _=true from hl) e he;simp only[hb,Bool.not_true,Bool.false_or,decide_eq_true_eq]at hlt;cases hle:listed.getD e.on true with
     |true =>
      have:e.on<listed.size:=by omega
      simpa [Array.getD,this]using hle
     |false =>
      obtain⟨o2,ho2⟩:=Nb e.on o_ hle;rcases Zn.1 ho2 with h3|h3
      .simp only[Prod.mk.injEq]at h3;omega
      .have:=List.rel_of_pairwise_cons hsrt h3;simp only at this;omega⟩
    rw[hr]at this;cases this
  .obtain⟨h1,h2,o,ho,h3⟩:=(IQ listed i).1 hi;obtain⟨o',ho'⟩:=Nb i h1 h2;obtain⟨e1,_⟩:=hL _ ho';simp only at e1;rw[ho]at e1;obtain rfl:=Z7 e1;obtain⟨l1,l2,rfl⟩:=List.append_of_mem ho';obtain⟨NZ,s,TN,q1,q2,q3,q4⟩:=Z90 l1 hch;subst q1
   have hnot:∀ k,listed.getD k true=false->listed.getD k false=false:=fun k hk=>by
    by_cases hks:k<listed.size
    .simpa [Array.getD,hks]using hk
    .simp[Array.getD,hks]
   have hap:∀ x∈NZ,dP x s=true:=fun x hx=>by
    have:=(List.pairwise_append.1 hpw).2.2 x hx s s_;unfold nH at this;rcases Bool.or_eq_true _ _▸this with h|h
    .exact h
    .exfalso;rw[q3]at h;have hl:=Zau hcl ops.size i x.ix o ho h3 h;have hxm:x.ix∈l1.map (·.1):=by rw[<- q2];exact ZB.2 ⟨x,hx,rfl⟩
     obtain⟨p,hp,hpx⟩:=ZB.1 hxm;have:=hnot _ (hL p (Z9.2 (.inl hp))).2;rw[hpx]at this;rw[this]at hl;cases hl
   obtain⟨pl,r1,r2,r3,r4⟩:=q4 hap
   have hst:¬ UD clk listed (clk+i):=fun hu=>by
    rcases hu with hu |⟨j,hj,hu⟩
    .omega
    .have:i=j:=by omega
     subst this;rw[hnot i h2]at hj;cases hj
   unfold wpOp;rw[ho];dsimp only;have hiL:i<listed.size:=by omega
   refine Zo7 hs hst (hdst _ ho') r1 r2 _ _ fun v w' m' hs' e0 eF hev=>?_
   have hget:∀ (d:Bool) (k:Nat),(listed.setIfInBounds i true).getD k d=if k=i then true else listed.getD k d:=fun d k=>by
    simp only[Array.getD_eq_getD_getElem?,Array.getElem?_setIfInBounds];by_cases hki:k=i
    .subst hki;simp[hiL]
    .rw[if_neg (fun e=>hki e.symm),if_neg hki]
   have hne:∀ p∈l1++l2,p.1≠i:=fun p hp e=>by
    rw[List.pairwise_append]at hsrt;rcases Z9.1 hp with h|h
    .have:=hsrt.2.2 p h (i,o) s_;simp only at this;omega
    .have:=List.rel_of_pairwise_cons hsrt.2.1 h;simp only at this;omega
   refine ih (listed.setIfInBounds i true) (l1++l2) _ σ' (NZ++TN) m' _ w' r4 (hpw.sublist (List.Sublist.append_left (List.sublist_cons_self _ _) _)) (by simp at hlen ⊢;omega) (by simp[hsz]) (fun p hp=>?_) (fun k hk hl=>?_) (fun j oj hj hoj e he hb=>?_) (hsrt.sublist (List.Sublist.append_left (List.sublist_cons_self _ _) _)) (fun p hp t ht=>?_) (hs'.mono fun s hs=>?_) fun m2 a2 w2 l2 q1 q2 q3 q4 q5=>hQ m2 a2 w2 l2 q1 q2 (q3.trans e0) (q4.trans eF) ((hev.mono fun s h=>.inl h).trans q5)
   .have hm:p∈l1++(i,o):: l2:=by
     rcases Z9.1 hp with h|h
     .exact Z9.2 (.inl h)
     .exact Z9.2 (.inr (by simp[h]))
    refine⟨(hL p hm).1,?_⟩;rw[hget,if_neg (hne p hp)];exact(hL p hm).2
   .rw[hget]at hl;split at hl
    .cases hl
    .rename_i hki;obtain⟨o2,ho2⟩:=Nb k hk hl;refine⟨o2,?_⟩;rcases Z9.1 ho2 with h|h
     .exact Z9.2 (.inl h)
     .rcases Zn.1 h with h|h
      .simp only[Prod.mk.injEq]at h;exact absurd h.1 hki
      .exact Z9.2 (.inr h)
   .rw[hget]at hj ⊢;split at hj
    .rename_i hji;subst hji;rw[ho]at hoj;obtain rfl:=Z7 hoj;split
     .rfl
     .exact h3 e he hb
    .split
     .rfl
     .exact hcl j oj hj hoj e he hb
   .rw[(Vj _ _ _).2];refine hdst p ?_ t ht;rcases Z9.1 hp with h|h
    .exact Z9.2 (.inl h)
    .exact Z9.2 (.inr (by simp[h]))
   .rcases hs with h|rfl
    .rcases h with h |⟨j,hj,rfl⟩
     .exact .inl h
     .refine .inr ⟨j,?_,rfl⟩;rw[hget];split
      .rfl
      .exact hj
    .exact .inr ⟨i,by rw[hget,if_pos rfl],rfl⟩
end
def Wk(σ σ':AS):Prop:=σ'.n=σ.n/\σ.clk<=σ'.clk/\∀ (m:Mem) (a:Act) (w:World),B5 (fun s=>s<σ.clk) σ m a w->∃ m',B5 (fun s=>s<σ'.clk) σ' m' a w/\m'.w0=m.w0/\m'.F=m.F/\Cj (fun s=>s<σ.clk) m w m' w
theorem AZ(σ:AS):Wk σ σ:=⟨rfl,Zd _,fun m a w h=>⟨m,h,rfl,rfl,Cj.refl _ m w⟩⟩
theorem Wk.trans{σ2:AS}(h:Wk σ σ1)(k:Wk σ1 σ2):Wk σ σ2:=⟨k.1.trans h.1,Zj h.2.1 k.2.1,fun m a w hs=>by
 obtain⟨m1,h1,h2,h3,h4⟩:=h.2.2 m a w hs
 obtain⟨m2,k1,k2,k3,k4⟩:=k.2.2 m1 a w h1
 have hle:=h.2.1
 exact⟨m2,k1,k2.trans h2,k3.trans h3,h4.trans (k4.mono fun s h=>by omega)⟩⟩
def Ks(l:List Nat)(box:Nat->Option AY):AV->AV
 |.vw id st=>if l.contains id then (match box id with|some b=>if b.st=st/\b.pl=true then .sl false b.T b.sz b.els else .vw id st|none=>.vw id st)else .vw id st
 |d=>d
def dU(l:List Nat)(box:Nat->Option AY):AV->AV
 |.agg cs=>.agg (cs.map (Ks l box))
 |d=>Ks l box d
def Lf(l:List Nat)(box:Nat->Option AY)(b:AY):AY:=if b.pl then b else { b with els:=b.els.map fun cs=>cs.map (Ks l box)}
def AS.Lg(σ:AS)(l:List Nat):AS:={ σ with env:=fun t=>dU l σ.box (σ.env t),box:=fun id=>if l.contains id then none else (σ.box id).map (Lf l σ.box)}
theorem ZnM(l:List Nat)(box:Nat->Option AY)(b:AY):(Lf l box b).T=b.T/\(Lf l box b).sz=b.sz/\(Lf l box b).st=b.st/\(Lf l box b).els.length=b.els.length/\(Lf l box b).pl=b.pl:=by
 unfold Lf;split<;>simp_all
theorem Zk8(l:List Nat)(box:Nat->Option AY)(id st:Nat):Ks l box (.vw id st)=.vw id st∨∃ b,box id=some b/\id∈l/\b.st=st/\b.pl=true/\Ks l box (.vw id st)=.sl false b.T b.sz b.els:=by
 simp only[Ks];by_cases hc:l.contains id=true
 .rw[if_pos hc];cases hb:box id with
  |none=>exact .inl rfl
  |some b =>
   dsimp only;by_cases hcc:b.st=st/\b.pl=true
   .rw[if_pos hcc];exact .inr ⟨b,rfl,by simpa using hc,hcc.1,hcc.2,rfl⟩
   .rw[if_neg hcc];exact .inl rfl
 .rw[if_neg hc];exact .inl rfl
theorem ZnL{U:Nat->Prop}{l:List Nat}{box:Nat->Option AY}{d:AV}(h:Bu U d):Bu U (Ks l box d):=by
 cases d
 case vw id st =>
  rcases Zk8 l box id st with e |⟨b,_,_,_,_,e⟩
  .rw[e];exact h
  .rw[e];trivial
 all_goals trivial
theorem Wk.DT(σ:AS)(l:List Nat):Wk σ (σ.Lg l):=by
 refine⟨rfl,Zd _,fun m a w hs=>?_⟩;obtain⟨m',hm'⟩:∃ m':Mem,m' ={ m with bx:=(σ.Lg l).box }:=⟨_,rfl⟩;have Lc:m'.bx=(σ.Lg l).box:=by rw[hm']
 have E9:m'.loc=m.loc:=by rw[hm']
 have GH:m'.w0=m.w0:=by rw[hm']
 have eF:m'.F=m.F:=by rw[hm']
 have hin:∀ id b',m'.bx id=some b'->l.contains id=false/\∃ b,σ.box id=some b/\b'=Lf l σ.box b:=fun id b' h=>by
  rw[Lc]at h;have h:(if l.contains id then none else (σ.box id).map (Lf l σ.box))=some b':=h;split at h
  .cases h
  .rename_i hc;cases hb:σ.box id with
   |none=>rw[hb]at h;cases h
   |some b=>rw[hb]at h;exact⟨by simpa using hc,b,rfl,(Z7 h).symm⟩
 have hM:∀ g,m'.M g->(m.DT l).M g:=fun g ⟨id,b',h1,h2⟩=>by
  obtain⟨h3,b,h4,h5⟩:=hin id b' h1;refine⟨id,b,?_,by rw[E9]at h2;exact h2⟩;show(if l.contains id then none else m.bx id)=some b;rw[h3,hs.bx,h4];rfl
 have hM0:∀ g,m'.M g->m.M g:=fun g h=>Zri (hM g h)
 have hR:∀ g,(m.DT l).R w g->m'.R w g:=fun g h=>⟨⟨h.1.1,fun hm=>h.1.2 (hM g hm)⟩,fun hl=>by rw[eF];rw[GH]at hl;exact h.2 hl⟩
 have ev:Cj (fun s=>s<σ.clk) m w m' w:=⟨GH,eF,fun g hg=>⟨rfl,hg.1,fun hm=>hg.2 (hM0 g hm)⟩,fun id b' h1 _=>by
  obtain⟨_,b,h4,rfl⟩:=hin id b' h1;obtain⟨q1,q2,q3,q4,q5⟩:=ZnM l σ.box b;exact⟨b,by rw[hs.bx];exact h4,q3.symm,by rw[E9],q2,q4⟩⟩
 have hC:∀ v d,BB m w v d->Bu (fun s=>s<σ.clk) d->BB m' w v (Ks l σ.box d):=fun v d r hu=>by
  cases d
  case vw id st =>
   have hst:=ev.DI r hu;rcases Zk8 l σ.box id st with e |⟨b,hb,hc,h1,h2,e⟩
   .rw[e];exact hst
   .rw[e];exact JH ((mY hs r hb h1 h2 hc).keep (fun _ _=>rfl) hR)
  all_goals exact ev.DI r hu
 have hL:∀ vs ds,BF m w vs ds->(∀ d∈ds,Bu (fun s=>s<σ.clk) d)->BF m' w vs (ds.map (Ks l σ.box)):=fun vs ds r hu=>⟨by rw[Zo];exact r.len,fun j v d h1 h2=>by
  rw[ZH]at h2;cases hd:ds[j]? with
  |none=>rw[hd]at h2;cases h2
  |some d0 =>
   rw[hd]at h2;obtain rfl:=Z7 h2;exact hC v d0 (r.at_ j v d0 h1 hd) (hu d0 (Z6 hd))⟩
 refine⟨m',⟨Lc,by rw[GH];exact hs.below,hs.defers,hs.size,fun t=>?_,fun t=>?_,fun id b' hb'=>?_,fun i j bi bj g hi hj gi gj=>?_⟩,GH,eF,ev⟩
 .show XQ m' w _ (dU l σ.box (σ.env t));have r:=hs.slots t;have hu:=hs.ok t;generalize σ.env t=d at r hu ⊢;cases d
  case agg cs =>
   obtain⟨vs,e,rl⟩:=(show Ez m w _ (.agg cs)from r);exact⟨vs,e,hL vs cs rl hu⟩
  case vw id st =>
   have:=hC _ (.vw id st) r hu;refine P5 (d:=Ks l σ.box (.vw id st)) this
  all_goals exact ev.Ht r hu
 .show okV _ (dU l σ.box (σ.env t));have hu:=hs.ok t;generalize σ.env t=d at hu ⊢;cases d
  case agg cs =>
   intro c hc;obtain⟨c0,h0,rfl⟩:=ZB.1 hc;exact ZnL (hu c0 h0)
  case vw id st =>
   show okV _ (Ks l σ.box (.vw id st));rcases Zk8 l σ.box id st with e |⟨b,_,_,_,_,e⟩
   .rw[e];exact hu
   .rw[e];trivial
  all_goals exact hu
 .obtain⟨hc,b,hb,rfl⟩:=hin id b' (by rw[Lc];exact hb');obtain⟨q1,q2,q3,q4,q5⟩:=ZnM l σ.box b;obtain⟨⟨css,ho,hr⟩,h2,h3⟩:=hs.boxes id b hb;refine⟨⟨css,by rw[GH,E9,q1,q2,q4];exact ho,?_⟩,by rw[q3];exact h2,?_⟩
  .rw[q2,q5];intro i cs ds a1 a2;unfold Lf at a2;split at a2
   .rename_i hpl;obtain⟨r1,r2,r3⟩:=hr i cs ds a1 a2;exact⟨r1,ev.EE r2 (h3 ds (Z6 a2)),fun hp j v d x y=>ev.Dc (r3 hp j v d x y)⟩
   .rename_i hpl;rw[ZH]at a2;cases hd:b.els[i]? with
    |none=>rw[hd]at a2;cases a2
    |some d0 =>
     rw[hd]at a2;obtain rfl:=Z7 a2;obtain⟨r1,r2,r3⟩:=hr i cs d0 a1 hd;exact⟨by rw[Zo];exact r1,hL _ _ r2 (h3 d0 (Z6 hd)),fun hp=>absurd hp hpl⟩
  .intro ds hds d hd;unfold Lf at hds;split at hds
   .exact h3 ds hds d hd
   .obtain⟨d0,h0,rfl⟩:=ZB.1 hds;obtain⟨c0,hc0,rfl⟩:=ZB.1 hd;exact ZnL (h3 d0 h0 c0 hc0)
 .obtain⟨_,b1,e1,_⟩:=hin i bi (by rw[Lc];exact hi);obtain⟨_,b2,e2,_⟩:=hin j bj (by rw[Lc];exact hj);rw[E9]at gi gj;exact hs.inj i j b1 b2 g e1 e2 gi gj
theorem Zjl{m:Mem}{a:Act}{w:World}(hs:B5 (fun s=>s<σ.clk) σ m a w)(id:Nat)(E:TypeId)(sz:Nat):
  B5 (fun s=>s<σ.clk+1) ({ σ with clk:=σ.clk+1 }.Bc (id,⟨E,sz,σ.clk,[],true⟩)) (m.with id ⟨E,sz,σ.clk,[],true⟩ (none,0)) a w/\BB (m.with id ⟨E,sz,σ.clk,[],true⟩ (none,0)) w (.slice none 0 0) (.vw id σ.clk)/\Cj (fun s=>s<σ.clk) m w (m.with id ⟨E,sz,σ.clk,[],true⟩ (none,0)) w:=by
 have hst:¬(fun s=>s<σ.clk) σ.clk:=by simp
 have hg:w.grownBy w none:=qF (Below.refl _ _) none;obtain⟨ht,hb,hv⟩:=mZ hs hst (w':=w) id E sz [] [] 0 none (.nil sz) hg (by simp[ob]) (Qz _ _ _ _);refine⟨?_,hv,ht.LZ hs⟩;have h1:=ht.mU hs hb;have h2:=(h1.clk (σ.clk+1)).mono (U':=fun s=>s<σ.clk+1) fun s h=>by omega
 exact h2
def AS.P8(σ:AS)(t id:Nat)(E:TypeId)(sz:Nat):AS:=({ σ with clk:=σ.clk+1 }.Bc (id,⟨E,sz,σ.clk,[],true⟩)).set t (.vw id σ.clk)
theorem Wk.own(σ:AS)(t id:Nat)(E:TypeId)(sz:Nat)(h:σ.env t=.nil):Wk σ (σ.P8 t id E sz):=by
 refine⟨rfl,Nat.le_succ _,fun m a w hs=>?_⟩;obtain⟨h1,h2,hev⟩:=Zjl hs id E sz;have hv:a.tmps.getD t undef=.slice none 0 0:=TA (h▸hs.slots t);refine⟨_,⟨h1.bx,h1.below,h1.defers,h1.size,fun t'=>?_,fun t'=>?_,h1.boxes,h1.inj⟩,rfl,rfl,hev⟩
 .show XQ _ w _ (if t'=t then .vw id σ.clk else σ.env t');split
  .rename_i e;subst e;rw[hv];exact P5 h2
  .exact h1.slots t'
 .show okV _ (if t'=t then .vw id σ.clk else σ.env t');split
  .show σ.clk<σ.clk+1;omega
  .exact h1.ok t'
def AS.ownB(σ:AS)(EZ i j id:Nat)(E:TypeId)(sz:Nat):AS:=match σ.box EZ with
 |some b=>match b.els[i]? with
  |some cs=>({ σ with clk:=σ.clk+1 }.Bc (id,⟨E,sz,σ.clk,[],true⟩)).Bc (EZ,{ b with els:=b.els.set i (cs.set j (.vw id σ.clk))})
  |none=>σ
 |none=>σ
theorem nI(σ:AS)(EZ i j id:Nat)(E:TypeId)(sz:Nat)(hne:id≠EZ)(h:∀ b cs,σ.box EZ=some b->b.els[i]? = some cs->b.pl=false/\cs[j]? = some .nil):Wk σ (σ.ownB EZ i j id E sz):=by
 unfold AS.ownB;cases hb:σ.box EZ with
 |none=>exact AZ σ
 |some b =>
  dsimp only;cases hi:b.els[i]? with
  |none=>exact AZ σ
  |some cs =>
   dsimp only;obtain⟨hpl,hj⟩:=h b cs hb hi;refine⟨rfl,Nat.le_succ _,fun m a w hs=>?_⟩;obtain⟨h1,h2,hev⟩:=Zjl hs id E sz;obtain⟨m1,hm1⟩:∃ m1,m1=m.with id ⟨E,sz,σ.clk,[],true⟩ (none,0):=⟨_,rfl⟩;obtain⟨σ1,N9⟩:∃ s:AS,s ={ σ with clk:=σ.clk+1 }.Bc (id,⟨E,sz,σ.clk,[],true⟩):=⟨_,rfl⟩;rw[<- hm1,<- N9]at h1;rw[<- hm1]at h2 hev;rw[<- N9];have e0:m1.w0=m.w0:=by rw[hm1];rfl
   have eF:m1.F=m.F:=by rw[hm1];rfl
   have hb1:σ1.box EZ=some b:=by
    rw[N9];show(if EZ=id then _ else σ.box EZ)=some b;rw[if_neg (fun e=>hne e.symm),hb]
   have dV:σ1.clk=σ.clk+1:=by rw[N9];rfl
   obtain⟨b2,hb2⟩:∃ b2:AY,b2 ={ b with els:=b.els.set i (cs.set j (.vw id σ.clk))}:=⟨_,rfl⟩;rw[<- hb2];have k1:b2.T=b.T/\b2.sz=b.sz/\b2.st=b.st/\b2.els.length=b.els.length/\b2.pl=b.pl:=by rw[hb2];simp
   obtain⟨m2,hm2⟩:∃ m2:Mem,m2 ={ m1 with bx:=fun i=>if i=EZ then some b2 else m1.bx i }:=⟨_,rfl⟩;have Lc:m2.bx=fun i=>if i=EZ then some b2 else m1.bx i:=by rw[hm2]
   have E9:m2.loc=m1.loc:=by rw[hm2]
   have GH:m2.w0=m1.w0:=by rw[hm2]
   have dW:m2.F=m1.F:=by rw[hm2]
   have hback:∀ k x,m2.bx k=some x->∃ y,m1.bx k=some y/\y.st=x.st/\x.sz=y.sz/\x.els.length=y.els.length:=fun k x hx=>by
    rw[Lc]at hx;dsimp only at hx;split at hx
    .rename_i e;subst e;obtain rfl:=Z7 hx;exact⟨b,by rw[h1.bx];exact hb1,k1.2.2.1.symm,k1.2.1,k1.2.2.2.1⟩
    .exact⟨x,hx,rfl,rfl,rfl⟩
   have hM:∀ g,m2.M g->m1.M g:=fun g ⟨k,x,q1,q2⟩=>by
    obtain⟨y,q3,_⟩:=hback k x q1;exact⟨k,y,q3,by rw[E9]at q2;exact q2⟩
   have ev:Cj (fun s=>s<σ.clk+1) m1 w m2 w:=⟨GH,dW,fun g hg=>⟨rfl,hg.1,fun hm=>hg.2 (hM g hm)⟩,fun k x hx _=>by
    obtain⟨y,q1,q2,q3,q4⟩:=hback k x hx;exact⟨y,q1,q2,by rw[E9],q3,q4⟩⟩
   refine⟨m2,⟨?_,by rw[GH];exact h1.below,h1.defers,h1.size,fun t=>?_,fun t=>?_,fun k x hx=>?_,fun i' j' bi bj g hi' hj' gi gj=>?_⟩,GH.trans e0,dW.trans eF,hev.trans (ev.mono fun s h=>by omega)⟩
   .rw[Lc,h1.bx];rfl
   .exact ev.Ht (h1.slots t) (h1.ok t)
   .show okV (fun s=>s<σ1.clk) (σ1.env t);rw[dV];exact h1.ok t
   .have hx2:(if k=EZ then some b2 else σ1.box k)=some x:=hx;have dX:(fun s=>s <(σ1.Bc (EZ,b2)).clk)=fun s=>s<σ.clk+1:=by funext s;show(s<σ1.clk)= _;rw[dV]
    rw[dX];split at hx2
    .rename_i e;subst e;obtain rfl:=Z7 hx2;obtain⟨⟨css,ho,hr⟩,q2,q3⟩:=h1.boxes k b hb1;refine⟨⟨css,by rw[GH,E9,k1.1,k1.2.1,k1.2.2.2.1];exact ho,?_⟩,by rw[k1.2.2.1];exact q2,?_⟩
     .rw[k1.2.1,k1.2.2.2.2];intro i' cs' ds a1 a2;rw[hb2]at a2;dsimp only at a2;rw[List.getElem?_set]at a2;split at a2
      .rename_i e;subst e;split at a2
       .obtain rfl:=Z7 a2;obtain⟨r1,r2,r3⟩:=hr i cs' cs a1 hi;refine⟨by rw[List.length_set];exact r1,⟨by rw[List.length_set];exact r2.len,fun j' v d u1 u2=>?_⟩,fun hp=>by rw[hpl]at hp;cases hp⟩;rw[List.getElem?_set]at u2;split at u2
        .rename_i e;subst e;split at u2
         .obtain rfl:=Z7 u2;have hv:v=.slice none 0 0:=TA (P5 (r2.at_ j v .nil u1 hj));rw[hv];exact ev.DI h2 (by show σ.clk<σ.clk+1;omega)
         .cases u2
        .exact ev.DI (r2.at_ j' v d u1 u2) (q3 cs (Z6 hi) d (Z6 u2))
       .cases a2
      .obtain⟨r1,r2,r3⟩:=hr i' cs' ds a1 a2;exact⟨r1,ev.EE r2 (q3 ds (Z6 a2)),fun hp=>by rw[hpl]at hp;cases hp⟩
     .intro ds hds d hd;rw[hb2]at hds;dsimp only at hds;obtain⟨i',hi',rfl⟩:=ZM hds;have u:=Z4 hi';rw[List.getElem?_set]at u;split at u
      .split at u
       .rw[<- Z7 u]at hd;obtain⟨j',hj',rfl⟩:=ZM hd;have u2:=Z4 hj';rw[List.getElem?_set]at u2;split at u2
        .split at u2
         .rw[<- Z7 u2];show σ.clk<σ.clk+1;omega
         .cases u2
        .exact q3 cs (Z6 hi) _ (Z6 u2)
       .cases u
      .exact q3 _ (Z6 u) d hd
    .obtain⟨⟨css,ho,hr⟩,q2,q3⟩:=h1.boxes k x hx2;refine⟨⟨css,by rw[GH,E9];exact ho,fun i' cs' ds a1 a2=>?_⟩,q2,q3⟩;obtain⟨r1,r2,r3⟩:=hr i' cs' ds a1 a2;exact⟨r1,ev.EE r2 (q3 ds (Z6 a2)),fun hp j v d x y=>ev.Dc (r3 hp j v d x y)⟩
   .have hi2:(if i'=EZ then some b2 else σ1.box i')=some bi:=hi';have hj2:(if j'=EZ then some b2 else σ1.box j')=some bj:=hj'
    have f1:∃ y,σ1.box i'=some y:=by
     split at hi2
     .rename_i e;subst e;exact⟨b,hb1⟩
     .exact⟨bi,hi2⟩
    have f2:∃ y,σ1.box j'=some y:=by
     split at hj2
     .rename_i e;subst e;exact⟨b,hb1⟩
     .exact⟨bj,hj2⟩
    obtain⟨y1,f1⟩:=f1;obtain⟨y2,f2⟩:=f2;rw[E9]at gi gj;exact h1.inj i' j' y1 y2 g f1 f2 gi gj
def Cx(P:Program)(f:FuncId)(args:List Nat->List AV)(mk:List Nat->AV->Eff)(Cu:List Nat->List (List (List AV))->AV->Eff)(raw:List AV)(box:Nat->Option AY)(K:Eff->Prop):Prop :=
 (∃ r fz,Spec P f (args fz) r/\K (mk fz r))∨∃ ln bs ns r,Rv P f raw box ln bs ns r/\K (Cu ln ns r)
def Lh(P:Program)(o:Oper)(st:Nat)(σ:AS)(K:Eff->Prop):Prop :=
 match o.op with
 |.call ⟨.value (.func f),args,_⟩=>(∀ x∈args.toList,N8 σ.box (Az σ.env x))/\Cx P f (fun fz=>args.toList.map fun x=>IM fz σ.box (Az σ.env x)) (fun fz r=>X8 (o.dst.getD 0) st (args.toList.flatMap fun x=>EK (Az σ.env x)) fz r) (fun ln ns r=>TH σ.box (args.toList.flatMap fun x=>EK (Az σ.env x)) ln ns r) (args.toList.map (Az σ.env)) σ.box K
 |_=>match Km P o st σ.env σ.box with
  |some pl=>pl.ok/\K pl.e
  |none=>False
def IR(P:Program)(ops:Array Oper)(clk:Nat):Nat->List Oper->AS->(AS->Prop)->Prop
 |_,[],σ,K=>K σ
 |i,o::l,σ,K=>match M4 ops o σ.env with
  |some true=>Lh P o (clk+i) σ fun e=>IR P ops clk (i+1) l (σ.app o.dst e) K
  |some false=>IR P ops clk (i+1) l (σ.put o.dst .und) K
  |none=>False
def IU(P:Program)(ops:Array Oper)(clk:Nat):Nat->List Oper->AS->List De->(List De->AS->Prop)->Prop
 |_,[],σ,acc,K=>K acc σ
 |i,o::l,σ,acc,K=>match M4 ops o σ.env with
  |some true=>Lh P o (clk+i) σ fun e=>IU P ops clk (i+1) l (σ.app o.dst e) (⟨i,o,Vh e,Vi e,e.rd,e.rs⟩:: acc) K
  |some false=>IU P ops clk (i+1) l (σ.put o.dst .und) (⟨i,o,[],true,[],[]⟩:: acc) K
  |none=>False
def P9(ops:Array Oper)(ms:List De):Prop:=Vm ops (ms.reverse.map (dO ops))=true
theorem EM{ops:Array Oper}{ms:List De}(h:Vm ops (ms.reverse.map (dO ops))=true):P9 ops ms:=h
def AS.tick(σ:AS)(k:Nat):AS:={ σ with clk:=σ.clk+k }
def M5(next:AS->Prop)(Q:Exit->AS->Prop):Exit->AS->Prop
 |.normal,σ=>next σ
 |e,σ=>Q e σ
def Ju(id:Nat)(Q:Exit->AS->Prop):Exit->AS->Prop
 |.exit id',σ=>if id'=id then Q .normal σ else Q (.exit id') σ
 |e,σ=>Q e σ
def ZrS(B:(Exit->AS->Prop)->AS->Prop)(Q:Exit->AS->Prop)(σ:AS):Prop:=∃ (I:AS->Prop) (μ:AS->Nat),I σ/\∀ σ',I σ'->B (M5 (fun Rw=>I Rw/\μ Rw<μ σ') Q) σ'
def I5(I:AS->Prop)(μ:AS->Nat)(k:Nat)(σ:AS):Prop:=∃ σ1,Wk σ σ1/\I σ1/\μ σ1<k
def ZrT(B:(Exit->AS->Prop)->AS->Prop)(Q:Exit->AS->Prop)(σ:AS):Prop:=∃ (I:AS->Prop) (μ:AS->Nat),I σ/\∀ σ',I σ'->B (M5 (I5 I μ (μ σ')) Q) σ'
def ZsR(B:(Exit->AS->Prop)->AS->Prop)(Q:Exit->AS->Prop)(σ:AS):Prop:=∃ σ1,Wk σ σ1/\ZrT B Q σ1
def Kt(B:(Exit->AS->Prop)->AS->Prop)(Q:Exit->AS->Prop)(σ:AS):Prop:=ZrS B Q σ∨ZsR B Q σ
def QR(P:Program):Code->(Exit->AS->Prop)->AS->Prop
 |.skip,Q,σ=>Q .normal σ
 |.label _,Q,σ=>Q .normal σ
 |.region _ ops false,Q,σ=>IR P ops σ.clk 0 ops.toList σ fun σ'=>Q .normal (σ'.tick ops.size)
 |.region _ ops true,Q,σ=>IU P ops σ.clk 0 ops.toList σ [] fun ss σ'=>P9 ops ss/\Q .normal (σ'.tick ops.size)
 |.seq a b,Q,σ=>QR P a (M5 (QR P b Q) Q) σ
 |.cond c x y,Q,σ=>match Az σ.env c with
  |.bool b=>(b=true->QR P x Q σ)/\(b=false->QR P y Q σ)
  |_=>False
 |.block id c,Q,σ=>QR P c (Ju id Q) σ
 |.loop c,Q,σ=>Kt (QR P c) Q σ
 |.exit id,Q,σ=>Q (.exit id) σ
 |.ret,Q,σ=>Q .ret σ
 |_,_,_=>False
def Jc(n:Nat):Code->Bool
 |.region _ ops draw=>Zpw n ops.toList && (!draw || Zp5 ops)
 |.seq a b=>Jc n a && Jc n b
 |.cond _ x y=>Jc n x && Jc n y
 |.block _ c=>Jc n c
 |.loop c=>Jc n c
 |_=>true
section
variable{P:Program}
theorem Zay{o:Oper}{st:Nat}{σ:AS}{K:Eff->Prop}(h:Lh P o st σ K):∃ pl,Le P o st σ.env σ.box pl/\pl.ok/\K pl.e:=by
 unfold Lh at h;split at h
 .rename_i f args ats ho;obtain⟨h1,⟨r,fz,h2,h3⟩|⟨ln,bs,ns,r,h2,h3⟩⟩:=h
  .exact⟨_,.inr (.inl ⟨f,args,ats,r,fz,ho,h2,rfl⟩),h1,h3⟩
  .exact⟨_,.inr (.inr ⟨f,args,ats,ln,bs,ns,r,ho,h2,rfl⟩),h1,h3⟩
 .split at h
  .rename_i pl hpl;exact⟨pl,.inl hpl,h.1,h.2⟩
  .exact h.elim
def M6:Nat->List Oper->List (Nat×Oper)
 |_,[]=>[]
 |i,o::l=>(i,o):: M6 (i+1) l
theorem ZiS(σ:AS)(d:Option Tmp):σ.put d .und=σ.app d Vg.e:=rfl
theorem Z60(ops:Array Oper)(clk:Nat):∀ (l:List Oper) (i:Nat) (σ:AS) (K:AS->Prop),IR P ops clk i l σ K->∃ ss σ',Dm P ops clk (M6 i l) σ ss σ'/\K σ'
 |[],i,σ,K,h=>⟨[],σ,.nil σ,h⟩
 |o::l,i,σ,K,h=>by
  simp only[IR]at h
  split at h
  .rename_i hg
   obtain⟨pl,h1,h2,h3⟩:=Zay h
   obtain⟨ss,σ',h4,h5⟩:=Z60 ops clk l (i+1) _ K h3
   exact⟨_,σ',.cons (.inl ⟨hg,h1⟩) h2 h4,h5⟩
  .rename_i hg
   obtain⟨ss,σ',h4,h5⟩:=Z60 ops clk l (i+1) _ K h
   rw[ZiS]at h4
   exact⟨_,σ',.cons (pl:=Vg) (.inr ⟨hg,rfl⟩) trivial h4,h5⟩
  .exact h.elim
theorem Z61(ops:Array Oper)(clk:Nat):∀ (l:List Oper) (i:Nat) (σ:AS) (acc:List De) (K:List De->AS->Prop),IU P ops clk i l σ acc K->∃ (ss:List De) (σ':AS),Dm P ops clk (M6 i l) σ (ss.map (dO ops)) σ'/\K (ss.reverse++acc) σ'
 |[],i,σ,acc,K,h=>⟨[],σ,.nil σ,h⟩
 |o::l,i,σ,acc,K,h=>by
  simp only[IU]at h
  split at h
  .rename_i hg
   obtain⟨pl,h1,h2,h3⟩:=Zay h
   obtain⟨ss,σ',h4,h5⟩:=Z61 ops clk l (i+1) _ _ K h3
   exact⟨⟨i,o,Vh pl.e,Vi pl.e,pl.e.rd,pl.e.rs⟩:: ss,σ',.cons (.inl ⟨hg,h1⟩) h2 h4,by simpa using h5⟩
  .rename_i hg
   obtain⟨ss,σ',h4,h5⟩:=Z61 ops clk l (i+1) _ _ K h
   rw[ZiS]at h4
   exact⟨⟨i,o,[],true,[],[]⟩:: ss,σ',.cons (pl:=Vg) (.inr ⟨hg,rfl⟩) trivial h4,by simpa using h5⟩
  .exact h.elim
def QW(n:Nat)(w0:World)(F:Nat->Prop)(c0:Nat)(m0:Mem)(wS:World)(Q:Exit->AS->Prop)(e:Exit)(a:Act)(w:World):Prop:=∃ σ m,Q e σ/\σ.n=n/\B5 (fun s=>s<σ.clk) σ m a w/\m.w0=w0/\m.F=F/\Cj (fun s=>s<c0) m0 wS m w/\c0<=σ.clk
theorem B5.drawn{U:Nat->Prop}{σ:AS}{m:Mem}{a:Act}{w:World}(h:B5 U σ m a w):B5 U σ m a { w with drawn:=w.drawn+1 }:=by
 have ev:Cj U m w m { w with drawn:=w.drawn+1 }:=⟨rfl,rfl,fun g hg=>⟨rfl,hg⟩,fun id b h _=>⟨b,h,rfl,rfl,rfl,rfl⟩⟩;refine⟨h.bx,h.below.drew,h.defers,h.size,fun t=>ev.Ht (h.slots t) (h.ok t),h.ok,fun id b hb=>?_,h.inj⟩;obtain⟨⟨css,ho,hr⟩,q2,q3⟩:=h.boxes id b hb
 exact⟨⟨css,ho.keep (fun g hg=>rfl),fun i cs ds a1 a2=>by
  obtain⟨r1,r2,r3⟩:=hr i cs ds a1 a2;exact⟨r1,ev.EE r2 (q3 ds (Z6 a2)),fun hp j v d x y=>ev.Dc (r3 hp j v d x y)⟩⟩,q2,q3⟩
theorem Dm.clk{ops:Array Oper}{clk:Nat}{L:List (Nat×Oper)}{σ:AS}{ss:List IP}(h:Dm P ops clk L σ ss σ'):σ'.clk=σ.clk/\σ'.n=σ.n:=by
 induction h with
 |nil=>exact⟨rfl,rfl⟩
 |cons h hk hr ih=>exact⟨ih.1.trans (Vj _ _ _).1,ih.2.trans (Vj _ _ _).2⟩
theorem Zfw{ops:Array Oper}{clk:Nat}(Q:Exit->Act->World->Prop):∀ (l:List Oper) (i:Nat) (σ σ':AS) (ss:List IP) (m:Mem) (a:Act) (w:World),Dm P ops clk (M6 i l) σ ss σ'->(∀ j,l[j]? = ops[i+j]?)->(∀ o∈l,∀ t,o.dst=some t->t<σ.n)->B5 (fun s=>s<clk+i) σ m a w ->
  (∀ m' a' w',B5 (fun s=>s<clk+(i+l.length)) σ' m' a' w'->m'.w0=m.w0->m'.F=m.F->Cj (fun s=>s<clk) m w m' w'->Q .normal a' w')->wpOps P ops Q (List.range' i l.length) a w
 |[],i,σ,σ',ss,m,a,w,h,hl,hd,hs,hQ=>by
  cases h
  exact hQ m a w (hs.mono fun s h=>by simpa using h) rfl rfl (Cj.refl _ m w)
 |o::l,i,σ,σ',ss,m,a,w,h,hl,hd,hs,hQ=>by
  cases h with
  |cons h hk hr =>
   have ho:ops[i]? = some o:=by have:=hl 0;simpa using this.symm
   simp only[Zt,List.range'_succ,wpOps,ho]
   refine Zo7 hs o_ (hd o s_) h hk _ _ fun v w' m' hs' e0 eF hev=>?_
   refine Zfw Q l (i+1) _ σ' _ m' _ w' hr (fun j=>by have:=hl (j+1);simp only[ZD]at this;rw[this];congr 1;omega) (fun o' ho' t ht=>by rw[(Vj _ _ _).2];exact hd o' (by simp[ho']) t ht) (hs'.mono fun s h=>by rcases h with h|h<;>omega) fun m2 a2 w2 q1 q2 q3 q4=>hQ m2 a2 w2 (q1.mono fun s h=>by simp only[Zt];omega) (q2.trans e0) (q3.trans eF) ((hev.mono fun s h=>by omega).trans q4)
theorem Zam{n:Nat}{l:List Oper}(h:Zpw n l=true):∀ o∈l,∀ t,o.dst=some t->t<n:=fun o ho t ht=>by
 have:=Zu.1 h o ho
 rw[ht]at this
 simpa using this
theorem dY:∀ (l:List Oper) (i:Nat) (p:Nat×Oper),p∈M6 i l ↔ ∃ j,l[j]? = some p.2/\p.1=i+j
 |[],i,p=>by simp[M6]
 |o::l,i,p=>by
  simp only[M6,Zn,dY l (i+1) p]
  constructor
  .rintro(rfl |⟨j,h1,h2⟩)
   .exact⟨0,rfl,rfl⟩
   .exact⟨j+1,by simpa using h1,o_⟩
  .rintro⟨j,h1,h2⟩
   cases j with
   |zero=>left;simp at h1;obtain⟨a,b⟩:=p;simp at h1 h2;subst h1;subst h2;rfl
   |succ j=>right;exact⟨j,by simpa using h1,o_⟩
theorem ZeZ:∀ (l:List Oper) (i:Nat),(M6 i l).length=l.length
 |[],i=>rfl
 |o::l,i=>by simp[M6,ZeZ l (i+1)]
theorem Z7n:∀ (l:List Oper) (i:Nat),(M6 i l).Pairwise fun p q=>p.1<q.1
 |[],i=>.nil
 |o::l,i=>.cons (fun q hq=>by obtain⟨j,_,h⟩:=(dY l (i+1) q).1 hq;simp only;omega) (Z7n l (i+1))
theorem Zkv(U:Nat->Prop)(m:Mem)(w:World):Cj U m w m { w with drawn:=w.drawn+1 }:=⟨rfl,rfl,fun g hg=>⟨rfl,hg⟩,fun id b h _=>⟨b,h,rfl,rfl,rfl,rfl⟩⟩
theorem Zpx(hm:P.follows .mixedOrders=true){ops:Array Oper}{n:Nat}{w0:World}{F:Nat->Prop}(Q:Exit->Act->World->Prop){σ:AS}{ss:List IP}{m:Mem}{a:Act}{w:World}{id:Nat}(hlex:Zp5 ops=true)(hd:Zpw σ.n ops.toList=true)(h:Dm P ops σ.clk (M6 0 ops.toList) σ ss σ')(Z0Q:Vm ops ss=true)(hs:B5 (fun s=>s<σ.clk) σ m a w) 
  (hQ:∀ m' a' w',B5 (fun s=>s<σ.clk+ops.size) σ' m' a' w'->m'.w0=m.w0->m'.F=m.F->Cj (fun s=>s<σ.clk) m w m' w'->Q .normal a' w'):(Code.region id ops true).wp P Q a w:=by
 refine wp_region_any hm ?_;have hget:∀ (d:Bool) (i:Nat),i<ops.size->(Array.replicate ops.size false).getD i d=false:=fun d i hi=>by simp[Array.getD,hi]
 have dZ:∀ (i:Nat),(Array.replicate ops.size false).getD i false=false:=fun i=>by
  by_cases hi:i<ops.size
  .exact hget _ _ hi
  .simp[Array.getD,hi]
 refine ZrJ (ops:=ops) (clk:=σ.clk) Q hlex ops.size (Array.replicate ops.size false) (M6 0 ops.toList) σ σ' ss m a _ h (ZlQ Z0Q) (by rw[ZeZ];simp) s_ (fun p hp=>?_) (fun i hi _=>?_) (fun j o hj=>?_) (Z7n _ _) (fun p hp t ht=>?_) (hs.drawn.mono fun s h=>.inl h) fun m' a' w' listed' q1 q2 q3 q4 q5=>?_
 .obtain⟨j,h1,h2⟩:=(dY _ _ p).1 hp;rw[Nat.zero_add]at h2;rw[h2];have hj:=(Za.1 h1).1;exact⟨by simpa using h1,hget _ _ (by simpa using hj)⟩
 .exact⟨ops[i],(dY _ _ _).2 ⟨i,s_,s_⟩⟩
 .rw[dZ]at hj;cases hj
 .obtain⟨j,h1,h2⟩:=(dY _ _ p).1 hp;exact Zam hd p.2 (Z6 h1) t ht
 .refine hQ m' a' w' (q1.mono fun s h=>?_) q3 q4 ((Zkv _ m w).trans q5);rcases h with h |⟨i,hi,rfl⟩
  .omega
  .have:i<listed'.size:=by
    rcases Nat.lt_or_ge i listed'.size with h|h
    .exact h
    .simp[Array.getD,Nat.not_lt.2 h]at hi
   omega
theorem Zbo{p:Nat->Prop}(h:∃ k,p k):∃ k,p k/\∀ j,p j->k<=j:=by
 obtain⟨k,hk⟩:=h;induction k using Nat.strongRecOn with
 |_ k ih =>
  by_cases hl:∃ j,j<k/\p j
  .obtain⟨j,h1,h2⟩:=hl;exact ih j h1 h2
  .exact⟨k,hk,fun j hj=>Nat.le_of_not_lt fun h=>hl ⟨j,h,hj⟩⟩
noncomputable def Rx{p:Nat->Prop}(h:∃ k,p k):Nat:=Classical.choose (Zbo h)
theorem Z8m{p:Nat->Prop}(h:∃ k,p k):p (Rx h):=(Classical.choose_spec (Zbo h)).1
theorem Za6{p:Nat->Prop}(h:∃ k,p k){j:Nat}(hj:p j):Rx h<=j:=(Classical.choose_spec (Zbo h)).2 j hj
open Classical in
theorem Zgu(hm:P.follows .mixedOrders=true)(n:Nat)(w0:World)(F:Nat->Prop)(c0:Nat)(m0:Mem)(wS:World):∀ (c:Code) (Q:Exit->AS->Prop) (σ:AS) (m:Mem) (a:Act) (w:World),Jc n c=true->QR P c Q σ->σ.n=n->B5 (fun s=>s<σ.clk) σ m a w->m.w0=w0->m.F=F->Cj (fun s=>s<c0) m0 wS m w->c0<=σ.clk->c.wp P (QW n w0 F c0 m0 wS Q) a w:=by
 intro c;induction c with
 |skip=>intro Q σ m a w hb h hn hs e0 eF hev hcl;exact wp_skip ⟨σ,m,h,hn,hs,e0,eF,hev,hcl⟩
 |label l=>intro Q σ m a w hb h hn hs e0 eF hev hcl;exact wp_label ⟨σ,m,h,hn,hs,e0,eF,hev,hcl⟩
 |exit id=>intro Q σ m a w hb h hn hs e0 eF hev hcl;exact wp_exit ⟨σ,m,h,hn,hs,e0,eF,hev,hcl⟩
 |ret=>intro Q σ m a w hb h hn hs e0 eF hev hcl;exact wp_ret ⟨σ,m,h,hn,hs,e0,eF,hev,hcl⟩
 |goto l=>intro Q σ m a w hb h;exact h.elim
 |refuse s=>intro Q σ m a w hb h;exact h.elim
 |scope c ih=>intro Q σ m a w hb h;exact h.elim
 |rangeFunc f ps x y ih1 ih2=>intro Q σ m a w hb h;exact h.elim
 |region id ops draw =>
  intro Q σ m a w hb h hn hs e0 eF hev hcl;simp only[Jc,Zc]at hb;subst hn;cases draw with
  |false =>
   obtain⟨ss,σ',h1,h2⟩:=Z60 ops σ.clk ops.toList 0 σ _ h;refine wp_region ?_
   have:=Zfw (ops:=ops) (clk:=σ.clk) (QW σ.n w0 F c0 m0 wS Q) ops.toList 0 σ σ' ss m a w h1 (fun j=>by simp) (Zam hb.1) hs fun m' a' w' q1 q2 q3 q4 =>
    ⟨σ'.tick ops.size,m',h2,h1.clk.2,(q1.clk (σ'.clk+ops.size)).mono fun s h=>by
     have:=h1.clk.1;simp only[Nat.zero_add,Array.length_toList]at h;show s<σ'.clk+ops.size;omega,q2.trans e0,q3.trans eF,hev.trans (q4.mono fun s h=>by omega),by have:=h1.clk.1;show c0<=σ'.clk+ops.size;omega⟩
   rw[List.range_eq_range'];simpa using this
  |true =>
   obtain⟨ss,σ',h1,h2,h3⟩:=Z61 ops σ.clk ops.toList 0 σ [] _ h;unfold P9 at h2;rw[List.append_nil,List.reverse_reverse]at h2
   refine Zpx hm (n:=σ.n) (w0:=w0) (F:=F) _ (by simpa using hb.2) hb.1 h1 h2 hs fun m' a' w' q1 q2 q3 q4 =>
    ⟨σ'.tick ops.size,m',h3,h1.clk.2,(q1.clk (σ'.clk+ops.size)).mono fun s h=>by
     have:=h1.clk.1;show s<σ'.clk+ops.size;omega,q2.trans e0,q3.trans eF,hev.trans (q4.mono fun s h=>by omega),by have:=h1.clk.1;show c0<=σ'.clk+ops.size;omega⟩
 |seq x y TP TQ =>
  intro Q σ m a w hb h hn hs e0 eF hev hcl;simp only[Jc,Zc]at hb;refine wp_seq (wp_mono (TP _ σ m a w hb.1 h hn hs e0 eF hev hcl) fun e a' w' hq=>?_);obtain⟨σ',m',q1,q2,q3,q4,q5,q6,q7⟩:=hq;cases e with
  |normal=>exact TQ Q σ' m' a' w' hb.2 q1 q2 q3 q4 q5 q6 q7
  |_=>exact⟨σ',m',q1,q2,q3,q4,q5,q6,q7⟩
 |cond c x y TP TQ =>
  intro Q σ m a w hb h hn hs e0 eF hev hcl;simp only[Jc,Zc]at hb;simp only[QR]at h;split at h
  .rename_i b hc;have hv:=(hs.Az c).1;rw[hc]at hv;refine wp_cond (Jt hv) ?_;cases b with
   |true=>exact TP Q σ m a w hb.1 (h.1 rfl) hn hs e0 eF hev hcl
   |false=>exact TQ Q σ m a w hb.2 (h.2 rfl) hn hs e0 eF hev hcl
  .exact h.elim
 |block id c ih =>
  intro Q σ m a w hb h hn hs e0 eF hev hcl;refine wp_block (wp_mono (ih _ σ m a w hb h hn hs e0 eF hev hcl) fun e a' w' hq=>?_);obtain⟨σ',m',q1,q2,q3,q4,q5,q6,q7⟩:=hq;cases e with
  |exit id' =>
   simp only[Ju]at q1;simp only[Exit.inBlock];split
   .rename_i hid;rw[if_pos hid]at q1;exact⟨σ',m',q1,q2,q3,q4,q5,q6,q7⟩
   .rename_i hid;rw[if_neg hid]at q1;exact⟨σ',m',q1,q2,q3,q4,q5,q6,q7⟩
  |_=>exact⟨σ',m',q1,q2,q3,q4,q5,q6,q7⟩
 |loop c ih =>
  intro Q σ m a w hb h hn hs e0 eF hev hcl
  have main:∀ (σ:AS) (m:Mem) (I:AS->Prop) (μ:AS->Nat),I σ->(∀ σ',I σ'->QR P c (M5 (I5 I μ (μ σ')) Q) σ')->σ.n=n->B5 (fun s=>s<σ.clk) σ m a w->m.w0=w0->m.F=F->Cj (fun s=>s<c0) m0 wS m w->c0<=σ.clk->(Code.loop c).wp P (QW n w0 F c0 m0 wS Q) a w:=by
   intro σ m I μ hI hr hn hs e0 eF hev hcl;let J:Nat->Act->World->Prop:=fun k a w=>∃ σ m,I σ/\σ.n=n/\B5 (fun s=>s<σ.clk) σ m a w/\m.w0=w0/\m.F=F/\Cj (fun s=>s<c0) m0 wS m w/\c0<=σ.clk/\μ σ=k
   let μ':Act->World->Nat:=fun a w=>if h:∃ k,J k a w then Rx h else 0
   refine wp_loop (fun a w=>∃ k,J k a w) μ' ⟨μ σ,σ,m,hI,hn,hs,e0,eF,hev,hcl,rfl⟩ fun a w hJ=>?_
   have hfind:μ' a w=Rx hJ:=dif_pos hJ;obtain⟨σ',m',q1,q2,q3,q4,q5,q8,q9,q6⟩:=Z8m hJ;refine wp_mono (ih _ σ' m' a w hb (hr σ' q1) q2 q3 q4 q5 q8 q9) fun e a' w' hq=>?_
   obtain⟨σ2,m2,r1,r2,r3,r4,r5,r6,r7⟩:=hq;cases e with
   |normal =>
    obtain⟨σ3,hw,hi3,hlt⟩:=r1;obtain⟨m3,s1,s2,s3,s4⟩:=hw.2.2 m2 a' w' r3;have eB:Cj (fun s=>s<c0) m0 wS m3 w':=r6.trans (s4.mono fun s h=>by omega);have eD:c0<=σ3.clk:=Zj r7 hw.2.1;have hJ2:∃ k,J k a' w':=⟨μ σ3,σ3,m3,hi3,hw.1.trans r2,s1,s2.trans r4,s3.trans r5,eB,eD,rfl⟩;refine⟨hJ2,?_⟩;have e2:μ' a' w'=Rx hJ2:=dif_pos hJ2;rw[e2,hfind,<- q6];exact Nat.lt_of_le_of_lt (Za6 hJ2 ⟨σ3,m3,hi3,hw.1.trans r2,s1,s2.trans r4,s3.trans r5,eB,eD,rfl⟩) hlt
   |_=>exact⟨σ2,m2,r1,r2,r3,r4,r5,r6,r7⟩
  rcases h with⟨I,μ,hI,hr⟩|⟨σ1,hw,I,μ,hI,hr⟩
  .let J:Nat->Act->World->Prop:=fun k a w=>∃ σ m,I σ/\σ.n=n/\B5 (fun s=>s<σ.clk) σ m a w/\m.w0=w0/\m.F=F/\Cj (fun s=>s<c0) m0 wS m w/\c0<=σ.clk/\μ σ=k
   let μ':Act->World->Nat:=fun a w=>if h:∃ k,J k a w then Rx h else 0
   refine wp_loop (fun a w=>∃ k,J k a w) μ' ⟨μ σ,σ,m,hI,hn,hs,e0,eF,hev,hcl,rfl⟩ fun a w hJ=>?_
   have hfind:μ' a w=Rx hJ:=dif_pos hJ;obtain⟨σ',m',q1,q2,q3,q4,q5,q8,q9,q6⟩:=Z8m hJ;refine wp_mono (ih _ σ' m' a w hb (hr σ' q1) q2 q3 q4 q5 q8 q9) fun e a' w' hq=>?_
   obtain⟨σ2,m2,r1,r2,r3,r4,r5,r6,r7⟩:=hq;cases e with
   |normal =>
    have hJ2:∃ k,J k a' w':=⟨μ σ2,σ2,m2,r1.1,r2,r3,r4,r5,r6,r7,rfl⟩;refine⟨hJ2,?_⟩;have e2:μ' a' w'=Rx hJ2:=dif_pos hJ2;rw[e2,hfind,<- q6];exact Nat.lt_of_le_of_lt (Za6 hJ2 ⟨σ2,m2,r1.1,r2,r3,r4,r5,r6,r7,rfl⟩) r1.2
   |_=>exact⟨σ2,m2,r1,r2,r3,r4,r5,r6,r7⟩
  .obtain⟨m1,s1,s2,s3,s4⟩:=hw.2.2 m a w hs;exact main σ1 m1 I μ hI hr (hw.1.trans hn) s1 (s2.trans e0) (s3.trans eF) (hev.trans (s4.mono fun s h=>by omega)) (Zj hcl hw.2.1)
end
def nJ(P:Program)(σ:AS):ResultVar->Option (Prop×AV)
 |.tmp t=>some (True,σ.env t)
 |.cell t T=>match JZ P T,σ.env t with
  |some g,.ptr id s i off=>match σ.box id with
   |some b=>match b.els[i]? with
    |some cs=>some (b.st=s/\0<AB P T/\off+AB P T<=cs.length/\(g=true∨AB P T=1),NV g (AB P T) (cs.drop off))
    |none=>none
   |none=>none
  |_,_=>none
def Ry(P:Program)(σ:AS):List ResultVar->Option (Prop×List AV)
 |[]=>some (True,[])
 |rv::l=>match nJ P σ rv,Ry P σ l with
  |some (p,v),some (q,vs)=>some (p/\q,v::vs)
  |_,_=>none
def eG(box:Nat->Option AY)(id st:Nat)(E:TypeId)(sz:Nat)(els:List (List AV)):Prop:=match box id with
 |some b=>b.st=st/\b.pl=true/\b.T=E/\b.sz=sz/\b.els=els
 |none=>False
def Pb(box:Nat->Option AY)(C6:Option Nat):AV->AV->Prop
 |.vw id st,.sl false E sz els=>C6≠some id/\eG box id st E sz els
 |.nil,.sl false _ _ els=>els=[]
 |d,r=>d=r/\Dj d=true
def eH(box:Nat->Option AY)(C6:Option Nat):List AV->List AV->Prop
 |[],[]=>True
 |d::l,r::k=>Pb box C6 d r/\eH box C6 l k
 |_,_=>False
def Nc(box:Nat->Option AY)(C6:Option Nat):AV->AV->Prop
 |.agg cs,.agg rs=>eH box C6 cs rs
 |.vw id st,.own E sz els=>C6=some id/\eG box id st E sz els
 |.nil,.own _ _ els=>C6=none/\els=[]
 |d,r=>Pb box C6 d r
def nK(box:Nat->Option AY)(C6:Option Nat):List AV->List AV->Prop
 |[],[]=>True
 |d::l,r::k=>Nc box C6 d r/\nK box C6 l k
 |_,_=>False
def eO(box:Nat->Option AY)(C6:Option Nat):List AV->AV->Prop
 |l,.tup rs=>l.length≠1/\nK box C6 l rs
 |[d],r=>Nc box C6 d r
 |_,_=>False
def Nf(P:Program)(BK:List ResultVar)(r:AV)(σ:AS):Prop:=match Ry P σ BK with
 |some (p,l)=>p/\∃ C6,eO σ.box C6 l r
 |none=>False
def Vn(P:Program)(BK:List ResultVar)(r:AV):Exit->AS->Prop
 |.normal,σ=>Nf P BK r σ
 |.ret,σ=>Nf P BK r σ
 |_,_=>False
def σ0(ds:List AV)(n:Nat):AS:=⟨fun t=>ds.getD t .und,fun _=>none,0,n⟩
def Vo:AV->Bool
 |.bool _|.int _ _|.str _|.nil|.sl _ _ _ _=>true
 |_=>false
def O0:AV->Bool
 |.agg cs=>cs.all Vo
 |d=>Vo d
section
variable{P:Program}{U:Nat->Prop}{σ:AS}{m:Mem}{a:Act}{w:World}
theorem Zpc{d:AV}(h:Vo d=true):Bu U d:=by cases d<;>first|trivial|cases h
theorem Zr6{d:AV}(h:O0 d=true):okV U d:=by
 cases d
 case agg cs=>exact fun c hc=>Zpc (Zu.1 h c hc)
 all_goals first|trivial|cases h
def eP(tmps:Array Value):ResultVar->Sem Value
 |.tmp t=>pure (tmps.getD t undef)
 |.cell b t=>do loadVar t (<- asAddr (tmps.getD b undef))
theorem ZoA(hs:B5 U σ m a w){rv:ResultVar}{p:Prop}{d:AV}(h:nJ P σ rv=some (p,d))(hp:p):∃ v,(eP a.tmps rv).run P w=.ok v w/\XQ m w v d:=by
 cases rv with
 |tmp t=>obtain⟨_,rfl⟩:=Prod.mk.inj (Z7 h);exact⟨_,rfl,hs.slots t⟩
 |cell t T =>
  simp only[nJ]at h;split at h
  .rename_i g id s i off hg hx;split at h
   .rename_i b hb;split at h
    .rename_i cs hi;obtain⟨rfl,rfl⟩:=Prod.mk.inj (Z7 h);obtain⟨hst,h0,hl,h1⟩:=hp;have r:=hs.slots t;rw[hx]at r;obtain⟨g1,hA,e⟩:=r b (by rw[hs.bx];exact hb) hst;have hB:=hs.boxes id b hb;obtain⟨g2,vs,hA2,hg2,hlen,hrep,hc,_⟩:=hB.at_ hi;rw[hA]at hA2;have eg:g1=g2:=by simpa using hA2
     subst eg;have hvl:=hrep.len
     have hrun:=zH (P:=P) (w:=w) g1 (i*b.sz+off) T g hg h0 h1 (vs.drop off) (by rw[ZK];omega) (fun j x hx=>by
      rw[List.getElem?_drop]at hx;have:=hc _ x hx;rwa [<- Nat.add_assoc]at this)
     simp only[Instr.loadAt,Instr.sureAddr,Sem.run_bind,Sem.run_pure,Result.andThen_ok]at hrun;refine⟨_,?_,mQ (hrep.drop off) h0 (by rw[ZK];omega)⟩;simp only[eP,e,asAddr,Sem.run_bind,Sem.run_pure,Result.andThen_ok];exact hrun
    .cases h
   .cases h
  .cases h
theorem ZiH(hs:B5 U σ m a w):∀ (BK:List ResultVar) (p:Prop) (ds:List AV),Ry P σ BK=some (p,ds)->p ->
  ∃ vs:List Value,(BK.mapM (eP a.tmps)).run P w=.ok vs w/\vs.length=ds.length/\∀ (j:Nat) v d,vs[j]? = some v->ds[j]? = some d->XQ m w v d
 |[],p,ds,h,hp=>by
  obtain⟨_,rfl⟩:=Prod.mk.inj (Z7 h)
  exact⟨[],s_,rfl,s_⟩
 |rv::l,p,ds,h,hp=>by
  simp only[Ry]at h
  split at h
  .rename_i p1 v1 q1 vs1 h1 h2
   obtain⟨rfl,rfl⟩:=Prod.mk.inj (Z7 h)
   obtain⟨v,hr,hv⟩:=ZoA hs h1 hp.1
   obtain⟨vs,hrs,hl,hvs⟩:=ZiH hs l _ _ h2 hp.2
   refine⟨v::vs,?_,by simp[hl],fun j x d e1 e2=>?_⟩
   .rw[List.mapM_cons]
    simp only[Sem.run_bind,hr,hrs,Result.andThen_ok,Sem.run_pure]
   .cases j with
    |zero=>simp at e1 e2;subst e1;subst e2;exact hv
    |succ j=>exact hvs j x d (by simpa using e1) (by simpa using e2)
  .cases h
theorem ZgY(fn:Func)(tmps:Array Value):results fn tmps=(do let vs <- fn.results.mapM (eP tmps);pure (if h:vs.size=1 then vs[0]else .tuple vs)):=by
 unfold results;congr 1
theorem Z81(hs:B5 U σ m a w){fn:Func}{p:Prop}(h:Ry P σ fn.results.toList=some (p,ds))(hp:p):
  ∃ vs:List Value,(results fn a.tmps).run P w=.ok (if vs.length=1 then vs.headD undef else .tuple vs.toArray) w/\vs.length=ds.length/\∀ (j:Nat) v d,vs[j]? = some v->ds[j]? = some d->XQ m w v d:=by
 obtain⟨vs,h1,h2,h3⟩:=ZiH hs _ _ _ h hp;refine⟨vs,?_,h2,h3⟩
 have e:(fn.results.mapM (eP a.tmps)).run P w=.ok vs.toArray w:=by
  rw[Array.mapM_eq_mapM_toList,map_eq_pure_bind];simp only[Sem.run_bind,h1,Result.andThen_ok,Sem.run_pure]
 rw[ZgY];simp only[Sem.run_bind,e,Result.andThen_ok,Sem.run_pure];congr 1;by_cases hl:vs.length=1
 .rw[dif_pos (by simpa using hl),if_pos hl];cases vs with
  |nil=>simp at hl
  |cons v r=>rfl
 .rw[dif_neg (by simpa using hl),if_neg hl]
end
section
variable{P:Program}{U:Nat->Prop}{σ:AS}{m:Mem}{a:Act}{w:World}
def O8(m:Mem)(C6:Option Nat)(r:AV):Mem:=⟨m.w0,m.F,fun _=>match C6 with|some id=>m.loc id|none=>(none,0),fun j=>if j=0 then Gp r 0 else none⟩
structure IV(σ:AS)(C6:Option Nat)(r:AV):Prop where
 some_:∀ id b,C6=some id->Gp r 0=some b->∃ b',σ.box id=some b'/\b'.T=b.T/\b'.sz=b.sz/\b'.els=b.els/\b'.pl=true
 none_:∀ b,C6=none->Gp r 0=some b->b.els=[]
theorem ZnE(hs:B5 U σ m a w){r:AV}(hf:IV σ C6 r){g:Nat}(h:(O8 m C6 r).M g):∃ id b,C6=some id/\σ.box id=some b/\ob (m.loc id).1=some g:=by
 obtain⟨j,b,h1,h2⟩:=h;simp only[O8]at h1 h2;split at h1
 .cases ho:C6 with
  |none=>rw[ho]at h2;simp[ob]at h2
  |some id =>
   rw[ho]at h2;obtain⟨b',e1,_⟩:=hf.some_ id b ho h1;exact⟨id,b',rfl,e1,h2⟩
 .cases h1
theorem Zjw(hs:B5 U σ m a w){r:AV}(hf:IV σ C6 r){g:Nat}(h:m.R w g):(O8 m C6 r).R w g :=
 ⟨⟨h.1.1,fun hM=>by
  obtain⟨id,b,_,e2,e3⟩:=ZnE hs hf hM
  exact h.1.2 ⟨id,b,by rw[hs.bx];exact e2,e3⟩⟩,h.2⟩
theorem Z8N{box:Nat->Option AY}{id st:Nat}{E:TypeId}{sz:Nat}{els:List (List AV)}(h:eG box id st E sz els):box id=some ⟨E,sz,st,els,true⟩:=by
 unfold eG at h;split at h
 .rename_i b hb;obtain⟨h1,h2,h3,h4,h5⟩:=h;obtain⟨T,s,t,e,p⟩:=b;simp only at h1 h2 h3 h4 h5;subst h1 h2 h3 h4 h5;exact hb
 .exact h.elim
theorem Zg4(hs:B5 U σ m a w)(hf:IV σ C6 r0){v:Value}{d r:AV}(hr:BB m w v d)(h:Pb σ.box C6 d r):Au ((O8 m C6 r0).R w) w v r/\Dj r=true:=by
 have gen:d=r/\Dj d=true->Au ((O8 m C6 r0).R w) w v r/\Dj r=true:=fun⟨h1,h2⟩=>by
  subst h1;exact⟨(Vb hr h2).keep (fun _ _=>rfl) (fun g hg=>Zjw hs hf hg),h2⟩
 unfold Pb at h;split at h
 .rename_i id st E sz els;obtain⟨hne,hb⟩:=h;have hb:=Z8N hb;obtain⟨css,ho,hel⟩:=(hs.boxes id _ hb).own;have hv:=hr.2 _ (by rw[hs.bx];exact hb) rfl;subst hv;refine⟨Au.sl _ _ _ _ _ _ css ⟨ho.row,fun p hp=>?_,mW ho,ho.len,fun i cs ds e1 e2=>⟨ho.each cs (Z6 e1),(hel i cs ds e1 e2).1⟩⟩ (fun i j cs ds x d e1 e2 e3 e4=>((hel i cs ds e1 e2).2.2 rfl j x d e3 e4).keep (fun _ _=>rfl) (fun g hg=>Zjw hs hf hg)),rfl⟩;obtain⟨q1,q2⟩:=mX ho p hp;have LU:ob (m.loc id).1=some p.block:=by rw[hp];rfl
  refine⟨⟨⟨q1,fun hM=>?_⟩,fun hl=>?_⟩,q2⟩
  .obtain⟨id',b',e1,e2,e3⟩:=ZnE hs hf hM;have:=hs.inj id id' _ b' p.block hb e2 LU e3;exact hne (by rw[e1,this])
  .have:=(hs.blk hb LU).1;have hl':p.block<m.w0.heap.size:=hl;omega
 .rename_i E sz els;subst h;have hv:=TA (m:=m) (w:=w) (v:=v) (P5 hr);subst hv;exact⟨Au.sl none 0 0 _ _ [] [] ⟨⟨rfl,s_⟩,s_,.inl ⟨rfl,rfl,rfl⟩,rfl,s_⟩ s_,rfl⟩
 .exact gen h
theorem Zg3(hs:B5 U σ m a w){C6:Option Nat}{r0:AV}(hf:IV σ C6 r0):∀ {vs:List Value} {ds rs:List AV},BF m w vs ds->eH σ.box C6 ds rs->BF (O8 m C6 r0) w vs rs
 |[],[],[],_,_=>.nil
 |v::vs,d::ds,r::rs,h,k=>by
  have h1:=Zg4 hs hf (h.at_ 0 v d rfl rfl) k.1
  have h2:=Zg3 hs hf (vs:=vs) (ds:=ds) (rs:=rs) ⟨by have:=h.len;simpa using this,fun j x y e1 e2=>h.at_ (j+1) x y (by simpa using e1) (by simpa using e2)⟩ k.2
  exact(JU (JH h1.1)).append h2
 |[],d::ds,_,h,_=>by have:=h.len;simp at this
 |v::vs,[],_,h,_=>by have:=h.len;simp at this
 |v::vs,d::ds,[],_,k=>k.elim
 |[],[],r::rs,_,k=>k.elim
theorem Zg0(hs:B5 U σ m a w)(hf:IV σ C6 r0){v:Value}{d r:AV}(hr:XQ m w v d)(h:Nc σ.box C6 d r):Ez (O8 m C6 r0) w v (Kn (.vw 0 0) r):=by
 have gen:Pb σ.box C6 d r->BB m w v d->Ez (O8 m C6 r0) w v (Kn (.vw 0 0) r):=fun h hr=>by
  obtain⟨h1,h2⟩:=Zg4 hs hf hr h;rw[ZjU h2];exact(zV h2).2 (JH h1)
 unfold Nc at h;split at h
 .rename_i cs rs;obtain⟨vs,rfl,rl⟩:=(show Ez m w v (.agg cs)from hr);exact⟨vs,rfl,Zg3 hs hf rl h⟩
 .rename_i id st E sz els;obtain⟨ho,hb⟩:=h;have hb:=Z8N hb;have hv:=(show BB m w v (.vw id st)from hr).2 _ (by rw[hs.bx];exact hb) rfl;refine⟨⟨_,_,_,hv⟩,fun b hb2 _=>?_⟩;have hb3:Gp r0 0=some b:=hb2;obtain⟨b',e1,_,_,e4,_⟩:=hf.some_ id b ho hb3;rw[hb]at e1;obtain rfl:=Z7 e1;simp only at e4;rw[hv,e4];subst ho
  rfl
 .rename_i E sz els;obtain⟨ho,he⟩:=h;have hv:=TA (m:=m) (w:=w) (v:=v) hr;subst hv;refine⟨⟨_,_,_,rfl⟩,fun b hb2 _=>?_⟩;have hb3:Gp r0 0=some b:=hb2;have:=hf.none_ b ho hb3;rw[this];subst ho
  rfl
 .refine gen h ?_
  have hnt:∀ x:AV,Pb σ.box C6 x r->XQ m w v x->BB m w v x:=fun x hx hv=>by
   unfold Pb at hx;split at hx
   .exact hv
   .exact hv
   .obtain⟨_,h2⟩:=hx;cases x<;>first|exact hv|cases h2
  exact hnt d h hr
theorem Zg1{box:Nat->Option AY}{d:AV}{E:TypeId}{sz:Nat}{els:List (List AV)}(h:Nc box C6 d (.own E sz els)):(∃ id st,C6=some id/\box id=some ⟨E,sz,st,els,true⟩)∨(C6=none/\els=[]):=by
 unfold Nc at h;split at h
 .contradiction
 .rename_i id st E' L6 Dv hr;cases hr;exact .inl ⟨id,st,h.1,Z8N h.2⟩
 .rename_i hr;cases hr;exact .inr h
 .unfold Pb at h;split at h
  .contradiction
  .contradiction
  .obtain⟨h1,h2⟩:=h;subst h1;cases h2
theorem Z8H{box:Nat->Option AY}{C6:Option Nat}:∀ {ds rs:List AV},nK box C6 ds rs->ds.length=rs.length/\∀ (j:Nat) d r,ds[j]? = some d->rs[j]? = some r->Nc box C6 d r
 |[],[],_=>⟨rfl,s_⟩
 |d::ds,r::rs,h=>by
  obtain⟨h1,h2⟩:=Z8H h.2
  refine⟨by simp[h1],fun j x y e1 e2=>?_⟩
  cases j with
  |zero=>simp at e1 e2;subst e1;subst e2;exact h.1
  |succ j=>exact h2 j x y (by simpa using e1) (by simpa using e2)
 |[],_::_,h=>h.elim
 |_::_,[],h=>h.elim
theorem Zpi{r:AV}(h:∀ E sz els,N7 r=some (E,sz,els)->∃ d,Nc σ.box C6 d (.own E sz els)):IV σ C6 r:=by
 have key:∀ b,Gp r 0=some b->∃ d,Nc σ.box C6 d (.own b.T b.sz b.els):=fun b hb=>by
  unfold Gp at hb;cases ho:N7 r with
  |none=>rw[ho]at hb;cases hb
  |some x =>
   rw[ho]at hb;obtain rfl:=Z7 hb;exact h _ _ _ ho
 refine⟨fun id b ho hb=>?_,fun b ho hb=>?_⟩
 .obtain⟨d,hd⟩:=key b hb;rcases Zg1 hd with⟨id',st,e1,e2⟩|⟨e1,_⟩
  .rw[ho]at e1;obtain rfl:=Z7 e1;exact⟨_,e2,rfl,rfl,rfl,rfl⟩
  .rw[ho]at e1;cases e1
 .obtain⟨d,hd⟩:=key b hb;rcases Zg1 hd with⟨id',st,e1,e2⟩|⟨_,e2⟩
  .rw[ho]at e1;cases e1
  .exact e2
theorem ZiZ{d:AV}{E:TypeId}{sz:Nat}{els:List (List AV)}(h:TF d=some (E,sz,els)):d=.own E sz els:=by
 cases d<;>first |(cases h;rfl)| cases h
theorem Zks(hs:B5 (fun s=>s<σ.clk) σ m a w){fn:Func}{r:AV}(h:Nf P fn.results.toList r σ)(hok:GG r=true):
  ∃ v,(results fn a.tmps).run P w=.ok v w/\TG m.w0 m.F w v r:=by
 unfold Nf at h;split at h
 .rename_i p l hret;obtain⟨hp,C6,hfit⟩:=h;obtain⟨vs,hrun,hlen,hrep⟩:=Z81 hs hret hp;refine⟨_,hrun,O8 m C6 r,rfl,rfl,fun j=>rfl,?_⟩
  have hF:IV σ C6 r:=by
   refine Zpi fun E sz els ho=>?_
   unfold eO at hfit;split at hfit
   .rename_i rs;obtain⟨x,hx,hxo⟩:=List.exists_of_findSome?_eq_some ho;obtain⟨j,hj,rfl⟩:=ZM hx;obtain⟨e1,e2⟩:=Z8H hfit.2;have he:=ZiZ hxo;refine⟨l[j]'o_,?_⟩;rw[<- he];exact e2 j _ _ (Z4 _) (Z4 hj)
   .rename_i d hnt
    have:TF r=some (E,sz,els):=by
     cases r<;>first|exact ho|exact absurd rfl (hnt _)
    rw[<- ZiZ this];exact⟨_,hfit⟩
   .exact hfit.elim
  refine⟨fun b hb=>?_,?_⟩
  .cases ho:C6 with
   |none =>
    have he:=hF.none_ b ho hb
    have hbb:∃ E sz els,b=⟨E,sz,0,els,true⟩:=by
     unfold Gp at hb;cases h:N7 r with
     |none=>rw[h]at hb;cases hb
     |some x=>rw[h]at hb;exact⟨_,_,_,(Z7 hb).symm⟩
    obtain⟨E,sz,els,rfl⟩:=hbb;simp only at he;subst he;exact⟨⟨[],Qz _ _ _ _,s_⟩,trivial,s_⟩
   |some id =>
    obtain⟨b',e1,e2,e3,e4,e5⟩:=hF.some_ id b ho hb;obtain⟨⟨css,how,hel⟩,q2,q3⟩:=hs.boxes id b' e1;subst ho;refine⟨⟨css,?_,fun i cs ds a1 a2=>?_⟩,trivial,fun ds hds d hd=>?_⟩
    .rw[<- e2,<- e3,<- e4];exact how
    .rw[<- e4]at a2;obtain⟨r1,r2,r3⟩:=hel i cs ds a1 a2;have hD:∀ (j:Nat) v d,cs[j]? = some v->ds[j]? = some d->Au ((O8 m (some id) r).R w) w v d:=fun j v d x y=>(r3 e5 j v d x y).keep (fun _ _=>rfl) (fun g hg=>Zjw hs hF hg)
     exact⟨by rw[<- e3];exact r1,⟨r2.len,fun j v d x y=>JH (hD j v d x y)⟩,fun _=>hD⟩
    .have:=q3 ds (by rw[e4];exact hds) d hd;exact Bu.mono (fun _ _=>trivial) this
  .unfold eO at hfit;split at hfit
   .rename_i rs;obtain⟨h1,h2⟩:=hfit;obtain⟨e1,e2⟩:=Z8H h2;rw[if_neg o_];refine⟨vs,rfl,by simp[hlen,e1],fun j x d f1 f2=>?_⟩;rw[ZH]at f2;cases hc:rs[j]? with
    |none=>rw[hc]at f2;cases f2
    |some c =>
     rw[hc]at f2;obtain rfl:=Z7 f2;have hjl:j<l.length:=by rw[e1];exact(Za.1 hc).1
     have hlj:l[j]? = some (l[j]'hjl):=Z4 _;have hft:=e2 j _ _ hlj hc;exact Zg0 hs hF (hrep j x _ f1 hlj) hft
   .rename_i d hnt;rw[if_pos (by rw[hlen];rfl)];cases vs with
    |nil=>simp at hlen
    |cons v rv =>
     have hft:Nc σ.box C6 d r:=hfit;have hr:=Zg0 hs hF (hrep 0 v d rfl rfl) hft;rw[Z9K (fun ds e=>hnt ds e)];have hok':P7 r=true:=by cases r<;>first|exact hok|exact absurd rfl (hnt _)
     exact(zX ⟨_,_,rfl⟩ hok').2 hr
   .exact hfit.elim
 .exact h.elim
end
theorem Vp {fn : Func} {c: Code} (hf : P.funcs[f]? = some fn) (hb : fn.body = some c) (hn : (fn.name == "runtime.NumGoroutine") = false) : ∀ args w, (callFunc f args).run P w = .ok (.enter f args) w := fun args w => by
 have h2 : ¬ fn.name = "runtime.NumGoroutine" := by simpa using hn
 simp[callFunc,go_sem,hf,hb,h2]
theorem Zdt {fn : Func} {c: Code} {n: Nat} {r: AV} (hm : P.follows .mixedOrders = true) (hf : P.funcs[f]? = some fn) (hb : fn.body = some c) (hname : (fn.name == "runtime.NumGoroutine") = false) (hn : fn.ntmps = n) {BK : Array ResultVar} (Lj : fn.results = BK) (hbody : Jc n c = true) (hds : decide (ds.length ≤ n) = true) (Ku : ds.all O0 = true) (hok : GG r = true) 
  (h:QR P c (Vn P BK.toList r) (σ0 ds n)):Spec P f ds r:=by
 subst Lj;have hds:=of_decide_eq_true hds;refine⟨hok,Vp hf hb hname,fun w F vs hl hvs=>?_⟩;refine calls_of_wp hf hb ?_
 have hs:B5 (fun s=>s <(σ0 ds n).clk) (σ0 ds n) (Hy w F) { tmps:=vs.toArray++Array.replicate (fn.ntmps-vs.toArray.size) undef,defers:=[]} w:=by
  have hU:(fun s=>s <(σ0 ds n).clk)=fun _=>False:=by funext s;simp[σ0]
  rw[hU];refine⟨rfl,Below.refl _ _,rfl,?_,fun t=>?_,fun t=>?_,(fun id b h=>by cases h),(fun i j bi bj g h=>by cases h)⟩
  .show(vs.toArray++Array.replicate (fn.ntmps-vs.toArray.size) undef).size=n;rw[Array.size_append,Array.size_replicate,hn];simp only[List.size_toArray];omega
  .show XQ _ _ ((vs.toArray++Array.replicate (fn.ntmps-vs.toArray.size) undef).getD t undef) (ds.getD t .und);rw[Array.getD_eq_getD_getElem?,List.getD_eq_getElem?_getD];rcases Nat.lt_or_ge t vs.length with ht|ht
   .have e1:(vs.toArray++Array.replicate (fn.ntmps-vs.toArray.size) undef)[t]? = some vs[t]:=by
     rw[Array.getElem?_append_left (by simpa using ht)];simp[ht]
    have e2:ds[t]? = some (ds[t]'o_):=Z4 _;rw[e1,e2];exact yZ (hvs t _ _ (Z4 ht) e2)
   .rw[Array.getElem?_append_right (by simpa using ht),List.getElem?_eq_none o_];simp only[Option.getD_none,List.size_toArray,Array.getElem?_replicate];show(if t-vs.length<fn.ntmps-vs.length then some undef else none).getD undef=undef;split<;>rfl
  .show okV _ (ds.getD t .und);rw[List.getD_eq_getElem?_getD];cases hx:ds[t]? with
   |none=>trivial
   |some d=>exact Zr6 (Zu.1 Ku d (Z6 hx))
 have:=Zgu hm n w F 0 (Hy w F) w c _ (σ0 ds n) (Hy w F) _ w hbody h rfl hs rfl rfl (Cj.refl _ _ _) (Nat.zero_le _);refine wp_mono this fun e a w' hq=>?_
 obtain⟨σ,m,h1,h2,h3,h4,h5,_⟩:=hq;cases e with
 |normal =>
  obtain⟨v,q1,q2⟩:=Zks h3 h1 hok;rw[h4,h5]at q2;exact⟨h3.defers,v,q1,v,rfl,q2,h4▸h3.below⟩
 |ret =>
  obtain⟨v,q1,q2⟩:=Zks h3 h1 hok;rw[h4,h5]at q2;exact⟨h3.defers,v,q1,v,rfl,q2,h4▸h3.below⟩
 |_=>exact h1.elim
def act(σ:AS):AS:=σ
def Zry(v:AV)(x y:AS->Prop)(σ:AS):Prop:=match v with
 |.bool b=>(b=true->x σ)/\(b=false->y σ)
 |_=>False
def nL(x:Option Pl)(K:Eff->Prop):Prop:=match x with
 |some pl=>pl.ok/\K pl.e
 |none=>False
def Zk3(g:Option Bool)(P:Program)(ops:Array Oper)(clk i:Nat)(o:Oper)(l:List Oper)(σ:AS)(K:AS->Prop):Prop:=match g with
 |some true=>Lh P o (clk+i) σ fun e=>IR P ops clk (i+1) l (σ.app o.dst e) K
 |some false=>IR P ops clk (i+1) l (σ.put o.dst .und) K
 |none=>False
def Zk2(g:Option Bool)(P:Program)(ops:Array Oper)(clk i:Nat)(o:Oper)(l:List Oper)(σ:AS)(acc:List De)(K:List De->AS->Prop):Prop:=match g with
 |some true=>Lh P o (clk+i) σ fun e=>IU P ops clk (i+1) l (σ.app o.dst e) (⟨i,o,Vh e,Vi e,e.rd,e.rs⟩:: acc) K
 |some false=>IU P ops clk (i+1) l (σ.put o.dst .und) (⟨i,o,[],true,[],[]⟩:: acc) K
 |none=>False
def opG(op:Op)(P:Program)(o:Oper)(st:Nat)(σ:AS)(K:Eff->Prop):Prop:=match op with
 |.call ⟨.value (.func f),args,_⟩=>(∀ x∈args.toList,N8 σ.box (Az σ.env x))/\Cx P f (fun fz=>args.toList.map fun x=>IM fz σ.box (Az σ.env x)) (fun fz r=>X8 (o.dst.getD 0) st (args.toList.flatMap fun x=>EK (Az σ.env x)) fz r) (fun ln ns r=>TH σ.box (args.toList.flatMap fun x=>EK (Az σ.env x)) ln ns r) (args.toList.map (Az σ.env)) σ.box K
 |_=>nL (Km P o st σ.env σ.box) K
section
variable{P:Program}{Q:Exit->AS->Prop}(σ:AS)(t t':Nat)(v:AV)(p:Nat×AY)
theorem Zto(a b:Code):QR P (.seq a b) Q (act σ)=QR P a (M5 (QR P b Q) Q) (act σ):=rfl
theorem Zsd :QR P .skip Q (act σ)=Q .normal (act σ):=rfl
theorem Zqw(l:Nat):QR P (.label l) Q (act σ)=Q .normal (act σ):=rfl
theorem Zsh(id:Nat):QR P (.exit id) Q (act σ)=Q (.exit id) (act σ):=rfl
theorem Ztp :QR P .ret Q (act σ)=Q .ret (act σ):=rfl
theorem Zqy(id:Nat)(c:Code):QR P (.block id c) Q (act σ)=QR P c (Ju id Q) (act σ):=rfl
theorem Zsg(c:Code):QR P (.loop c) Q (act σ)=Kt (QR P c) Q (act σ):=rfl
theorem Zsi(c:Operand)(x y:Code):QR P (.cond c x y) Q (act σ)=Zry (Az σ.env c) (QR P x Q) (QR P y Q) (act σ):=rfl
theorem Zse(id:Nat)(ops:Array Oper):QR P (.region id ops false) Q (act σ)=IR P ops σ.clk 0 ops.toList (act σ) fun σ'=>Q .normal (σ'.tick ops.size):=rfl
theorem Zsf(id:Nat)(ops:Array Oper):QR P (.region id ops true) Q (act σ)=IU P ops σ.clk 0 ops.toList (act σ) [] fun ss σ'=>P9 ops ss/\Q .normal (σ'.tick ops.size):=rfl
theorem ZsG(b:Bool)(x y:AS->Prop):Zry (.bool b) x y σ=((b=true->x σ)/\(b=false->y σ)):=rfl
theorem Zs8(next:AS->Prop):M5 next Q .normal (act σ)=next (act σ):=rfl
theorem Zs9(next:AS->Prop)(id:Nat):M5 next Q (.exit id) (act σ)=Q (.exit id) (act σ):=rfl
theorem Ztn(next:AS->Prop):M5 next Q .ret (act σ)=Q .ret (act σ):=rfl
theorem ZsH(id:Nat):Ju id Q .normal (act σ)=Q .normal (act σ):=rfl
theorem ZtE(id:Nat):Ju id Q .ret (act σ)=Q .ret (act σ):=rfl
theorem ZsI(id id':Nat):Ju id Q (.exit id') (act σ)=if id'=id then Q .normal (act σ)else Q (.exit id') (act σ):=rfl
theorem Zty(BK:List ResultVar)(r:AV):Vn P BK r .ret (act σ)=Nf P BK r σ:=rfl
theorem ZsD(BK:List ResultVar)(r:AV):Vn P BK r .normal (act σ)=Nf P BK r σ:=rfl
theorem Ztq(ops:Array Oper)(clk i:Nat)(K:AS->Prop):IR P ops clk i [] (act σ) K=K (act σ):=rfl
theorem Zsn(ops:Array Oper)(clk i:Nat)(o:Oper)(l:List Oper)(K:AS->Prop):IR P ops clk i (o::l) (act σ) K=Zk3 (M4 ops o σ.env) P ops clk i o l (act σ) K:=rfl
theorem Zsm(ops:Array Oper)(clk i:Nat)(o:Oper)(l:List Oper)(K:AS->Prop):Zk3 (some true) P ops clk i o l (act σ) K=Lh P o (clk+i) (act σ) fun e=>IR P ops clk (i+1) l ((act σ).app o.dst e) K:=rfl
theorem ZqH(ops:Array Oper)(clk i:Nat)(o:Oper)(l:List Oper)(K:AS->Prop):Zk3 (some false) P ops clk i o l (act σ) K=IR P ops clk (i+1) l (act (σ.put o.dst .und)) K:=rfl
theorem ZtF(ops:Array Oper)(clk i:Nat)(acc:List De)(K:List De->AS->Prop):IU P ops clk i [] (act σ) acc K=K acc (act σ):=rfl
theorem ZsO(ops:Array Oper)(clk i:Nat)(o:Oper)(l:List Oper)(acc:List De)(K:List De->AS->Prop):IU P ops clk i (o::l) (act σ) acc K=Zk2 (M4 ops o σ.env) P ops clk i o l (act σ) acc K:=rfl
theorem ZsN(ops:Array Oper)(clk i:Nat)(o:Oper)(l:List Oper)(acc:List De)(K:List De->AS->Prop):Zk2 (some true) P ops clk i o l (act σ) acc K=Lh P o (clk+i) (act σ) fun e=>IU P ops clk (i+1) l ((act σ).app o.dst e) (⟨i,o,Vh e,Vi e,e.rd,e.rs⟩:: acc) K:=rfl
theorem ZrQ(ops:Array Oper)(clk i:Nat)(o:Oper)(l:List Oper)(acc:List De)(K:List De->AS->Prop):Zk2 (some false) P ops clk i o l (act σ) acc K=IU P ops clk (i+1) l (act (σ.put o.dst .und)) (⟨i,o,[],true,[],[]⟩:: acc) K:=rfl
theorem Zsa(o:Oper)(st:Nat)(K:Eff->Prop):Lh P o st (act σ) K=opG o.op P o st σ K:=by
 unfold Lh opG act nL;rfl
theorem ZqB(ok:Prop)(e:Eff)(K:Eff->Prop):nL (some ⟨ok,e⟩) K=(ok/\K e):=rfl
theorem ZqC(K:Eff->Prop):nL none K=False:=rfl
theorem Zpp :(act σ).env t=σ.env t:=rfl
theorem ZpO :(act σ).box t=σ.box t:=rfl
theorem ZpD :(act σ).clk=σ.clk:=rfl
theorem Zlf(k:Nat):(act σ).tick k=act (σ.tick k):=rfl
theorem Zpn :(σ.set t v).env t'=if t'=t then v else σ.env t':=rfl
theorem ZhE :(σ.Bc p).env t=σ.env t:=rfl
theorem ZpM :(σ.set t v).box t'=σ.box t':=rfl
theorem ZhK :(σ.Bc p).box t=if t=p.1 then some p.2 else σ.box t:=rfl
theorem ZpB :(σ.set t v).clk=σ.clk:=rfl
theorem ZhG :(σ.Bc p).clk=σ.clk:=rfl
theorem Zmr(k:Nat):(σ.tick k).env t=σ.env t:=rfl
theorem ZmR(k:Nat):(σ.tick k).box t=σ.box t:=rfl
theorem ZmG(k:Nat):(σ.tick k).clk=σ.clk+k:=rfl
theorem ZlE :σ.put (some t) v=σ.set t v:=rfl
theorem ZlF :σ.put none v=σ:=rfl
theorem Zn0(d:Option Tmp)(rd rs:List Nat)(cw:Bool):(act σ).app d ⟨v,none,rd,rs,cw,[],[]⟩=act (σ.put d v):=rfl
theorem ZmZ(d:Option Tmp)(rd rs:List Nat)(cw:Bool):(act σ).app d ⟨v,some p,rd,rs,cw,[],[]⟩=act ((σ.Bc p).put d v):=rfl
theorem Zn2(d:Option Tmp)(rd rs:List Nat)(cw:Bool)(f:Nat)(l:List Nat):(act σ).app d ⟨v,some p,rd,rs,cw,f::l,[]⟩=act (((σ.DT (f::l)).Bc p).put d v):=rfl
theorem Zn3(d:Option Tmp)(rd rs:List Nat)(cw:Bool)(f:Nat)(l:List Nat):(act σ).app d ⟨v,none,rd,rs,cw,f::l,[]⟩=act ((σ.DT (f::l)).put d v):=rfl
theorem Zn1(d:Option Tmp)(rd rs:List Nat)(cw:Bool)(l:List (Nat×AY)):(act σ).app d ⟨v,none,rd,rs,cw,[],p::l⟩=act ((σ.Bh (p::l)).put d v):=rfl
theorem Zqr :σ.Bh []=σ:=rfl
theorem Zow(l:List (Nat×AY)):σ.Bh (p::l)=(σ.Bh l).Bc p:=rfl
theorem Zpo(l:List Nat):(σ.DT l).env t=σ.env t:=rfl
theorem ZpN(l:List Nat):(σ.DT l).box t=if l.contains t then none else σ.box t:=rfl
theorem ZpC(l:List Nat):(σ.DT l).clk=σ.clk:=rfl
theorem Zrs(ds:List AV)(n:Nat):(σ0 ds n).env t=ds.getD t .und:=rfl
theorem ZrF(ds:List AV)(n:Nat):(σ0 ds n).box t=none:=rfl
theorem ZrA(ds:List AV)(n:Nat):(σ0 ds n).clk=0:=rfl
end
theorem Qu {fn : Func} {c: Code} {n: Nat} {r: AV} (hm : P.follows .mixedOrders = true) (hf : P.funcs[f]? = some fn) (hb : fn.body = some c) (hname : (fn.name == "runtime.NumGoroutine") = false) (hn : fn.ntmps = n) {BK : Array ResultVar} (Lj : fn.results = BK) (hbody : Jc n c = true) (hds : decide (ds.length ≤ n) = true) (Ku : ds.all O0 = true) (hok : GG r = true) 
  (h:QR P c (Vn P BK.toList r) (act (σ0 ds n))):Spec P f ds r:=Zdt hm hf hb hname hn Lj hbody hds Ku hok h
theorem Ec{B:(Exit->AS->Prop)->AS->Prop}{Q:Exit->AS->Prop}(I:AS->Prop)(μ:AS->Nat)(h:I σ)(k:∀ σ',I σ'->B (M5 (fun Rw=>I Rw/\μ Rw<μ σ') Q) (act σ')):Kt B Q (act σ):=.inl ⟨I,μ,h,k⟩
theorem ZF{B:(Exit->AS->Prop)->AS->Prop}{Q:Exit->AS->Prop}(I:AS->Prop)(μ:AS->Nat)(hw:Wk σ σ1)(h:I σ1)(k:∀ σ',I σ'->B (M5 (I5 I μ (μ σ')) Q) (act σ')):Kt B Q (act σ):=.inr ⟨σ1,hw,I,μ,h,k⟩
theorem BD{I:AS->Prop}{μ:AS->Nat}{k:Nat}(hw:Wk σ σ1)(h:I σ1)(hm:μ σ1<k):I5 I μ k (act σ):=⟨σ1,hw,h,hm⟩
theorem Zmu(σ:AS)(l:List Nat)(t:Nat):(σ.Lg l).env t=dU l σ.box (σ.env t):=rfl
theorem ZmU(σ:AS)(l:List Nat)(t:Nat):(σ.Lg l).box t=if l.contains t then none else (σ.box t).map (Lf l σ.box):=rfl
theorem ZmI(σ:AS)(l:List Nat):(σ.Lg l).clk=σ.clk:=rfl
theorem Zms(σ:AS)(t0 id:Nat)(E:TypeId)(sz t:Nat):(σ.P8 t0 id E sz).env t=if t=t0 then .vw id σ.clk else σ.env t:=rfl
theorem ZmS(σ:AS)(t0 id:Nat)(E:TypeId)(sz t:Nat):(σ.P8 t0 id E sz).box t=if t=id then some ⟨E,sz,σ.clk,[],true⟩else σ.box t:=rfl
theorem ZmH(σ:AS)(t0 id:Nat)(E:TypeId)(sz:Nat):(σ.P8 t0 id E sz).clk=σ.clk+1:=rfl
def Ng(d e:AV):Prop:=d=e∨(∃ E sz els,d=.sl false E sz els/\e=.sl true E sz els)∨(d=.nil/\∃ ns E sz,e=.sl ns E sz [])
def Nh:List AV->List AV->Prop
 |[],[]=>True
 |d::l,e::k=>Ng d e/\Nh l k
 |_,_=>False
def Rz(d e:AV):Prop:=Ng d e∨∃ cs ds,d=.agg cs/\e=.agg ds/\Nh cs ds
def M7:List AV->List AV->Prop
 |[],[]=>True
 |d::l,e::k=>Rz d e/\M7 l k
 |_,_=>False
theorem J8:∀ l:List AV,Nh l l
 |[]=>trivial
 |d::l=>⟨.inl rfl,J8 l⟩
theorem eQ:∀ l:List AV,M7 l l
 |[]=>trivial
 |d::l=>⟨.inl (.inl rfl),eQ l⟩
theorem ZlA(m:Mem)(w:World)(ns:Bool)(E:TypeId)(sz:Nat):BB m w (.slice none 0 0) (.sl ns E sz []):=by
 have hS:∀ Q:Nat->Prop,KW Q w none 0 0 E sz [] []:=fun Q=>{ row:=⟨rfl,fun i cs hi=>by simp at hi⟩,blk:=fun p hp=>by simp at hp,ok:=Or.inl ⟨rfl,rfl,rfl⟩,len:=rfl,each:=fun i cs ds hi=>by simp at hi }
 cases ns with
 |false=>exact Au.sl _ _ _ _ _ _ _ (hS _) (fun i j cs ds v d hi=>by simp at hi)
 |true=>exact⟨_,_,_,_,rfl,hS _,fun i j cs ds x d hi=>by simp at hi⟩
theorem eT{m:Mem}{w:World}{v:Value}{d e:AV}(h:BB m w v d)(hle:Ng d e):BB m w v e:=by
 rcases hle with rfl |⟨E,sz,els,rfl,rfl⟩|⟨rfl,ns,E,sz,rfl⟩
 .exact h
 .have h:Au (m.R w) w v (.sl false E sz els):=h;cases h with
  |sl A n c _ _ _ css h hs=>exact⟨A,n,c,css,rfl,h.keep (fun _ _=>rfl) (fun g hg=>hg.1),hs⟩
 .have h:Au (m.R w) w v .nil:=h;cases h;exact ZlA m w ns E sz
theorem eU:∀ {l k:List AV},Nh l k->l.length=k.length/\∀ (j:Nat) e,k[j]? = some e->∃ d,l[j]? = some d/\Ng d e
 |[],[],_=>⟨rfl,fun j e h=>by simp at h⟩
 |d::l,e::k,h=>⟨by rw[Zt,Zt,(eU h.2).1],fun j x hx=>by
   cases j with
   |zero=>exact⟨d,rfl,by cases hx;exact h.1⟩
   |succ j=>exact(eU h.2).2 j x hx⟩
 |[],_::_,h=>h.elim
 |_::_,[],h=>h.elim
theorem ZoC{m:Mem}{w:World}{v:Value}{d e:AV}(h:Ez m w v d)(hle:Rz d e):Ez m w v e:=by
 rcases hle with(rfl |⟨E,sz,els,rfl,rfl⟩|⟨rfl,ns,E,sz,rfl⟩)|⟨cs,ds,rfl,rfl,hle⟩
 .exact h
 .exact eT (d:=.sl false E sz els) (e:=.sl true E sz els) h (.inr (.inl ⟨E,sz,els,rfl,rfl⟩))
 .exact eT (d:=.nil) (e:=.sl ns E sz []) h (.inr (.inr ⟨rfl,ns,E,sz,rfl⟩))
 .obtain⟨vs,rfl,hl⟩:=h;obtain⟨h1,h2⟩:=eU hle;refine⟨vs,rfl,by rw[hl.len,h1],fun j v d hv hd=>?_⟩;obtain⟨c,hc,hcd⟩:=h2 j d hd;exact eT (hl.at_ j v c hv hc) hcd
theorem Zeo:∀ {l k:List AV},M7 l k->l.length=k.length/\∀ (j:Nat) e,k[j]? = some e->∃ d,l[j]? = some d/\Rz d e
 |[],[],_=>⟨rfl,fun j e h=>by simp at h⟩
 |d::l,e::k,h=>⟨by rw[Zt,Zt,(Zeo h.2).1],fun j x hx=>by
   cases j with
   |zero=>exact⟨d,rfl,by cases hx;exact h.1⟩
   |succ j=>exact(Zeo h.2).2 j x hx⟩
 |[],_::_,h=>h.elim
 |_::_,[],h=>h.elim
theorem Spec.le{ds':List AV}{r:AV}(h:Spec P f ds r)(hle:M7 ds' ds):Spec P f ds' r:=by
 obtain⟨h1,h2,h3⟩:=h;obtain⟨q1,q2⟩:=Zeo hle;refine⟨h1,h2,fun w F vs hl hvs=>h3 w F vs (by rw[hl,q1]) fun j v d hv hd=>?_⟩;obtain⟨c,hc,hcd⟩:=q2 j d hd;exact ZoC (hvs j v c hv hc) hcd
theorem nM(d e:AV)(l k:List AV):M7 (d::l) (e::k)=(Rz d e/\M7 l k):=rfl
theorem nN :M7 [] []=True:=rfl
theorem Vq(d e:AV)(l k:List AV):Nh (d::l) (e::k)=(Ng d e/\Nh l k):=rfl
theorem Vr :Nh [] []=True:=rfl
theorem nO(cs ds:List AV):Rz (.agg cs) (.agg ds)↔ Nh cs ds:=by
 constructor
 .rintro((h |⟨_,_,_,h,_⟩|⟨h,_⟩)|⟨_,_,h1,h2,h⟩)
  .cases h;exact J8 _
  .cases h
  .cases h
  .cases h1;cases h2;exact h
 .exact fun h=>.inr ⟨_,_,rfl,rfl,h⟩
theorem eX(ns:Bool)(E E':TypeId)(sz L6:Nat)(els Dv:List (List AV)):Ng (.sl ns E sz els) (.sl true E' L6 Dv)↔ E=E'/\sz=L6/\els=Dv:=by
 simp only[Ng];constructor
 .rintro(h |⟨_,_,_,h1,h2⟩|⟨h,_⟩)
  .cases h;exact⟨rfl,rfl,rfl⟩
  .cases h1;cases h2;exact⟨rfl,rfl,rfl⟩
  .cases h
 .rintro⟨rfl,rfl,rfl⟩;cases ns
  .exact .inr (.inl ⟨_,_,_,rfl,rfl⟩)
  .exact .inl rfl
theorem TR(ns:Bool)(E:TypeId)(sz:Nat)(els:List (List AV)):Ng .nil (.sl ns E sz els)↔ els=[]:=by
 constructor
 .rintro(h |⟨_,_,_,h1,h2⟩|⟨_,_,_,_,h⟩)
  .cases h
  .cases h1
  .cases h;rfl
 .rintro rfl;exact .inr (.inr ⟨rfl,_,_,_,rfl⟩)
theorem nP(ns:Bool)(E E':TypeId)(sz L6:Nat)(els Dv:List (List AV)):Rz (.sl ns E sz els) (.sl true E' L6 Dv)↔ E=E'/\sz=L6/\els=Dv:=by
 rw[<- eX ns];exact⟨fun h=>h.elim id (fun⟨_,_,h,_⟩=>by cases h),fun h=>.inl h⟩
theorem nQ(ns:Bool)(E:TypeId)(sz:Nat)(els:List (List AV)):Rz .nil (.sl ns E sz els)↔ els=[]:=by
 rw[<- TR ns E sz els];exact⟨fun h=>h.elim id (fun⟨_,_,h,_⟩=>by cases h),fun h=>.inl h⟩
theorem Vs(d:AV):Ng d d↔True:=⟨fun _=>trivial,fun _=>.inl rfl⟩
theorem nR(d:AV):Rz d d↔True:=⟨fun _=>trivial,fun _=>.inl (.inl rfl)⟩
theorem Cx.le{args:List Nat->List AV}{mk:List Nat->AV->Eff}{Cu:List Nat->List (List (List AV))->AV->Eff}{box:Nat->Option AY}{K:Eff->Prop}{r:AV}(fz:List Nat)(h:Spec P f ds r)(hle:M7 (args fz) ds)(k:K (mk fz r)):Cx P f args mk Cu raw box K:=.inl ⟨r,fz,h.le hle,k⟩
theorem Cx.mk{args:List Nat->List AV}{mk:List Nat->AV->Eff}{Cu:List Nat->List (List (List AV))->AV->Eff}{box:Nat->Option AY}{K:Eff->Prop}{r:AV}(h:Spec P f (args []) r)(k:K (mk [] r)):Cx P f args mk Cu raw box K:=.inl ⟨r,[],h,k⟩
theorem ZhU{args:List Nat->List AV}{mk:List Nat->AV->Eff}{Cu:List Nat->List (List (List AV))->AV->Eff}{box:Nat->Option AY}{K:Eff->Prop}{r:AV}(fz:List Nat)(h:Spec P f (args fz) r)(k:K (mk fz r)):Cx P f args mk Cu raw box K:=.inl ⟨r,fz,h,k⟩
end Go.Proofs.YtcnbphnnfmphlaaGreatDoor
