/- Texts of this proof. -/
import Derived.Deep.AppendLies
import Derived.BigQuiet
import Derived.StillTailTactics
import Derived.Deep.RegionHeld3
import Derived.Test.YtcnbphnnfmphlaaGreatDoorGtm0
namespace Go.Proofs.YtcnbphnnfmphlaaGreatDoor
open List renaming getElem?_eq_getElem → Z4,mem_of_getElem? → Z6,getElem?_eq_some_iff → Za,replicate → Zk,length_append → Zq,getElem?_cons_zero → Zw,length_take → ZC,getElem?_cons_succ → ZD,flatten_cons → ZL,eq_nil_of_length_eq_zero → ZN,mem_or_eq_of_mem_set → ZW
open Option.some renaming injEq → Zi
open Go.Proofs.Tryz
open Go.RowKit
set_option linter.unusedVariables false
set_option linter.unusedSimpArgs false
set_option maxHeartbeats 400000
set_option maxRecDepth 100000
variable{f:A7}{l:List A7}{B j:Nat}{w':World}
theorem iK{css:List (List Value)}{sz:Nat}(he:∀ cs∈css,cs.length=sz):css.flatten.length=css.length*sz:=by
 induction css with
 |nil=>simp
 |cons c r ih =>
  rw[ZL,Zq,ih (fun x hx=>he x (by simp[hx])),he c s_,List.length_cons,Nat.add_mul];omega
theorem qB{css:List (List Value)}{sz i:Nat}{cs:List Value}{v:Value}(he:∀ cs∈css,cs.length=sz)(hi:css[i]? = some cs)(hj:cs[j]? = some v):css.flatten[i*sz+j]? = some v:=by
 induction css generalizing i with
 |nil=>simp at hi
 |cons c r ih =>
  have hc:c.length=sz:=he c s_;cases i with
  |zero =>
   simp only[Zw,Zi]at hi;subst hi;have hjl:j<c.length:=(Za.1 hj).1;rw[ZL,Nat.zero_mul,Nat.zero_add,List.getElem?_append_left hjl,hj]
  |succ i =>
   simp only[ZD]at hi;have:=ih (fun x hx=>he x (by simp[hx])) hi;rw[ZL,Nat.add_mul,List.getElem?_append_right o_];rw[<- this];congr 1;omega
theorem iL{css:List (List Value)}{sz i:Nat}{cs:List Value}(he:∀ cs∈css,cs.length=sz)(hi:i<css.length):
  css.flatten.take (i*sz)++cs++css.flatten.drop (i*sz+sz)=(css.set i cs).flatten:=by
 induction css generalizing i with
 |nil=>simp at hi
 |cons c r ih =>
  have hc:c.length=sz:=he c s_;cases i with
  |zero =>
   rw[Nat.zero_mul,Nat.zero_add,List.take_zero,List.nil_append,List.set_cons_zero,ZL,ZL,<- hc,List.drop_left]
  |succ i =>
   have:=ih (i:=i) (fun x hx=>he x (by simp[hx])) (by simpa using hi);rw[List.set_cons_succ,ZL,ZL,<- this];have e1:(i+1)* sz=c.length+i*sz:=by rw[hc,Nat.add_mul];omega
   have e2:c.length+i*sz+sz=c.length+(i*sz+sz):=by omega
   rw[e1,e2,List.take_length_add_append,List.drop_length_add_append];simp[List.append_assoc]
theorem Zml{css:List (List Value)}{sz i:Nat}{cs:List Value}{v:Value}(he:∀ cs∈css,cs.length=sz)(hi:css[i]? = some cs)(hj:j<sz):
  css.flatten.set (i*sz+j) v=(css.set i (cs.set j v)).flatten:=by
 induction css generalizing i with
 |nil=>simp at hi
 |cons c r ih =>
  have hc:c.length=sz:=he c s_;cases i with
  |zero =>
   simp only[Zw,Zi]at hi;subst hi;rw[List.set_cons_zero,ZL,ZL,Nat.zero_mul,Nat.zero_add,List.set_append_left _ _ o_]
  |succ i =>
   simp only[ZD]at hi;have:=ih (fun x hx=>he x (by simp[hx])) hi;rw[List.set_cons_succ,ZL,ZL,<- this,Nat.add_mul,List.set_append_right _ _ o_];congr 2;omega

structure Own(w:World)(B:Nat)(e sz:Nat)(A:Option Addr)(n c:Nat)(css:List (List Value)):Prop where
 own:w.ownsRow B e sz (.slice A n c) n css.flatten
 len:css.length=n
 each:∀ cs∈css,cs.length=sz
def ob(A:Option Addr):Option Nat:=A.map (·.block)
theorem qC(A:Option Addr)(n c:Nat):(Value.slice A n c).ownBlock=ob A:=by cases A<;>rfl

section
variable{w w':World}{B e sz n c:Nat}{A:Option Addr}{css:List (List Value)}
theorem Own.lens(h:Own w B e sz A n c css):Hid (css.length=n):=h.len
theorem Own.cases(h:Own w B e sz A n c css):(A=none/\n=0/\c=0/\css=[])∨∃ g,A=some ⟨g,0,none⟩/\B<=g/\g<w.heap.size/\n<=c/\c<=maxLen:=by
 rcases h.own.2 with⟨hv,hn⟩|⟨g,cap,cur,hv,hb,hg,hnc,hcm,_⟩
 .refine .inl ?_;simp only[Value.slice.injEq]at hv;exact⟨hv.1,hn,hv.2.2,ZN (by rw[h.len,hn])⟩
 .refine .inr ⟨g,?_⟩;simp only[Value.slice.injEq,true_and]at hv;refine⟨hv.1,hb,?_,o_,o_⟩;rcases Nat.lt_or_ge g w.heap.size with hlt|hge
  .exact hlt
  .rw[Array.getElem?_eq_none hge]at hg;cases hg
theorem Own.lt(h:Own w B e sz A n c css):∀ g,ob A=some g->B<=g/\g<w.heap.size:=by
 intro g hg;rcases h.cases with⟨rfl,_⟩|⟨g',rfl,h1,h2,_⟩
 .simp[ob]at hg
 .simp only[ob,Option.map_some,Zi]at hg;subst hg;exact⟨h1,h2⟩
theorem Own.row(h:Own w B e sz A n c css):Row w A n sz css:=by
 refine⟨h.len,fun i cs hi=>?_⟩;have hin:i<n:=by rw[<- h.len];exact(Za.1 hi).1
 rcases h.cases with⟨rfl,rfl,_⟩|⟨g,rfl,_⟩
 .omega
 .refine⟨g,0,rfl,fun j v hj=>?_⟩;have hjs:j<sz:=by rw[<- h.each cs (Z6 hi)];exact(Za.1 hj).1
  have hlt:i*sz+j<n*sz:=by
   have:(i+1)* sz<=n*sz:=Nat.mul_le_mul_right _ hin;rw[Nat.add_mul]at this;omega
  rw[Nat.zero_add,h.own.cellAt _ hlt,qB h.each hi hj]
theorem Own.keep(h:Own w B e sz A n c css)(hk:∀ g,ob A=some g->w'.heap[g]? = w.heap[g]?):Own w' B e sz A n c css:=by
 refine⟨⟨h.own.1,?_⟩,h.len,h.each⟩;rcases h.own.2 with hn |⟨g,cap,cur,hv,hb,hg,r⟩
 .exact .inl hn
 .refine .inr ⟨g,cap,cur,hv,hb,?_,r⟩;simp only[Value.slice.injEq]at hv;rw[hk g (by rw[hv.1];rfl),hg]
theorem Own.below(h:Own w B e sz A n c css)(hb:Below w.heap.size w w'):Own w' B e sz A n c css :=
 h.keep fun g hg=>hb.block g (h.lt g hg).2
theorem Own.grown(h:Own w B e sz A n c css){row:Option Nat}(hg:w.grownBy w' row)(hne:∀ g,ob A=some g->row≠some g):Own w' B e sz A n c css :=
 h.keep fun g hgg=>hg.block g (h.lt g hgg).2 (fun e=>hne g hgg e.symm)
theorem Own.Ay{B':Nat}(h:Own w B e sz A n c css)(hB:B'<=B):Own w B' e sz A n c css:=by
 refine⟨⟨h.own.1,?_⟩,h.len,h.each⟩;rcases h.own.2 with hn |⟨g,cap,cur,hv,hb,r⟩
 .exact .inl hn
 .exact .inr ⟨g,cap,cur,hv,o_,r⟩
theorem Own.frozen(h:Own w B e sz A n c css){g:Nat}(hA:A=some ⟨g,0,none⟩)(j:Nat):w.frozen? ⟨g,j,none⟩=false:=by
 subst hA;exact h.own.frozenAt j
theorem Qz(w:World)(B e sz:Nat):Own w B e sz none 0 0 []:=⟨w.ownsRow_nil B e sz,rfl,s_⟩
end

section
variable{P:Program}{w:World}{ops:Array Oper}{rest:List Oper}{o:Oper}{a:Act}{Q:Exit->Act->World->Prop}

theorem qD(z:List Value)(n sz:Nat)(hz:z.length=sz)(hs:0<sz):(madeCells z.toArray (n*sz)).toList=(Zk n z).flatten:=by
 apply List.ext_getElem?;intro j;by_cases hj:j<n*sz
 .have h1:j / sz<n:=Nat.div_lt_of_lt_mul (by rw[Nat.mul_comm];exact hj);have h2:j % sz<z.length:=by rw[hz];exact Nat.mod_lt _ hs
  have e:j=(j / sz)* sz+j % sz:=by rw[Nat.mul_comm];exact(Nat.div_add_mod j sz).symm
  have hr:(Zk n z).flatten[(j / sz)* sz+j % sz]? = some z[j % sz]:=
   qB (sz:=sz) (by intro cs hcs;rw[List.eq_of_mem_replicate hcs,hz]) (by simp[h1]) (Z4 h2)
  rw[<- e]at hr;rw[hr];simp[madeCells,hj,hz,Z4 h2]
 .have hl:(Zk n z).flatten.length=n*sz:=by
   rw[iK (sz:=sz) (by intro cs hcs;rw[List.eq_of_mem_replicate hcs,hz])];simp
  rw[List.getElem?_eq_none (by simp[madeCells];omega),List.getElem?_eq_none o_]

theorem ZdP(hg:o.guard=none)(l c:Operand)(t:TypeId)(hop:o.op=Op.makeSlice t l c) 
  (B e sz bytes:Nat) (i:TypeInfo) (z:Value) (h1:P.underlying t=some (.slice e)) (h2:P.info? e=some i) (h3:i.zero=some z) (h4:i.size=sz) (h5:i.bytes=bytes)
  (kl kc:IntKind) (n:Nat) (hl:a.eval l=.int kl (n:Int)) (hc:a.eval c=.int kc (n:Int)) (zs:List Value) (hzs:z.cells=zs.toArray) (hzl:zs.length=sz) (hs:0<sz) (b2:bytes*n<=281474976710656) (b3:n<=maxLen) (b4:B<=w.heap.size)
  (hK:∀ w',Own w' B e sz (some ⟨w.heap.size,0,none⟩) n n (Zk n zs)->w.grownBy w' none->wpList P ops Q rest (a.put o.dst (.slice (some ⟨w.heap.size,0,none⟩) n n)) w'):
  wpList P ops Q (o::rest) a w:=by
 refine wpList_make_full w hg l c t hop B e i z sz h1 h2 h3 h4 kl kc _ _ n hl hc rfl rfl (by rw[h5];exact b2) b3 b4 fun w' hw hgr=>hK w' ⟨?_,s_,?_⟩ hgr
 .rw[hzs,qD zs n sz hzl hs]at hw;exact hw
 .intro cs hcs;rw[List.eq_of_mem_replicate hcs,hzl]

theorem Z9m{B e sz n c g k:Nat}{css:List (List Value)}(hown:Own w B e sz (some ⟨g,0,none⟩) n c css)(hk:k<n)(ty:TypeId)(hty:(P.info? ty).map (·.size)=some sz)(v:Value)(cs:List Value)(hv:v.cells=cs.toArray)(hcs:cs.length=sz)(h1:∀ u∈cs,u.oneCell'=true):
  ∃ w',(storeVar ty ⟨g,k*sz,none⟩ v).run P w=.ok () w'/\Own w' B e sz (some ⟨g,0,none⟩) n c (css.set k cs)/\w.grownBy w' (some g):=by
 rcases hown.own.2 with⟨hv',_⟩|⟨g',cap,cur,hv',hb,hg,hnc,hcm,hcs',htake⟩
 .simp at hv'
 .simp only[Value.slice.injEq,Zi,Addr.mk.injEq,and_true,true_and]at hv';obtain⟨rfl,rfl⟩:=hv';have hk1:(k+1)* sz<=n*sz:=Nat.mul_le_mul_right _ hk;have hk2:n*sz<=c*sz:=Nat.mul_le_mul_right _ hnc;rw[Nat.add_mul]at hk1;have hst:=run_storeCells_at P g (k*sz) e cs 0 cur w hg (by rw[hcs];omega) h1
  refine⟨w.setRow g ((cur.toList.take (k*sz)++cs++cur.toList.drop (k*sz+sz)).toArray),?_,⟨⟨?_,.inr ⟨g,c,_,rfl,hb,setRow_heap w g cur _ e _ hg,hnc,hcm,?_,?_⟩⟩,by simp[hown.len],?_⟩,
   ⟨rfl,rfl,rfl,by simp[World.setRow],fun q _ hq=>setRow_other w g q _ (fun e=>hq (by simp[e]))⟩⟩
  .cases hq:P.info? ty with
   |none=>simp[hq]at hty
   |some i =>
    have hi:i.size=sz:=by simpa [hq]using hty
    simp only[Nat.add_zero]at hst;simp[storeVar,sizeOf,typeInfo,hq,hi,hv,hcs,hst]
  .rw[<- iL hown.each (by rw[hown.len];exact hk)];have:=hown.own.1;simp only[Zq,ZC,List.length_drop];omega
  .simp only[List.size_toArray,Zq,ZC,List.length_drop,Array.length_toList];omega
  .rw[<- iL hown.each (by rw[hown.len];exact hk),<- htake];simp only[List.take_append,List.take_take,ZC,List.drop_take,Zq,Array.length_toList];have e1:min (n*sz) (k*sz)=k*sz:=by omega
   have e2:min (k*sz) (n*sz)=k*sz:=by omega
   have e3:min (k*sz) cur.size=k*sz:=by omega
   simp only[e1,e2,e3,hcs];congr 1;congr 1;rw[List.take_of_length_le];omega
  .intro x hx;rcases ZW hx with h|h
   .exact hown.each x h
   .rw[h,hcs]

theorem ZS(hgd:o.guard=none)(ty:TypeId)(x v:Operand)(ho:o.op=.store ty x v)(B e sz n c g k off:Nat)(hoff:off=k*sz)(css:List (List Value))(hx:a.eval x=.pointer (some ⟨g,off,none⟩))(V:Value)(cs:List Value)(hv:a.eval v=V)(hV:V.cells=cs.toArray) 
  (hcs:cs.length=sz) (h1:∀ u∈cs,u.oneCell'=true) (hty:(P.info? ty).map (·.size)=some sz) (hown:Own w B e sz (some ⟨g,0,none⟩) n c css) (hk:k<n)
  (h:∀ w',Own w' B e sz (some ⟨g,0,none⟩) n c (css.set k cs)->w.grownBy w' (some g)->wpList P ops Q rest (a.put o.dst undef) w'):wpList P ops Q (o::rest) a w:=by
 subst hoff;obtain⟨w',hrun,h2,h3⟩:=Z9m (P:=P) hown hk ty hty V cs hV hcs h1;refine wpList_plain hgd fun _ hK=>?_
 unfold Oper.wp execOp;simp only[ho,hx,hv,Instr.storeAt,Instr.sureAddr,Sem.run_bind,Sem.run_pure,Result.andThen_ok,hrun];exact hK _ _ (h w' h2 h3)

theorem Own.cell{B e sz n c g k:Nat}{css:List (List Value)}{cs:List Value}(hown:Own w B e sz (some ⟨g,0,none⟩) n c css)(hk:css[k]? = some cs)(hj:j<sz)(u:Value):
  Own (w.setCell ⟨g,k*sz+j,none⟩ u) B e sz (some ⟨g,0,none⟩) n c (css.set k (cs.set j u))/\w.grownBy (w.setCell ⟨g,k*sz+j,none⟩ u) (some g):=by
 obtain⟨h1,h2⟩:=hown.own.stored (k*sz+j) u;refine⟨⟨?_,by simp[hown.len],?_⟩,h2⟩
 .rw[<- Zml hown.each hk hj];exact h1
 .intro x hx;rcases ZW hx with h|h
  .exact hown.each x h
  .rw[h,List.length_set];exact hown.each cs (Z6 hk)

theorem qE{K:Act->World->Prop}(s x:Operand)(t:TypeId) 
  (ho:o.op=.call { callee:=.builtin .append,args:=#[s,x],argTypes:=#[t,t]})
  (B e sz bytes:Nat) (i:TypeInfo) (z:Value) (ht:P.underlying t=some (.slice e)) (hi:P.info? e=some i) (hz:i.zero=some z)
  (hsize:i.size=sz) (hby:i.bytes=bytes) (hzs:z.cells.size=sz) (hsz:0<sz)
  (A:Option Addr) (n c:Nat) (css:List (List Value)) (hs:a.eval s=.slice A n c) (hown:Own w B e sz A n c css)
  (A2:Option Addr) (m c2:Nat) (news:List (List Value)) (hx:a.eval x=.slice A2 m c2) (hr:Row w A2 m sz news) (he:∀ cs∈news,cs.length=sz) (h1:∀ cs∈news,∀ u∈cs,u.oneCell'=true)
  (h63:n+m<=maxLen) (hbytes:(n+m)* bytes<=140737488355328) (hbase:B<=w.heap.size)
  (h:∀ A' c' w',Own w' B e sz A' (n+m) c' (css++news)->w.grownBy w' (ob A)->(ob A'=ob A∨ob A'=some w.heap.size)->K (a.put o.dst (.slice A' (n+m) c')) w'):o.wp P a w K Q:=by
 have Gb:news.flatten.length=m*sz:=by rw[iK he,hr.1]
 have done:∀ v' w',w'.ownsRow B e sz v' (n+m) (css.flatten++news.flatten)->w.grownBy w' (ob A)->(v'.ownBlock=ob A∨v'.ownBlock=some w.heap.size)->K (a.put o.dst v') w':=by
  intro v' w' h2 h3 h4
  obtain⟨A',c',rfl⟩:∃ A' c',v'=.slice A' (n+m) c':=by
   rcases h2.2 with⟨rfl,h0⟩|⟨g,cap,cur,rfl,_⟩
   .exact⟨none,0,by rw[h0]⟩
   .exact⟨_,_,rfl⟩
  rw[qC]at h4;refine h A' c' w' ⟨by rw[List.flatten_append];exact h2,by rw[Zq,hown.len,hr.1],?_⟩ h3 h4;intro cs hcs;rcases List.mem_append.1 hcs with h5|h5
  .exact hown.each cs h5
  .exact he cs h5
 have ho1:∀ u∈news.flatten,u.oneCell'=true:=by
  intro u hu;obtain⟨cs,hcs,huc⟩:=List.mem_flatten.1 hu;exact h1 cs hcs u huc
 rcases A2 with _|ad
 .have hm:m=0:=by
   rcases Nat.eq_zero_or_pos m with h0|h0
   .exact h0
   .obtain⟨g,off,hA,_⟩:=hr.2 0 _ (Z4 (by rw[hr.1];exact h0));cases hA
  subst hm;have hn:news=[]:=ZN hr.1;subst hn
  have hrun:(Builtin.append_ #[t,t] o.type #[.slice A n c,.slice none 0 c2]).run P w=.ok (.slice A n c) w:=by
   rcases hown.own.2 with⟨hv,_⟩|⟨g,cap,cur,hv,_,_,hnc,_⟩
   .simp only[Value.slice.injEq]at hv;obtain⟨rfl,rfl,rfl⟩:=hv;simp[Builtin.append_,run_underlying ht,sizeOf,typeInfo,hi,Builtin.lenOf,Builtin.firstCells]
   .simp only[Value.slice.injEq,true_and]at hv;obtain⟨rfl,rfl⟩:=hv;simp[Builtin.append_,run_underlying ht,sizeOf,typeInfo,hi,Builtin.lenOf,Builtin.firstCells,hnc,storeCells]
  unfold Oper.wp execOp;simp only[ho,resolve,invoke,builtin,Sem.run_bind,Sem.run_pure,Result.andThen_ok,List.map_toArray,List.map_cons,List.map_nil,hs,hx,hrun];exact done _ w (by simpa using hown.own) (World.grownBy.refl _ _) (.inl (qC _ _ _))
 .have hcells:∀ j u,news.flatten[j]? = some u->w.cell? (ad.add j)=some u:=by
   intro j u hu;have hj:j<m*sz:=by rw[<- Gb];exact(Za.1 hu).1
   have hj1:j / sz<m:=Nat.div_lt_of_lt_mul (by rw[Nat.mul_comm];exact hj);have hj2:j % sz<sz:=Nat.mod_lt _ hsz;have e:j=(j / sz)* sz+j % sz:=by rw[Nat.mul_comm];exact(Nat.div_add_mod j sz).symm
   have hcs:news[j / sz]? = some (news[j / sz]'(by rw[hr.1];exact hj1)):=Z4 (by rw[hr.1];exact hj1);obtain⟨g,off,hA,hc⟩:=hr.2 _ _ hcs;simp only[Zi]at hA;subst hA;have hl:=he _ (Z6 hcs);have hv:(news[j / sz]'(by rw[hr.1];exact hj1))[j % sz]? = some ((news[j / sz]'(by rw[hr.1];exact hj1))[j % sz]'(by rw[hl];exact hj2)):=Z4 (by rw[hl];exact hj2);have h5:=qB he hcs hv;rw[<- e,hu]at h5;have h6:=hc _ _ hv;rw[Option.some.inj h5]
   have e2:(⟨g,off,none⟩:Addr).add j=⟨g,off+j / sz*sz+j % sz,none⟩:=by
    rw[Nat.add_assoc,<- e,Addr.add_lit]
   rw[e2];exact h6
  obtain⟨v',w',hrun,h2,h3,_,h5⟩:=run_append_own_at (P:=P) w B t o.type e i z sz bytes ht hi hz hsize hby hzs hsz (.slice A n c) n css.flatten hown.own ad m c2 news.flatten Gb hcells ho1 h63 hbytes hbase;unfold Oper.wp execOp;simp only[ho,resolve,invoke,builtin,Sem.run_bind,Sem.run_pure,Result.andThen_ok,List.map_toArray,List.map_cons,List.map_nil,hs,hx,hrun];rw[qC]at h3 h5;exact done v' w' h2 h3 h5
theorem ZX(hgd:o.guard=none)(s x:Operand)(t:TypeId) 
  (ho:o.op=.call { callee:=.builtin .append,args:=#[s,x],argTypes:=#[t,t]})
  (B e sz bytes:Nat) (i:TypeInfo) (z:Value) (ht:P.underlying t=some (.slice e)) (hi:P.info? e=some i) (hz:i.zero=some z)
  (hsize:i.size=sz) (hby:i.bytes=bytes) (hzs:z.cells.size=sz) (hsz:0<sz)
  (A:Option Addr) (n c:Nat) (css:List (List Value)) (hs:a.eval s=.slice A n c) (hown:Own w B e sz A n c css)
  (A2:Option Addr) (m c2:Nat) (news:List (List Value)) (hx:a.eval x=.slice A2 m c2) (hr:Row w A2 m sz news) (he:∀ cs∈news,cs.length=sz) (h1:∀ cs∈news,∀ u∈cs,u.oneCell'=true)
  (h63:n+m<=maxLen) (hbytes:(n+m)* bytes<=140737488355328) (hbase:B<=w.heap.size)
  (h:∀ A' c' w',Own w' B e sz A' (n+m) c' (css++news)->w.grownBy w' (ob A)->(ob A'=ob A∨ob A'=some w.heap.size)->wpList P ops Q rest (a.put o.dst (.slice A' (n+m) c')) w'):wpList P ops Q (o::rest) a w :=
 wpList_plain hgd fun K hK=>qE s x t ho B e sz bytes i z ht hi hz hsize hby hzs hsz A n c css hs hown A2 m c2 news hx hr he h1 h63 hbytes hbase fun A' c' w' h2 h3 h4=>hK _ _ (h A' c' w' h2 h3 h4)
theorem YB{K:Act->World->Prop}{E:Prop}(hgd:o.guard=none)(s x:Operand)(t:TypeId) 
  (ho:o.op=.call { callee:=.builtin .append,args:=#[s,x],argTypes:=#[t,t]})
  (B e sz bytes:Nat) (i:TypeInfo) (z:Value) (ht:P.underlying t=some (.slice e)) (hi:P.info? e=some i) (hz:i.zero=some z)
  (hsize:i.size=sz) (hby:i.bytes=bytes) (hzs:z.cells.size=sz) (hsz:0<sz)
  (A:Option Addr) (n c:Nat) (css:List (List Value)) (hs:a.eval s=.slice A n c) (hown:Own w B e sz A n c css)
  (A2:Option Addr) (m c2:Nat) (news:List (List Value)) (hx:a.eval x=.slice A2 m c2) (hr:Row w A2 m sz news) (he:∀ cs∈news,cs.length=sz) (h1:∀ cs∈news,∀ u∈cs,u.oneCell'=true)
  (h63:n+m<=maxLen) (hbytes:(n+m)* bytes<=140737488355328) (hbase:B<=w.heap.size)
  (h:∀ A' c' w',Own w' B e sz A' (n+m) c' (css++news)->w.grownBy w' (ob A)->(ob A'=ob A∨ob A'=some w.heap.size)->K (a.put o.dst (.slice A' (n+m) c')) w'):if Region.wanted o (yielded ops a.tmps)=true then Oper.wp P o a w K Q else E:=by
 have hw:Region.wanted o (yielded ops a.tmps)=true:=by simp[Region.wanted,hgd]
 rw[if_pos hw];exact qE s x t ho B e sz bytes i z ht hi hz hsize hby hzs hsz A n c css hs hown A2 m c2 news hx hr he h1 h63 hbytes hbase h
end

theorem Qn{a w:World}{row:Option Nat}(h:Below a.heap.size a w)(hg:w.grownBy w' row)(hr:∀ k,row=some k->a.heap.size<=k):Below a.heap.size a w':=h.grown hg h.size hr
theorem QZ{cs:List Value}(h:cs.all (·.oneCell')=true):∀ u∈cs,u.oneCell'=true:=fun u hu=>List.all_eq_true.1 h u hu

theorem Zra{a w:World}{row:Option Nat}(h:a.grownBy w row)(k:w.grownBy w' row):a.grownBy w' row :=
 ⟨k.os.trans h.os,k.tape.trans h.tape,k.output.trans h.output,Nat.le_trans h.size k.size,fun i hi hne=>(k.block i (Nat.lt_of_lt_of_le hi h.size) hne).trans (h.block i hi hne)⟩
theorem Zrf{a w:World}{row:Option Nat}(h:a.grownBy w row)(k:Below w.heap.size w w'):a.grownBy w' row :=
 Zra h ⟨k.os,k.tape,k.output,k.size,fun i hi _=>k.block i hi⟩
theorem qF{w:World}(k:Below w.heap.size w w')(row:Option Nat):w.grownBy w' row:=Zrf (World.grownBy.refl _ _) k
theorem Znd(w:World)(t:TypeId)(cs:List Value)(sz:Nat):Row (w.alloc (.cells cs.toArray t)) (some ⟨w.heap.size,0,none⟩) 1 sz [cs]:=by
 refine⟨rfl,fun i es hi=>⟨w.heap.size,0,rfl,fun j v hj=>?_⟩⟩
 have h0:i=0:=by
  have:=(Za.1 hi).1;simpa using this
 subst h0;simp only[Zw,Zi]at hi;subst hi;rw[cell_of_row _ _ _ _ _ _ (heap_alloc_new w _)];simpa using hj
theorem JV(w:World)(e sz:Nat)(hB:B<=w.heap.size):Own (w.alloc (.cells #[] e)) B e sz (some ⟨w.heap.size,0,none⟩) 0 0 []:=
 ⟨World.ownsRow_made w #[] 0 hB (Nat.zero_le _) s_,rfl,s_⟩
theorem Own.Aj{w:World}{e sz n c:Nat}{A:Option Addr}{css:List (List Value)}(h:Own w B e sz A n c css)(o:Obj):Own (w.alloc o) B e sz A n c css:=h.below (Ze (Below.refl _ _) o)
theorem Own.nc{w:World}{e sz n c:Nat}{A:Option Addr}{css:List (List Value)}(h:Own w B e sz A n c css):n<=c/\c<=maxLen:=by
 rcases h.cases with⟨_,rfl,rfl,_⟩|⟨_,_,_,_,h1,h2⟩
 .exact⟨Nat.le_refl _,Nat.zero_le _⟩
 .exact⟨h1,h2⟩
theorem ZQ{P:Program}{id:Nat}{ops:Array Oper}{d:Bool}{Q:Exit->Act->World->Prop}{a:Act}{w:World}(h:∀ W,Hid (W=w)->(Code.region id ops d).wp P Q a W):(Code.region id ops d).wp P Q a w:=h w rfl
def A7.same(f g:A7):Bool:=(f.id == g.id) && ((f.kind == g.kind) && ((f.AL.toList == g.AL.toList) && ((f.Z00.toList == g.Z00.toList) && ((f.Af.turn == g.Af.turn) && ((f.Af.x == g.Af.x) && ((f.Af.y == g.Af.y) && (f.Ao == g.Ao)))))))
theorem Z9n(w:World)(f g:A7):
  (binOp .neq 35 (Yx f.id f.kind f.AL f.Z00 f.Af.turn f.Af.x f.Af.y f.Ao) (Yx g.id g.kind g.AL g.Z00 g.Af.turn g.Af.x g.Af.y g.Ao)).run prog w=.ok (.bool (!(f.same g))) w:=by
 simp[go_sem];unfold A7.same;repeat' split
 all_goals simp_all
def Gc:List A7->List A7->Bool
 |[],[]=>true
 |f::l,g::m=>f.same g && Gc l m
 |_,_=>false
def Cz(l m:List A7)(k:Nat):Prop:=Gc l m=Gc (l.drop k) (m.drop k)
theorem Zcz:∀ (l m:List A7),l.length≠m.length->Gc l m=false
 |[],[],h=>absurd rfl h
 |[],_::_,_=>rfl
 |_::_,[],_=>rfl
 |f::l,g::m,h=>by rw[Gc,Zcz l m (by simpa using h),Bool.and_false]
theorem Cz.step{m:List A7}{k:Nat}{g:A7}(h:Cz l m k)(hf:Hid (l[k]? = some f))(hg:Hid (m[k]? = some g)):Gc l m=(f.same g && Gc (l.drop (k+1)) (m.drop (k+1))):=by
 unfold Cz at h;rw[h,QP hf,QP hg,Gc]
theorem Cz.done{m:List A7}{k n:Nat}(h:Cz l m k)(hl:Hid (l.length=n))(hm:Hid (m.length=n))(hk:¬ k<n):Hid (Gc l m=true):=by
 unfold Cz at h;rw[Hid,h,QK hl hk,QK hm hk,Gc]
theorem Xw(A A2:Option Addr)(n n2 c c2:Nat)(l m:List A7)(w:World)(hn:n<=4194304)(hn2:n2<=4194304)(hr:Cy w A n l)(hr2:Cy w A2 n2 m):
  Calls prog 13 #[.slice A n c,.slice A2 n2 c2] w fun e w'=>e=QM (Gc l m)/\Below w.heap.size w w':=by
 by_cases hnn:n=n2
 .subst hnn;go_enter func13,ntmps13;go_wp2;go_loopw [14] (fun i wr=>∃ (k:Nat),k<=n/\i=.int .i64 k/\Cz l m k/\Below w.heap.size w wr) (fun i _=>n-(intOf i).toNat)
  case atStart=>exact⟨0,o_,rfl,rfl,Below.refl _ _⟩
  case round =>
   obtain⟨k,hk,rfl,hi,hb⟩:=hrel;by_cases hlt:k<n
   .obtain⟨f,g,off,hf,rfl,g0,g1,g2,g3,g4,g5,g6,g7⟩:=Cy.at_ (hr.below hb) hlt;obtain⟨f2,g',off',hf2,rfl,k0,k1,k2,k3,k4,k5,k6,k7⟩:=Cy.at_ (hr2.below hb) hlt;have hst:=hi.step hf hf2;have h0:(0:Int)<=(k:Int):=by omega
    have h1:(k:Int)<(n:Int):=by omega
    have hne:=fun W=>Z9n W f f2
    have HS:=Lib.hid hst;clear hst hi;have l0:=Y6 g0;have l1:=Y6 k0;dsimp only at l0 l1;generalize hb2:f.same f2=b at hne;have HB:=Lib.hid hb2;clear hb2;cases b
    .have hfin:Hid (Gc l m=false):=by rw[Hid,HS.out,HB.out,Bool.false_and]
     go_wp2_with fail;go_quiet (fail);go_wp2;go_ret;exact⟨by rw[hfin.out];rfl,by repeat(first|assumption|refine Qh ?_ _|refine ZY ?_|refine Ze ?_ _)⟩
    .have hnx:Cz l m (k+1):=by rw[Cz,HS.out,HB.out,Bool.true_and]
     go_wp2_with fail;go_quiet (fail);go_wp2;go_roundw
     case rel=>exact⟨k+1,o_,by go_num,hnx,by repeat(first|assumption|refine Qh ?_ _|refine ZY ?_|refine Ze ?_ _)⟩
     case measure=>simp[intOf];omega
   .have hfin:=hi.done hr.len hr2.len hlt;go_wp2;go_ret;exact⟨by rw[hfin.out];rfl,hb⟩
 .have hfin:Hid (Gc l m=false):=Zcz l m (by rw[hr.len.out,hr2.len.out];exact hnn);have hbb:((n:Int)==(n2:Int))=false:=by simp;omega
  have DJ:((n:Int) !=(n2:Int))=true:=by simp;omega
  go_enter func13,ntmps13;go_wp2;go_ret;exact⟨by rw[hfin.out];rfl,Below.refl _ _⟩

def XL(l:List A7)(id:Int):Bool:=l.any fun f=>f.id == id
def Xh:List A7->Int->Int->Int
 |[],_,_=>-1
 |f::l,id,k=>if f.id == id then k else Xh l id (k+1)
def Q3(l:List ByteArray)(s:ByteArray):Bool:=l.any fun t=>t.toList == s.toList
def CE(l:List A7)(id:Int)(k:Nat):Prop:=Xh l id 0=Xh (l.drop k) id k
theorem CE.step{id:Int}{k:Nat}(h:CE l id k)(hf:Hid (l[k]? = some f)):Xh l id 0=if f.id == id then (k:Int)else Xh (l.drop (k+1)) id ((k+1:Nat):Int):=by
 unfold CE at h;rw[h,QP hf,Xh];congr 2
theorem CE.done{id:Int}{k n:Nat}(h:CE l id k)(hl:Hid (l.length=n))(hk:¬ k<n):Hid (Xh l id 0 = -1):=by
 unfold CE at h;rw[Hid,h,QK hl hk];rfl
theorem Zaj:∀ (l:List A7) (id k:Int),0<=k->decide (Xh l id k<0)= !XL l id
 |[],id,k,_=>by simp[Xh,XL]
 |f::l,id,k,h=>by
  have ih:=Zaj l id (k+1) o_
  unfold XL at ih ⊢
  rw[Xh,List.any_cons]
  by_cases he:(f.id == id)=true
  .rw[if_pos he,he];simp;omega
  .rw[if_neg he,ih];simp[he]
theorem Zda:∀ (l:List A7) (id k:Int),0<=k->-1<=Xh l id k/\Xh l id k<=k+l.length
 |[],id,k,h=>by simp[Xh];omega
 |f::l,id,k,h=>by
  have ih:=Zda l id (k+1) o_
  rw[Xh]
  split
  .simp;omega
  .simp only[List.length_cons];omega
theorem Z6e(A:Option Addr)(n c:Nat)(l:List A7)(id:Int)(w:World)(hn:n<=4194304)(hr:Cy w A n l):
  Calls prog 46 #[.slice A n c,.int .i64 id] w fun e w'=>e=LA (Xh l id 0)/\Below w.heap.size w w':=by
 go_enter func46,ntmps46;go_wp2;go_loopw [9] (fun i wr=>∃ (k:Nat),k<=n/\i=.int .i64 k/\CE l id k/\Below w.heap.size w wr) (fun i _=>n-(intOf i).toNat)
 case atStart=>exact⟨0,o_,rfl,rfl,Below.refl _ _⟩
 case round =>
  obtain⟨k,hk,rfl,hi,hb⟩:=hrel;by_cases hlt:k<n
  .obtain⟨f,g,off,hf,rfl,g0,g1,g2,g3,g4,g5,g6,g7⟩:=Cy.at_ (hr.below hb) hlt;have hst:=hi.step hf;generalize hbe:(f.id == id)=b at hst;have HS:=Lib.hid hst;clear hst;cases b
   .have hnx:CE l id (k+1):=by rw[CE,HS.out];rfl
    go_wp2;go_roundw
    case rel=>exact⟨k+1,o_,by go_num,hnx,Ze hb _⟩
    case measure=>simp[intOf];omega
   .go_wp2;go_ret;exact⟨by rw[HS.out];rfl,Ze hb _⟩
  .have hfin:=hi.done hr.len hlt;go_wp2;go_ret;exact⟨by rw[hfin.out];rfl,hb⟩
def Dr(l:List ByteArray)(s:ByteArray)(k:Nat):Prop:=Q3 l s=Q3 (l.drop k) s
theorem Dr.step{l:List ByteArray}{s f:ByteArray}{k:Nat}(h:Dr l s k)(hf:Hid (l[k]? = some f)):Q3 l s=((f.toList == s.toList)|| Q3 (l.drop (k+1)) s):=by
 unfold Dr at h;rw[h,QP hf];rfl
theorem Dr.done{l:List ByteArray}{s:ByteArray}{k n:Nat}(h:Dr l s k)(hl:Hid (l.length=n))(hk:¬ k<n):Hid (Q3 l s=false):=by
 unfold Dr at h;rw[Hid,h,QK hl hk];rfl
theorem Q0(A:Option Addr)(n c:Nat)(l:List ByteArray)(s:ByteArray)(w:World)(hn:n<=4194304)(hr:D7 w A n l):
  Calls prog 101 #[.slice A n c,.string s] w fun e w'=>e=QM (Q3 l s)/\w=w':=by
 go_enter func101,ntmps101;go_wp2;go_loop [9,6] (fun i t=>∃ (k:Nat),k<=n/\i=.int .i64 k/\Dr l s k) (fun i _=>n-(intOf i).toNat)
 case atStart=>exact⟨0,o_,rfl,rfl⟩
 case round =>
  obtain⟨k,hk,rfl,hi⟩:=hrel;by_cases hlt:k<n
  .obtain⟨f,g,off,hf,rfl,g0⟩:=D7.at_ hr hlt;have hst:=hi.step hf;generalize hbe:(f.toList == s.toList)=b at hst;have HS:=Lib.hid hst;clear hst;cases b
   .have hnx:Dr l s (k+1):=by rw[Dr,HS.out,Bool.false_or]
    go_wp2;go_round
    case rel=>exact⟨k+1,o_,by go_num,hnx⟩
    case measure=>simp[intOf];omega
   .go_wp2;go_ret;exact⟨by rw[HS.out,Bool.true_or];rfl,rfl⟩
  .have hfin:=hi.done hr.len hlt;go_wp2;go_ret;exact⟨by rw[hfin.out];rfl,rfl⟩

def Zss(l m:List A7):List Int:=(m.filter fun f=>!XL l f.id).map (·.id)
def MI(k:Int):Prop:=k<=9223372036854775807
theorem ZsQ{k:Int}(h:k<=1000000000000):MI k:=by unfold MI;omega






end Go.Proofs.YtcnbphnnfmphlaaGreatDoor
