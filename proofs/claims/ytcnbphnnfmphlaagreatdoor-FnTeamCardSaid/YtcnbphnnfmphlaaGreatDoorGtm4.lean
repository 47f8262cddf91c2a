/- Texts of this proof. -/
import Derived.Deep.Slices
import Derived.Deep.RegionLaw
import Derived.Test.YtcnbphnnfmphlaaGreatDoorGtm3
namespace Go.Proofs.YtcnbphnnfmphlaaGreatDoor
open List renaming mem_append → Z9,getElem?_eq_some_iff → Za,length_cons → Zt,nodup_append → ZA,flatten_cons → ZL
open Nat renaming le_refl → Zd
open Option.some renaming injEq → Zi
open Go.RowKit
set_option linter.unusedVariables false
set_option linter.unusedSimpArgs false
set_option maxHeartbeats 4000000
set_option maxRecDepth 100000
variable{l:List A7}{f fs:List Nat}{B:Nat}{W W' w':World}
section
open Go.ChangeShapes Go.WideShapes Go.ChangeAt Go.RowKit Go.Deep
set_option linter.unusedVariables false
set_option linter.unusedSimpArgs false

section
variable{H:Type}{enc:TypeId×Value->H}{P:Program}

theorem Z3N(hl:laidOutB P=true){W W':World}{sp:Nat->Bool}(hb:Below W.heap.size W W'):∀ (ts:List TypeId) (vs:List Value) (ds:List (DataW H)) (ps:List MemPlace),
  ts.all (fun t=>P.readableRec t && decide (t<P.types.size))=true->DataW.TrodAll enc P W 0 (fun _=>true) true ts vs ds ps->(∀ x∈ps,x.block<W.heap.size)->(∀ x∈ps,sp x.block=true)->DataW.TrodAll enc P W' 0 sp true ts vs ds ps
 |[],vs,ds,ps,_,h,_,_=>by
  obtain⟨rfl,rfl,rfl⟩:=trodAll_nil h
  exact trodAll_mk0
 |t::ts,vs,ds,ps,ht,h,hlt,hs=>by
  obtain⟨v,vs',d,ds',p,q,rfl,rfl,rfl,h1,h2⟩:=trodAll_cons h
  simp only[List.all_cons,Bool.and_eq_true,decide_eq_true_eq]at ht
  exact trodAll_cons_mk (WideElems.Trod_stays hl ht.1.1 ht.1.2 h1 (fun x hx=>hb.same (hlt x (by simp[hx]))) (fun x hx=>hs x (by simp[hx])))
   (Z3N hl hb ts vs' ds' q ht.2 h2 (fun x hx=>hlt x (by simp[hx])) (fun x hx=>hs x (by simp[hx])))

theorem Zma(hl:laidOutB P=true){f:Func}{s:ChangeSpec}{args:Array Value}{ds:List (DataW H)}{before:List MemPlace}{tb:TypeId}  
  (hp:f.params.toList.all (fun t=>P.readableRec t && decide (t<P.types.size))=true) (hrt:f.resultTypes =#[tb]) (htb:P.underlying tb=some .bool) (hvars:s.vars=[])
  (hW:DataW.Whole enc P f.params.toList s.vars false W args.toList ds [] before) (hs:s.fn H (ds++[])={ results:=[.lit (.bool true)],args:=ds }) (hb:Below W.heap.size W W'):
  s.post enc P f false true false false W args (.bool true) W':=by
 have hlt:∀ p∈before,p.block<W.heap.size:=fun p hp=>hW.lt p hp
 have hW0:=hW;obtain⟨p,q,hA,hV,rfl,hz,hn⟩:=hW;rw[hvars]at hV;have hq:q=[]:=hV;subst hq;refine⟨ds,[],p++[],[],p,[],hW0,?_,?_,?_,hb.frame _,fun h=>by cases h⟩
 .rw[hs,hrt];exact trodAll_cons_mk (p:=[]) (p':=[]) (shut_bool htb _) trodAll_mk0
 .rw[hs];exact Z3N hl hb _ _ _ _ hp hA (fun x hx=>hlt x (by simp[hx])) (fun x hx=>by simpa using hlt x (by simp[hx]))
 .rw[hs,hvars]
  rfl

def iV(P:Program)(w:World)(t:TypeId)(good:List Value->Prop):Prop :=
 ∀ (H:Type) (enc:TypeId×Value->H) (base fuel:Nat) (spare:Nat->Bool) (held:Bool) (cs:List Value) (x:DataW H×List MemPlace),DataW.trod enc P w base spare held fuel t cs=some x->good cs
def qQ(w:World)(sz:Nat)(good:List Value->Prop)(cs:List Value):Prop :=
 ∃ (A:Option Addr) (n c:Nat) (css:List (List Value)),cs=[.slice A n c]/\n<=c/\c<=maxLen/\Row w A n sz css/\∀ es∈css,es.length=sz/\good es
theorem Zee{w:World}{t e:TypeId}{sz:Nat}{good:List Value->Prop}(ht:P.underlying t=some (.slice e))(hsz:P.cellsOf e=sz)(he:iV P w e good)(hs:0<sz):iV P w t (qQ w sz good):=fun H enc base fuel spare held cs x h=>by
 rcases open_slice ht h with⟨rfl,_⟩|⟨a,len,cap,m,n,D,Pl,rfl,_,hl,hm,hmm,_,hi⟩
 .exact⟨none,0,0,[],rfl,Zd _,Nat.zero_le _,⟨rfl,s_⟩,s_⟩
 .have hlm:len<=m:=by rw[hmm];split<;>omega
  have key:∀ i,i<len->∃ cs',w.cells? base (a.add (i*P.cellsOf e)) (P.cellsOf e)=some cs'/\good cs':=fun i hil=>by
   obtain⟨cs',h1,h2⟩:=hi i o_
   exact⟨cs',h1,he _ _ _ _ _ _ _ _ h2⟩
  subst hsz
  have hF:∃ F:Nat->List Value,∀ i,i<len->w.cells? base (a.add (i*P.cellsOf e)) (P.cellsOf e)=some (F i)/\good (F i):=
   ⟨fun i=>if h:i<len then Classical.choose (key i h)else [],fun i hil=>by
    simp only[hil,dif_pos]
    exact Classical.choose_spec (key i hil)⟩
  obtain⟨F,hF⟩:=hF
  refine⟨some a,len,cap,(List.range len).map F,rfl,hl,hm,⟨s_,fun i cs hi=>?_⟩,fun es hes=>?_⟩
  .obtain⟨h1,h2⟩:=Za.1 hi
   simp only[List.length_map,List.length_range]at h1
   simp only[List.getElem_map,List.getElem_range]at h2
   subst h2
   have hc:=World.cells?_some (hF i h1).1
   have hsp:a.spot=none:=by
    have h0:=(World.cells?_some (hF 0 o_).1).2.2 0 hs;have Z2D:=(World.cells?_some (hF 0 o_).1).2.1;rw[List.getElem?_eq_getElem o_]at h0;have e1:(a.add (0*P.cellsOf e)).add 0=a:=by simp[Addr.add]
    rw[e1]at h0;unfold World.cell? at h0;split at h0
    .split at h0
     .cases h0
     .rename_i hn;simpa using hn
    .cases h0
   obtain⟨g,off,sp⟩:=a;simp only at hsp;subst hsp;refine⟨g,off,rfl,fun j v hv=>?_⟩;have hj:j<P.cellsOf e:=by rw[<- hc.2.1];exact(Za.1 hv).1
   have:=hc.2.2 j hj;rw[Addr.add_lit,Addr.add_lit]at this;rw[this,hv]
  .obtain⟨i,hi,rfl⟩:=List.mem_map.1 hes;have hil:i<len:=by simpa using hi
   exact⟨(World.cells?_some (hF i hil).1).2.1,(hF i hil).2⟩
end

def F6(n:Int):Prop:=(Lit.int .i64 n).wf=true
def A7.ok(f:A7):Prop:=f.AL.size<=maxLen/\f.Z00.size<=maxLen/\F6 f.id/\F6 f.kind/\F6 f.Af.turn/\F6 f.Af.x/\F6 f.Af.y/\F6 f.Ao
def Ae.ok(f:Ae):Prop:=f.text.size<=maxLen/\F6 f.number/\F6 f.sum
theorem Zqo(h:Hid (Y9 A7.bulk l<=4194304)):∀ f∈l,f.AL.size<=4194304/\f.Z00.size<=4194304:=fun p hp=>by
 have h1:=XY (c:=A7.bulk) hp
 have h2:=h.out
 simp only[A7.bulk]at h1;omega
end
section
open Go.ChangeShapes Go.WideShapes Go.ChangeAt Go.RowKit Go.Deep
set_option linter.unusedVariables false
set_option linter.unusedSimpArgs false
set_option maxHeartbeats 400000
theorem Zsv :laidOutB Tryz.prog=true:=by kernel_rfl

end
structure CV where
 q:Sv
 i:Sv
 n:Sv
 a:Sv
abbrev YA(v:CV)(base expected:Int):Value:=.agg #[.slice v.q.A v.q.n v.q.c,.int .i64 base,.int .i64 expected,.slice v.i.A v.i.n v.i.c,.slice v.n.A v.n.n v.n.c,.slice v.a.A v.a.n v.a.c]
def Ql(v:CV)(base expected:Int):List Value:=[.slice v.q.A v.q.n v.q.c,.int .i64 base,.int .i64 expected,.slice v.i.A v.i.n v.i.c,.slice v.n.A v.n.n v.n.c,.slice v.a.A v.a.n v.a.c]
structure FI(w:World)(v:CV)(c:Chan):Prop where
 q:D7 w v.q.A v.q.n c.queue
 i:D7 w v.i.A v.i.n c.inbox
 n:RowK w v.n.A v.n.n c.net
 a:RowK w v.a.A v.a.n c.Ai
structure BM(w:World)(v:CV)(c:Chan):Prop where
 q:Own w 0 9 1 v.q.A v.q.n v.q.c (c.queue.map ZZ)
 i:Own w 0 9 1 v.i.A v.i.n v.i.c (c.inbox.map ZZ)
 n:Own w 0 139 4 v.n.A v.n.n v.n.c (c.net.map Ae.cells)
 a:Own w 0 139 4 v.a.A v.a.n v.a.c (c.Ai.map Ae.cells)
def AP(v:CV):List Nat:=AQ v.q.A++(AQ v.i.A++(AQ v.n.A++AQ v.a.A))
theorem BM.rd{w:World}{v:CV}{c:Chan}(h:BM w v c):FI w v c:=⟨h.q.row,h.i.row,h.n.row,h.a.row⟩
theorem FI.below{w:World}{v:CV}{c:Chan}(h:FI w v c)(hb:Below w.heap.size w w'):FI w' v c:=⟨h.q.below hb,h.i.below hb,h.n.below hb,h.a.below hb⟩
theorem BM.lt{w:World}{v:CV}{c:Chan}(h:BM w v c):∀ k∈AP v,k<w.heap.size:=by
 intro k hk;simp only[AP,Z9]at hk;rcases hk with hk|hk|hk|hk
 .exact(h.q.lt k (ZR.1 hk)).2
 .exact(h.i.lt k (ZR.1 hk)).2
 .exact(h.n.lt k (ZR.1 hk)).2
 .exact(h.a.lt k (ZR.1 hk)).2
theorem BM.keep{w:World}{v:CV}{c:Chan}(h:BM w v c)(hw:∀ k∈AP v,w'.heap[k]? = w.heap[k]?):BM w' v c:=by
 simp only[AP,Z9]at hw;exact⟨h.q.keep fun g hg=>hw g (.inl (ZR.2 hg)),h.i.keep fun g hg=>hw g (.inr (.inl (ZR.2 hg))),h.n.keep fun g hg=>hw g (.inr (.inr (.inl (ZR.2 hg)))),h.a.keep fun g hg=>hw g (.inr (.inr (.inr (ZR.2 hg))))⟩
theorem BM.below{w:World}{v:CV}{c:Chan}(h:BM w v c)(hb:Below w.heap.size w w'):BM w' v c:=h.keep fun k hk=>hb.block k (h.lt k hk)
theorem BM.upd{w:World}{v:CV}{c:Chan}(h:BM w v c)(hu:Aw fs w w')(hd:∀ k∈AP v,k ∉ fs):BM w' v c:=h.keep fun k hk=>hu.block k (h.lt k hk) (hd k hk)
def KA(c:Chan):Prop:=(∀ s∈c.queue,s.size<=maxLen)/\(∀ s∈c.inbox,s.size<=maxLen)/\(∀ p∈c.net,p.ok)/\(∀ p∈c.Ai,p.ok)/\F6 c.base/\F6 c.expected
def qR(v:CV):Prop:=v.q.n<=maxLen/\v.i.n<=maxLen/\v.n.n<=maxLen/\v.a.n<=maxLen
def Xb(c:Chan):Nat:=(c.queue.length+Y9 ByteArray.size c.queue)+((c.inbox.length+Y9 ByteArray.size c.inbox)+((c.net.length+Y9 Ae.bulk c.net)+(c.Ai.length+Y9 Ae.bulk c.Ai)))

def EP(c:Chan):Prop:=c.queue.length<=4194304/\c.inbox.length<=4194304/\c.net.length<=4194304/\c.Ai.length<=4194304
theorem Uv{c:Chan}(h:Xb c<=4194304):EP c:=by unfold Xb at h;unfold EP;omega


def Entry.cells(f:Entry):List Value:=.bool f.remove :: .int .i64 f.id::f.Bv.cells
def Entry.bulk(f:Entry):Nat:=f.Bv.bulk
def Entry.ok(f:Entry):Prop:=F6 f.id/\f.Bv.ok
def EQ(w:World)(v:Sv)(l:List A7):Prop:=Row w v.A v.n 8 (l.map A7.cells)
def Ea(v:Sv):List Nat:=AQ v.A
def Zt8(v:Sv):Prop:=v.n<=maxLen
def okF(l:List A7):Prop:=∀ x∈l,A7.ok x
def Ib(l:List A7):Nat:=l.length+Y9 A7.bulk l
def El(l:List A7):Prop:=l.length<=4194304
theorem EQ.below{w:World}{v:Sv}(h:EQ w v l)(hb:Below w.heap.size w w'):EQ w' v l:=Row.below h hb
theorem EQ.len{w:World}{v:Sv}(h:EQ w v l):Hid (l.length=v.n):=Row.len h
def BR(w:World)(v:Sv)(l:List A7):Prop:=Own w 0 35 8 v.A v.n v.c (l.map A7.cells)
theorem BR.own{w:World}{v:Sv}(h:BR w v l):Own w 0 35 8 v.A v.n v.c (l.map A7.cells):=h
theorem BR.rd{w:World}{v:Sv}(h:BR w v l):EQ w v l:=Own.row h
theorem BR.lt{w:World}{v:Sv}(h:BR w v l):∀ k∈Ea v,k<w.heap.size:=fun k hk=>(Own.lt h k (ZR.1 hk)).2
theorem BR.keep{w:World}{v:Sv}(h:BR w v l)(hw:∀ k∈Ea v,w'.heap[k]? = w.heap[k]?):BR w' v l:=Own.keep h fun g hg=>hw g (ZR.2 hg)
theorem BR.below{w:World}{v:Sv}(h:BR w v l)(hb:Below w.heap.size w w'):BR w' v l:=h.keep fun k hk=>hb.block k (h.lt k hk)
theorem BR.upd{w:World}{v:Sv}(h:BR w v l)(hu:Aw fs w w')(hd:∀ k∈Ea v,k ∉ fs):BR w' v l:=h.keep fun k hk=>hu.block k (h.lt k hk) (hd k hk)

def qT(w:World)(v:Sv)(l:List ByteArray):Prop:=Row w v.A v.n 1 (l.map ZZ)
def ND(v:Sv):List Nat:=AQ v.A
theorem qT.len{w:World}{v:Sv}{l:List ByteArray}(h:qT w v l):Hid (l.length=v.n):=Row.len h
def Im(w:World)(v:Sv)(l:List ByteArray):Prop:=Own w 0 9 1 v.A v.n v.c (l.map ZZ)
theorem Im.rd{w:World}{v:Sv}{l:List ByteArray}(h:Im w v l):qT w v l:=Own.row h
theorem Im.lt{w:World}{v:Sv}{l:List ByteArray}(h:Im w v l):∀ k∈ND v,k<w.heap.size:=fun k hk=>(Own.lt h k (ZR.1 hk)).2
theorem Im.keep{w:World}{v:Sv}{l:List ByteArray}(h:Im w v l)(hw:∀ k∈ND v,w'.heap[k]? = w.heap[k]?):Im w' v l:=Own.keep h fun g hg=>hw g (ZR.2 hg)
theorem Im.below{w:World}{v:Sv}{l:List ByteArray}(h:Im w v l)(hb:Below w.heap.size w w'):Im w' v l:=h.keep fun k hk=>hb.block k (h.lt k hk)
theorem Im.upd{w:World}{v:Sv}{l:List ByteArray}(h:Im w v l)(hu:Aw fs w w')(hd:∀ k∈ND v,k ∉ fs):Im w' v l:=h.keep fun k hk=>hu.block k (h.lt k hk) (hd k hk)

def RdN(w:World)(v:Sv)(l:List Entry):Prop:=Row w v.A v.n 10 (l.map Entry.cells)
def fpN(v:Sv):List Nat:=AQ v.A
def qU(w:World)(v:Sv)(l:List Entry):Prop:=Own w 0 70 10 v.A v.n v.c (l.map Entry.cells)
theorem qU.rd{w:World}{v:Sv}{l:List Entry}(h:qU w v l):RdN w v l:=Own.row h
def Og(w:World)(v:Sv)(b:Br):Prop:=EQ w v b.Ab
def S7(w:World)(v:Sv)(b:Br):Prop:=BR w v b.Ab
def fpB(v:Sv):List Nat:=AQ v.A
def okB(b:Br):Prop:=F6 b.AU/\okF b.Ab
def qV(b:Br):Nat:=Ib b.Ab
def qW(b:Br):Prop:=El b.Ab
theorem Og.len{w:World}{v:Sv}{b:Br}(h:Og w v b):Hid (b.Ab.length=v.n):=EQ.len h
theorem S7.rd{w:World}{v:Sv}{b:Br}(h:S7 w v b):Og w v b:=BR.rd h
theorem Og.below{w:World}{v:Sv}{b:Br}(h:Og w v b)(hb:Below w.heap.size w w'):Og w' v b:=EQ.below h hb
theorem S7.below{w:World}{v:Sv}{b:Br}(h:S7 w v b)(hb:Below w.heap.size w w'):S7 w' v b:=BR.below h hb
theorem iW(h:Ib l<=4194304):∀ f∈l,f.AL.size<=4194304/\f.Z00.size<=4194304:=Zqo (by unfold Ib at h;unfold Hid;omega)
theorem Z2O(v:Sv)(b:Br)(w:World)(hm:qV b<=4194304)(hok:okB b)(hr:Og w v b):
  Calls Tryz.prog 50 #[Xn b.AU v.A v.n v.c] w fun e w'=>e=QM (Yg b.AU b.Ab)/\Below w.heap.size w w' :=
 YP b.AU v.A v.n v.c b.Ab w (by have:=hr.len.out;unfold qV Ib at hm;omega) hr (iW hm)
section
variable{α:Type}(cnt:α->Nat)(mk:Int->α->α)
end
theorem Zln{α:Type}{c d:α->Nat}(h:∀ x,c x<=d x):∀ l:List α,Y9 c l<=Y9 d l
 |[]=>Zd _
 |x::l=>by have:=Zln h l;have:=h x;simp only[Y9];omega
theorem iX{α:Type}{c:α->Nat}(h:∀ x,1<=c x):∀ l:List α,l.length<=Y9 c l
 |[]=>Zd _
 |x::l=>by have:=iX h l;have:=h x;simp only[Y9,Zt];omega
section
variable{α:Type}{K:World->List Nat->List Value->α->Prop}
end
def Am.num(r:Am):Nat:=1+r.Ab.length
def Am.bulk(r:Am):Nat:=Ib r.Ab+r.Av.size
def Am.ok(r:Am):Prop:=okF r.Ab/\r.Av.size<=maxLen
def Oh(v:Sv)(r:Am):List Value:=[.slice v.A v.n v.c,.string r.Av]
def D8(w:World)(cs:List Value)(r:Am):Prop:=∃ v:Sv,cs=Oh v r/\EQ w v r.Ab/\Zt8 v
theorem D8.below{w:World}{cs:List Value}{r:Am}(h:D8 w cs r)(hb:Below w.heap.size w w'):D8 w' cs r:=by
 obtain⟨v,h1,h2,h3⟩:=h;exact⟨v,h1,h2.below hb,h3⟩
def Chan.num(c:Chan):Nat:=1+(c.queue.length+(c.inbox.length+(c.net.length+c.Ai.length)))
def ER(w:World)(cs:List Value)(c:Chan):Prop:=∃ v:CV,cs=Ql v c.base c.expected/\FI w v c/\qR v
theorem ER.below{w:World}{cs:List Value}{r:Chan}(h:ER w cs r)(hb:Below w.heap.size w w'):ER w' cs r:=by
 obtain⟨v,h1,h2,h3⟩:=h;exact⟨v,h1,h2.below hb,h3⟩
def Zts(l:List Chan):Prop:=∀ c∈l,KA c
def LF(l:List Chan):Nat:=1+Y9 Chan.num l
def NE(l:List Chan):Nat:=l.length+Y9 Xb l
def ES(w:World)(cs:List Value)(l:List Chan):Prop:=∃ v:Sv,cs=[.slice v.A v.n v.c]/\BQ ER w v.A v.n 6 l/\v.n<=maxLen
theorem ES.below{w:World}{cs:List Value}{r:List Chan}(h:ES w cs r)(hb:Below w.heap.size w w'):ES w' cs r:=by
 obtain⟨v,h1,h2,h3⟩:=h;exact⟨v,h1,h2.below (R:=ER) ER.below hb,h3⟩
def S8(w:World)(f:List Nat)(cs:List Value)(r:Am):Prop:=∃ v:Sv,cs=Oh v r/\BR w v r.Ab/\f=Ea v
theorem NF :Loc S8:=⟨fun⟨v,h1,h2,h3⟩ hk=>⟨v,h1,h2.keep (by rw[<- h3];exact hk),h3⟩,fun⟨v,h1,h2,h3⟩ k hk=>h2.lt k (by rw[<- h3];exact hk)⟩
theorem S8.rd{w:World}{cs:List Value}{r:Am}(h:S8 w f cs r):D8 w cs r:=by
 obtain⟨v,h1,h2,_⟩:=h;exact⟨v,h1,h2.rd,by have:=h2.own.nc;unfold Zt8;omega⟩
theorem BM.lens{w:World}{v:CV}{c:Chan}(h:BM w v c):qR v:=⟨by have:=h.q.nc;omega,by have:=h.i.nc;omega,by have:=h.n.nc;omega,by have:=h.a.nc;omega⟩
def S9(w:World)(f:List Nat)(cs:List Value)(c:Chan):Prop:=∃ v:CV,cs=Ql v c.base c.expected/\BM w v c/\f=AP v
theorem VO :Loc S9:=⟨fun⟨v,h1,h2,h3⟩ hk=>⟨v,h1,h2.keep (by rw[<- h3];exact hk),h3⟩,fun⟨v,h1,h2,h3⟩ k hk=>h2.lt k (by rw[<- h3];exact hk)⟩
theorem S9.rd{w:World}{cs:List Value}{r:Chan}(h:S9 w f cs r):ER w cs r:=by
 obtain⟨v,h1,h2,_⟩:=h;exact⟨v,h1,h2.rd,h2.lens⟩
def Sa(w:World)(f:List Nat)(cs:List Value)(l:List Chan):Prop:=∃ v:Sv,cs=[.slice v.A v.n v.c]/\Bt S9 w f 77 6 v.A v.n v.c l
theorem Mo :Loc Sa:=⟨fun⟨v,h1,h2⟩ hk=>⟨v,h1,h2.keep VO hk⟩,fun⟨v,h1,h2⟩ k hk=>h2.lt VO k hk⟩
theorem Bt.nc{α:Type}{K:World->List Nat->List Value->α->Prop}{w:World}{e sz n c:Nat}{A:Option Addr}{l:List α}(h:Bt K w fs e sz A n c l):n<=c/\c<=maxLen:=by
 obtain⟨css,Bb,h1,_⟩:=h;exact h1.nc
theorem Sa.rd{w:World}{cs:List Value}{r:List Chan}(h:Sa w f cs r):ES w cs r:=by
 obtain⟨v,h1,h2⟩:=h;exact⟨v,h1,h2.rd (R:=ER) S9.rd,by have:=h2.nc;omega⟩
theorem Zro{c:Chan}(h:c.num<=4194304):EP c:=by unfold Chan.num at h;unfold EP;omega
structure TV where
 r:Sv
 c:Sv
 fr:List Nat
 fc:List Nat
abbrev QL(v:TV):Value:=.agg #[.slice v.r.A v.r.n v.r.c,.slice v.c.A v.c.n v.c.c]
structure Kc(w:World)(v:TV)(t:Ak):Prop where
 r:BQ D8 w v.r.A v.r.n 2 t.Ad
 c:BQ ES w v.c.A v.c.n 1 t.channels
structure Dt(w:World)(v:TV)(t:Ak):Prop where
 r:Bt S8 w v.fr 51 2 v.r.A v.r.n v.r.c t.Ad
 c:Bt Sa w v.fc 62 1 v.c.A v.c.n v.c.c t.channels
def Cb(v:TV):List Nat:=v.fr++v.fc
theorem Dt.rd{w:World}{v:TV}{t:Ak}(h:Dt w v t):Kc w v t:=⟨h.r.rd (R:=D8) S8.rd,h.c.rd (R:=ES) Sa.rd⟩
theorem Kc.below{w:World}{v:TV}{t:Ak}(h:Kc w v t)(hb:Below w.heap.size w w'):Kc w' v t:=⟨h.r.below (R:=D8) D8.below hb,h.c.below (R:=ES) ES.below hb⟩
theorem Dt.lt{w:World}{v:TV}{t:Ak}(h:Dt w v t):∀ k∈Cb v,k<w.heap.size:=by
 intro k hk;rcases Z9.1 hk with hk|hk
 .exact h.r.lt NF k hk
 .exact h.c.lt Mo k hk
theorem Dt.keep{w:World}{v:TV}{t:Ak}(h:Dt w v t)(hw:∀ k∈Cb v,w'.heap[k]? = w.heap[k]?):Dt w' v t :=
 ⟨h.r.keep NF fun k hk=>hw k (Z9.2 (.inl hk)),h.c.keep Mo fun k hk=>hw k (Z9.2 (.inr hk))⟩
theorem Dt.below{w:World}{v:TV}{t:Ak}(h:Dt w v t)(hb:Below w.heap.size w w'):Dt w' v t:=h.keep fun k hk=>hb.block k (h.lt k hk)
theorem Dt.upd{w:World}{v:TV}{t:Ak}(h:Dt w v t)(hu:Aw fs w w')(hd:∀ k∈Cb v,k ∉ fs):Dt w' v t:=h.keep fun k hk=>hu.block k (h.lt k hk) (hd k hk)
def Mq(t:Ak):Prop:=(∀ r∈t.Ad,r.ok)/\∀ l∈t.channels,Zts l
def FJ(t:Ak):Nat:=Y9 Am.num t.Ad+Y9 LF t.channels
def Xk(t:Ak):Nat:=(t.Ad.length+Y9 Am.bulk t.Ad)+(t.channels.length+Y9 NE t.channels)
def LG(t:Ak):Prop:=FJ t<=4194304
theorem qX:∀ l:List Am,Y9 Am.num l<=l.length+Y9 Am.bulk l
 |[]=>Zd _
 |r::l=>by have:=qX l;simp only[Y9,Am.num,Am.bulk,Ib,Zt];omega
theorem ZnA:∀ l:List Chan,Y9 Chan.num l<=l.length+Y9 Xb l
 |[]=>Zd _
 |r::l=>by have:=ZnA l;simp only[Y9,Chan.num,Xb,Zt];omega
theorem qY:∀ l:List (List Chan),Y9 LF l<=l.length+Y9 NE l
 |[]=>Zd _
 |r::l=>by have:=qY l;have:=ZnA r;simp only[Y9,LF,NE,Zt];omega
theorem qZ{t:Ak}(h:Xk t<=4194304):LG t:=by
 have:=qX t.Ad;have:=qY t.channels;unfold Xk at h;unfold LG FJ;omega
theorem Bt.push{α:Type}{K:World->List Nat->List Value->α->Prop}(hK:Loc K){e sz n c:Nat}{w1:World}{A:Option Addr}{l:List α}{cs:List Value}{x:α} 
  (h:Bt K w1 fs e sz A n c l) (hf:Ag B w1 fs) (hk:K w1 f cs x) (Gf:Ag B w1 f) (hap:∀ q∈fs,q ∉ f) (hB:B<=w1.heap.size):
  ∃ css,Own w1 0 e sz A n c css/\∀ w2 A' c',Own w2 0 e sz A' (n+1) c' (css++[cs])->w1.grownBy w2 (ob A)->(ob A'=ob A∨ob A'=some w1.heap.size)->
   ∃ fs',Bt K w2 fs' e sz A' (n+1) c' (l++[x])/\Ag B w2 fs':=by
 obtain⟨css,Bb,h1,h2,rfl⟩:=h;refine⟨css,h1,fun w2 A' c' ho hg hat=>?_⟩;obtain⟨nA,nF,nd⟩:=ZA.1 hf.nodup;have hl2:=h2.iP hK
 have kp:∀ q,q∈Bb.flatten∨q∈f->w2.heap[q]? = w1.heap[q]?:=by
  intro q hq;refine hg.block q (by rcases hq with hq|hq;exact hl2 q hq;exact Gf.hi q hq) (fun e=>?_);have ha:=ZR.2 e.symm;rcases hq with hq|hq
  .exact nd q ha q hq rfl
  .exact hap q (Z9.2 (.inl ha)) hq
 have hE:Each (K w2) (Bb++[f]) (css++[cs]) (l++[x]):=(h2.Kb hK fun q hq=>kp q (.inl hq)).append (Each.one (hK.keep hk fun q hq=>kp q (.inr hq)));refine⟨AQ A'++(Bb++[f]).flatten,⟨css++[cs],Bb++[f],ho,hE,rfl⟩,?_⟩;have Gb:(Bb++[f]).flatten=Bb.flatten++f:=by simp
 rw[Gb];have hlt2:=hg.size
 have dA:∀ q∈AQ A',q ∉ Bb.flatten++f/\B<=q/\q<w2.heap.size:=by
  intro q hq;have hq2:=ZR.1 hq;have LH:=(ho.lt q hq2).2;rcases hat with hat|hat
  .rw[hat]at hq2;have ha:=ZR.2 hq2;refine⟨fun hm=>?_,hf.lo q (Z9.2 (.inl ha)),LH⟩;rcases Z9.1 hm with hm|hm
   .exact nd q ha q hm rfl
   .exact hap q (Z9.2 (.inl ha)) hm
  .rw[hat]at hq2;have e:=Option.some.inj hq2;refine⟨fun hm=>?_,o_,LH⟩;rcases Z9.1 hm with hm|hm
   .have:=hl2 q hm;omega
   .have:=Gf.hi q hm;omega
 refine⟨?_,?_,?_⟩
 .refine ZA.2 ⟨by unfold AQ;cases ob A'<;>simp,ZA.2 ⟨nF,Gf.nodup,fun a ha b hb e=>?_⟩,fun a ha b hb e=>(dA a ha).1 (e▸hb)⟩;subst e;exact hap a (Z9.2 (.inr ha)) hb
 .intro q hq;rcases Z9.1 hq with hq|hq
  .exact(dA q hq).2.1
  .rcases Z9.1 hq with hq|hq
   .exact hf.lo q (Z9.2 (.inr hq))
   .exact Gf.lo q hq
 .intro q hq;rcases Z9.1 hq with hq|hq
  .exact(dA q hq).2.2
  .rcases Z9.1 hq with hq|hq
   .have:=hl2 q hq;omega
   .have:=Gf.hi q hq;omega
theorem Each.GX{α:Type}{K K':List Nat->List Value->α->Prop}:∀ {Bb:List (List Nat)} {css:List (List Value)} {l:List α} {i:Nat} {f':List Nat} {cs':List Value} {x':α},Each K Bb css l->K' f' cs' x' ->
  (∀ (j:Nat) (f2:List Nat) (cs2:List Value) (x2:α),j≠i->Bb[j]? = some f2->css[j]? = some cs2->l[j]? = some x2->K f2 cs2 x2->K' f2 cs2 x2)->Each K' (Bb.set i f') (css.set i cs') (l.set i x')
 |[],[],[],i,f',cs',x',_,_,_=>trivial
 |a::r,c::cr,y::lr,0,f',cs',x',he,hk',hall =>
  ⟨hk',he.2.imp fun j f2 cs2 x2 h1 h2 h3 h4=>hall (j+1) f2 cs2 x2 o_ (by simpa using h1) (by simpa using h2) (by simpa using h3) h4⟩
 |a::r,c::cr,y::lr,i+1,f',cs',x',he,hk',hall =>
  ⟨hall 0 a c y o_ rfl rfl rfl he.1,Each.GX he.2 hk' fun j f2 cs2 x2 hne h1 h2 h3 h4=>hall (j+1) f2 cs2 x2 o_ (by simpa using h1) (by simpa using h2) (by simpa using h3) h4⟩
theorem J9:∀ {Bb:List (List Nat)} {i:Nat} {f':List Nat} {q:Nat},q∈(Bb.set i f').flatten->q∈f'∨∃ j g,j≠i/\Bb[j]? = some g/\q∈g
 |[],i,f',q,h=>by simp at h
 |a::r,0,f',q,h=>by
  rw[List.set_cons_zero,ZL]at h
  rcases Z9.1 h with h|h
  .exact .inl h
  .obtain⟨g,hg,hq⟩:=List.mem_flatten.1 h
   obtain⟨j,hj,rfl⟩:=List.mem_iff_getElem.1 hg
   exact .inr ⟨j+1,_,o_,s_,hq⟩
 |a::r,i+1,f',q,h=>by
  rw[List.set_cons_succ,ZL]at h
  rcases Z9.1 h with h|h
  .exact .inr ⟨0,a,o_,rfl,h⟩
  .rcases J9 h with h |⟨j,g,hne,hg,hq⟩
   .exact .inl h
   .exact .inr ⟨j+1,g,o_,by simpa using hg,hq⟩
theorem rA:∀ {Bb:List (List Nat)} {i:Nat} {f f':List Nat},Bb.flatten.Nodup->Bb[i]? = some f->f'.Nodup->(∀ q∈f',q∈f∨q ∉ Bb.flatten)->(Bb.set i f').flatten.Nodup
 |a::r,0,f,f',hn,hf,hd,hq=>by
  simp only[List.getElem?_cons_zero,Zi]at hf;subst hf
  rw[ZL]at hn
  obtain⟨n1,n2,n3⟩:=ZA.1 hn
  rw[List.set_cons_zero,ZL]
  refine ZA.2 ⟨hd,n2,fun x hx y hy e=>?_⟩
  subst e
  rcases hq x hx with h|h
  .exact n3 x h x hy rfl
  .exact h (by rw[ZL];exact Z9.2 (.inr hy))
 |a::r,i+1,f,f',hn,hf,hd,hq=>by
  simp only[List.getElem?_cons_succ]at hf
  rw[ZL]at hn
  obtain⟨n1,n2,n3⟩:=ZA.1 hn
  rw[List.set_cons_succ,ZL]
  have ih:=rA n2 hf hd fun q hqm=>by
   rcases hq q hqm with h|h
   .exact .inl h
   .exact .inr fun hm=>h (by rw[ZL];exact Z9.2 (.inr hm))
  refine ZA.2 ⟨n1,ih,fun x hx y hy e=>?_⟩
  subst e
  rcases J9 hy with h |⟨j,g,_,hg,hxg⟩
  .rcases hq x h with h2|h2
   .exact n3 x hx x (Qg hf h2) rfl
   .exact h2 (by rw[ZL];exact Z9.2 (.inl hx))
  .exact n3 x hx x (Qg hg hxg) rfl
theorem Zoa{α:Type}{K:World->List Nat->List Value->α->Prop}(hK:Loc K){w:World}{e sz n c:Nat}{A:Option Addr}{l:List α}(h:Bt K w fs e sz A n c l)(hfr:Ag B w fs)(hB:B<=w.heap.size){i:Nat}{x:α}(hx:l[i]? = some x):
  ∃ css f cs g,Own w 0 e sz A n c css/\css[i]? = some cs/\K w f cs x/\A=some ⟨g,0,none⟩/\g ∉ f/\B<=g/\g<w.heap.size/\(∀ k∈f,B<=k/\k<w.heap.size)/\f.Nodup /\
   (∀ w' cs' x' f',Own w' 0 e sz A n c (css.set i cs')->K w' f' cs' x'->Aw (g::f) w w'->f'.Nodup->(∀ q∈f',q∈f∨w.heap.size<=q)->∃ fs',Bt K w' fs' e sz A n c (l.set i x')/\Ag B w' fs'):=by
 have hlt:=h.lt hK;obtain⟨css,Bb,h1,h2,rfl⟩:=h;obtain⟨f,cs,hf,hcs,hk⟩:=h2.at_ hx;obtain⟨hno,hnf,hna⟩:=ZA.1 hfr.nodup;rcases h1.cases with⟨_,_,_,rfl⟩|⟨g,rfl,_,hgl,_⟩
 .simp at hcs
 .have hgo:g∈AQ (some ⟨g,0,none⟩):=by simp[AQ,ob]
  have hgf:g ∉ Bb.flatten:=fun hm=>hna g hgo g hm rfl
  have hin:∀ k∈f,k∈AQ (some ⟨g,0,none⟩)++Bb.flatten:=fun k hk=>Z9.2 (.inr (Qg hf hk))
  refine⟨css,f,cs,g,h1,hcs,hk,rfl,fun hm=>hgf (Qg hf hm),hfr.lo g (Z9.2 (.inl hgo)),hgl,fun k hk=>⟨hfr.lo k (hin k hk),hlt k (hin k hk)⟩,qN hnf (List.mem_of_getElem? hf),fun w' cs' x' f' ho hk' hu hd hq=>?_⟩;have hold:∀ q∈Bb.flatten,q<w.heap.size:=fun q hm=>hlt q (Z9.2 (.inr hm))
  have hE:Each (K w') (Bb.set i f') (css.set i cs') (l.set i x'):=h2.GX hk' fun j f2 cs2 x2 hne h3 _ _ hk2=>by
   refine hK.keep hk2 fun k Mm=>hu.block k (hK.lt hk2 k Mm) ?_
   simp only[List.mem_cons,not_or];exact⟨fun e=>hgf (by rw[<- e];exact Qg h3 Mm),iO hnf h3 hf hne k Mm⟩
  have hmem:∀ q∈(Bb.set i f').flatten,q∈Bb.flatten∨(w.heap.size<=q/\q∈f'):=fun q hm=>by
   rcases J9 hm with h |⟨j,g2,_,hg2,hq2⟩
   .rcases hq q h with h2|h2
    .exact .inl (Qg hf h2)
    .exact .inr ⟨h2,h⟩
   .exact .inl (Qg hg2 hq2)
  have rC:=hE.iP hK;refine⟨AQ (some ⟨g,0,none⟩)++(Bb.set i f').flatten,⟨css.set i cs',Bb.set i f',ho,hE,rfl⟩,?_,?_,?_⟩
  .refine ZA.2 ⟨hno,rA hnf hf hd fun q hqm=>?_,fun a ha b hb e=>?_⟩
   .rcases hq q hqm with h2|h2
    .exact .inl h2
    .exact .inr fun hm=>by have:=hold q hm;omega
   .subst e;simp[AQ,ob]at ha;subst ha;rcases hmem a hb with h2|h2
    .exact hgf h2
    .omega
  .intro q hm;rcases Z9.1 hm with hm|hm
   .exact hfr.lo q (Z9.2 (.inl hm))
   .rcases hmem q hm with h2|h2
    .exact hfr.lo q (Z9.2 (.inr h2))
    .omega
  .intro q hm;rcases Z9.1 hm with hm|hm
   .simp[AQ,ob]at hm;have:=hu.size;omega
   .exact rC q hm
theorem Bt.CQ{α:Type}{K:World->List Nat->List Value->α->Prop}{w:World}{e sz n c:Nat}{A:Option Addr}{l:List α}(h:Bt K w fs e sz A n c l):∀ q∈AQ A,q∈fs:=by
 obtain⟨css,Bb,_,_,rfl⟩:=h;exact fun q hq=>Z9.2 (.inl hq)
theorem ZcC{P:Program}(w:World)(t e:TypeId)(i:TypeInfo)(z:Value)(zs:List Value)(sz bytes:Nat)(h1:P.underlying t=some (.slice e))(h2:P.info? e=some i)(h3:i.zero=some z)(h4:i.size=sz)(h5:i.bytes=bytes)(hzs:z.cells=zs.toArray)(n:Nat)(b2:bytes*n<=281474976710656)(b3:n<=maxLen):
  (Instr.makeSlice t (.int .i64 (n:Int)) (.int .i64 (n:Int))).run P w=.ok (.slice (some ⟨w.heap.size,0,none⟩) n n) (w.alloc (.cells (madeCells zs.toArray (n*sz)) e)):=by
 have h63':(n:Int)<=9223372036854775807:=by
  have h:=b3;simp[maxLen]at h;omega
 have hb':(i.bytes:Int)*(n:Int)<=281474976710656:=by
  have h:((i.bytes*n:Nat):Int)<=281474976710656:=by rw[h5];omega
  rwa [Int.natCast_mul]at h
 have hr:=run_make (P:=P) w t e i z h1 h2 h3 .i64 .i64 n n o_ (Int.le_refl _) hb' h63';simp only[Int.toNat_natCast,h4,hzs]at hr;exact hr
theorem Own.lit(w:World)(e n sz:Nat)(zs:List Value){MC:Array Value}(hB:B<=w.heap.size)(hM:MC=madeCells zs.toArray (n*sz))(hzl:zs.length=sz)(hs:0<sz)(b3:n<=maxLen):Own (w.alloc (.cells MC e)) B e sz (some ⟨w.heap.size,0,none⟩) n n (List.replicate n zs):=by
 subst hM;have r1:=World.ownsRow_lit w (e:=e) (size:=sz) (madeCells zs.toArray (n*sz)) n hB b3 (size_madeCells _ _);refine⟨?_,s_,fun cs hcs=>by rw[List.eq_of_mem_replicate hcs,hzl]⟩;rw[<- qD zs n sz hzl hs];exact r1
theorem QB{w:World}{e sz n c g k:Nat}{css:List (List Value)}{cs:List Value}(h:Own w B e sz (some ⟨g,0,none⟩) n c css)(hcs:css[k]? = some cs):∀ (j:Nat) (u:Value),cs[j]? = some u->w.cell? ⟨g,k*sz+j,none⟩=some u:=by
 intro j u hu;obtain⟨g',off',hA,hc⟩:=h.row.2 k cs hcs;simp only[Zi,Addr.mk.injEq,and_true]at hA;obtain⟨rfl,rfl⟩:=hA;simpa using hc j u hu
theorem iY{α:Type}{w:World}{A:Option Addr}{n sz:Nat}{l:List α}{c:α->List Value}(h:Row w A n sz (l.map c)){k:Nat}(hk:k<=n):Row w A k sz ((l.take k).map c):=by
 have hl:l.length=n:=h.len;refine⟨AR,fun i cs hi=>?_⟩;rw[List.map_take]at hi
 have hik:i<k:=by
  have:=(Za.1 hi).1;simp at this;omega
 rw[List.getElem?_take,if_pos hik]at hi;exact h.2 i cs hi
end Go.Proofs.YtcnbphnnfmphlaaGreatDoor
