/- Texts of this proof. -/
import Derived.Test.YtcnbphnnfmphlaaGreatDoorGtm29
namespace Go.Proofs.YtcnbphnnfmphlaaGreatDoor
open Bool renaming exists_bool → Z3,and_eq_true → Zc
open _root_.List renaming getElem?_eq_getElem → Z4,mem_of_getElem? → Z6,getElem?_eq_some_iff → Za,replicate → Zk,mem_cons → Zn,take_of_length_le → Zp,all_eq_true → Zu,length_take → ZC,getElem?_map → ZH,getElem_of_mem → ZM
open Nat renaming le_refl → Zd,lt_of_lt_of_le → Zf,le_trans → Zj,zero_le → Zs
open Option.some renaming inj → Z7,injEq → Zi
open Go.Proofs.Tryz
open Go.RowKit
set_option linter.unusedVariables false
set_option linter.unusedSimpArgs false
set_option maxHeartbeats 4000000
set_option maxRecDepth 100000
variable{σ:AS}{ns:Bool}{f:FuncId}{z:Int}{ds raw:List AV}{L:List ByteArray}{l p:List Int}{r2:Nat}{U:Nat->Prop}{w':World}
section
variable{P:Program}
theorem Zds{o:Oper}{st:Nat}{K:Eff->Prop}(h:Lh P o st σ K):∃ e,K e/\∀ K':Eff->Prop,K' e->Lh P o st σ K':=by
 unfold Lh at h ⊢;split at h
 .obtain⟨h1,⟨r,fz,h2,h3⟩|⟨ln,bs,ns,r,h2,h3⟩⟩:=h
  .exact⟨_,h3,fun K' hk=>⟨h1,.inl ⟨r,fz,h2,hk⟩⟩⟩
  .exact⟨_,h3,fun K' hk=>⟨h1,.inr ⟨ln,bs,ns,r,h2,hk⟩⟩⟩
 .split at h
  .exact⟨_,h.2,fun K' hk=>⟨h.1,hk⟩⟩
  .exact h.elim
theorem ZbT(ops:Array Oper)(clk:Nat):∀ (l:List Oper) (i:Nat) (σ:AS) (K:AS->Prop),IR P ops clk i l σ K->∃ σ',K σ'/\∀ K':AS->Prop,K' σ'->IR P ops clk i l σ K'
 |[],i,σ,K,h=>⟨σ,h,fun K' hk=>hk⟩
 |o::l,i,σ,K,h=>by
  simp only[IR]at h ⊢
  split at h
  .obtain⟨e,h1,h2⟩:=Zds h
   obtain⟨σ',h3,h4⟩:=ZbT ops clk l (i+1) _ K h1
   exact⟨σ',h3,fun K' hk=>h2 _ (h4 K' hk)⟩
  .exact ZbT ops clk l (i+1) _ K h
  .exact h.elim
theorem ZbU(ops:Array Oper)(clk:Nat):∀ (l:List Oper) (i:Nat) (σ:AS) (acc:List De) (K:List De->AS->Prop),IU P ops clk i l σ acc K->∃ ms σ',K ms σ'/\∀ K':List De->AS->Prop,K' ms σ'->IU P ops clk i l σ acc K'
 |[],i,σ,acc,K,h=>⟨acc,σ,h,fun K' hk=>hk⟩
 |o::l,i,σ,acc,K,h=>by
  simp only[IU]at h ⊢
  split at h
  .obtain⟨e,h1,h2⟩:=Zds h
   obtain⟨ms,σ',h3,h4⟩:=ZbU ops clk l (i+1) _ _ K h1
   exact⟨ms,σ',h3,fun K' hk=>h2 _ (h4 K' hk)⟩
  .exact ZbU ops clk l (i+1) _ _ K h
  .exact h.elim
open Classical in
theorem ZdD{B:(Exit->AS->Prop)->AS->Prop}{Q:Exit->AS->Prop}(hB:∀ (Q:Exit->AS->Prop) σ,B Q σ->∃ e σ',Q e σ'/\∀ Q':Exit->AS->Prop,Q' e σ'->B Q' σ)(I:AS->Prop)(μ:AS->Nat)(hI:∀ σ',I σ'->B (M5 (fun Rw=>I Rw/\μ Rw<μ σ') Q) σ'):∀ (n:Nat) (σ:AS),μ σ<n->I σ->∃ e σ',Q e σ'/\∀ Q':Exit->AS->Prop,Q' e σ'->ZrS B Q' σ
 |0,σ,h,_=>by omega
 |n+1,σ,hn,hσ=>by
  obtain⟨e1,σ1,h1,h2⟩:=hB _ σ (hI σ hσ)
  by_cases he:e1=.normal
  .subst he
   obtain⟨N9,hlt⟩:=h1
   obtain⟨e,σ',h3,h4⟩:=ZdD hB I μ hI n σ1 o_ N9
   refine⟨e,σ',h3,fun Q' hk=>?_⟩
   obtain⟨I',μ',q1,q2⟩:=h4 Q' hk
   by_cases hin:I' σ
   .exact⟨I',μ',hin,q2⟩
   .refine⟨fun x=>x=σ∨I' x,fun x=>if x=σ then μ' σ1+1 else μ' x,.inl rfl,fun x hx=>?_⟩
    have hne:∀ y,I' y->y≠σ:=fun y hy e=>hin (e▸hy)
    rcases hx with rfl|hx
    .refine h2 _ ?_
     show(σ1=x∨I' σ1)/\(if σ1=x then μ' σ1+1 else μ' σ1)<(if x=x then μ' σ1+1 else μ' x)
     rw[if_neg (hne σ1 q1),if_pos rfl]
     exact⟨.inr q1,o_⟩
    .obtain⟨e2,σ2,r1,r2⟩:=hB _ x (q2 x hx)
     refine r2 _ ?_
     cases e2 with
     |normal =>
      obtain⟨s1,s2⟩:=r1
      show(σ2=σ∨I' σ2)/\(if σ2=σ then μ' σ1+1 else μ' σ2)<(if x=σ then μ' σ1+1 else μ' x)
      rw[if_neg (hne σ2 s1),if_neg (hne x hx)]
      exact⟨.inr s1,s2⟩
     |_=>exact r1
  .have hq:Q e1 σ1:=by cases e1<;>first|exact absurd rfl he|exact h1
   refine⟨e1,σ1,hq,fun Q' hk=>⟨fun x=>x=σ,fun _=>0,rfl,fun x hx=>?_⟩⟩
   subst hx
   refine h2 _ ?_
   cases e1<;>first|exact absurd rfl he|exact hk
open Classical in
theorem ZdE{B:(Exit->AS->Prop)->AS->Prop}{Q:Exit->AS->Prop}(hB:∀ (Q:Exit->AS->Prop) σ,B Q σ->∃ e σ',Q e σ'/\∀ Q':Exit->AS->Prop,Q' e σ'->B Q' σ)(I:AS->Prop)(μ:AS->Nat)(hI:∀ σ',I σ'->B (M5 (I5 I μ (μ σ')) Q) σ'):∀ (n:Nat) (σ:AS),μ σ<n->I σ->∃ e σ',Q e σ'/\∀ Q':Exit->AS->Prop,Q' e σ'->ZrT B Q' σ
 |0,σ,h,_=>by omega
 |n+1,σ,hn,hσ=>by
  obtain⟨e1,σ1,h1,h2⟩:=hB _ σ (hI σ hσ)
  by_cases he:e1=.normal
  .subst he
   obtain⟨O9,hw,N9,hlt⟩:=h1
   obtain⟨e,σ',h3,h4⟩:=ZdE hB I μ hI n O9 o_ N9
   refine⟨e,σ',h3,fun Q' hk=>?_⟩
   obtain⟨I',μ',q1,q2⟩:=h4 Q' hk
   by_cases hin:I' σ
   .exact⟨I',μ',hin,q2⟩
   .refine⟨fun x=>x=σ∨I' x,fun x=>if x=σ then μ' O9+1 else μ' x,.inl rfl,fun x hx=>?_⟩
    have hne:∀ y,I' y->y≠σ:=fun y hy e=>hin (e▸hy)
    rcases hx with rfl|hx
    .refine h2 _ ⟨O9,hw,.inr q1,?_⟩
     show(if O9=x then μ' O9+1 else μ' O9)<(if x=x then μ' O9+1 else μ' x)
     rw[if_neg (hne O9 q1),if_pos rfl]
     omega
    .obtain⟨e2,σ2,r1,r2⟩:=hB _ x (q2 x hx)
     refine r2 _ ?_
     cases e2 with
     |normal =>
      obtain⟨nS,hw2,s1,s2⟩:=r1
      refine⟨nS,hw2,.inr s1,?_⟩
      show(if nS=σ then μ' O9+1 else μ' nS)<(if x=σ then μ' O9+1 else μ' x)
      rw[if_neg (hne nS s1),if_neg (hne x hx)]
      exact s2
     |_=>exact r1
  .have hq:Q e1 σ1:=by cases e1<;>first|exact absurd rfl he|exact h1
   refine⟨e1,σ1,hq,fun Q' hk=>⟨fun x=>x=σ,fun _=>0,rfl,fun x hx=>?_⟩⟩
   subst hx
   refine h2 _ ?_
   cases e1<;>first|exact absurd rfl he|exact hk
theorem ZdK :∀ (c:Code) (Q:Exit->AS->Prop) (σ:AS),QR P c Q σ->∃ e σ',Q e σ'/\∀ Q':Exit->AS->Prop,Q' e σ'->QR P c Q' σ:=by
 intro c;induction c with
 |skip=>intro Q σ h;exact⟨_,σ,h,fun Q' hk=>hk⟩
 |label l=>intro Q σ h;exact⟨_,σ,h,fun Q' hk=>hk⟩
 |exit id=>intro Q σ h;exact⟨_,σ,h,fun Q' hk=>hk⟩
 |ret=>intro Q σ h;exact⟨_,σ,h,fun Q' hk=>hk⟩
 |goto l=>intro Q σ h;exact h.elim
 |refuse s=>intro Q σ h;exact h.elim
 |scope c ih=>intro Q σ h;exact h.elim
 |rangeFunc f ps x y ih1 ih2=>intro Q σ h;exact h.elim
 |region id ops draw =>
  intro Q σ h;cases draw with
  |false =>
   obtain⟨σ',h1,h2⟩:=ZbT ops σ.clk ops.toList 0 σ _ h;exact⟨_,_,h1,fun Q' hk=>h2 _ hk⟩
  |true =>
   obtain⟨ms,σ',⟨h1,h2⟩,h3⟩:=ZbU ops σ.clk ops.toList 0 σ [] _ h;exact⟨_,_,h2,fun Q' hk=>h3 _ ⟨h1,hk⟩⟩
 |seq x y TP TQ =>
  intro Q σ h;obtain⟨e1,σ1,h1,h2⟩:=TP _ σ h;by_cases he:e1=.normal
  .subst he;obtain⟨e,σ',h3,h4⟩:=TQ Q σ1 h1;exact⟨e,σ',h3,fun Q' hk=>h2 _ (h4 Q' hk)⟩
  .refine⟨e1,σ1,?_,fun Q' hk=>h2 _ ?_⟩
   .cases e1<;>first|exact absurd rfl he|exact h1
   .cases e1<;>first|exact absurd rfl he|exact hk
 |cond c x y TP TQ =>
  intro Q σ h;simp only[QR]at h ⊢;split at h
  .rename_i b hc;cases b with
   |true =>
    obtain⟨e,σ',h3,h4⟩:=TP Q σ (h.1 rfl);exact⟨e,σ',h3,fun Q' hk=>⟨fun _=>h4 Q' hk,fun hh=>by cases hh⟩⟩
   |false =>
    obtain⟨e,σ',h3,h4⟩:=TQ Q σ (h.2 rfl);exact⟨e,σ',h3,fun Q' hk=>⟨fun hh=>(by cases hh),fun _=>h4 Q' hk⟩⟩
  .exact h.elim
 |block id c ih =>
  intro Q σ h;obtain⟨e1,σ1,h1,h2⟩:=ih _ σ h;cases e1 with
  |exit id' =>
   simp only[Ju]at h1;by_cases hid:id'=id
   .rw[if_pos hid]at h1;exact⟨_,σ1,h1,fun Q' hk=>h2 _ (by simp only[Ju];rw[if_pos hid];exact hk)⟩
   .rw[if_neg hid]at h1;exact⟨_,σ1,h1,fun Q' hk=>h2 _ (by simp only[Ju];rw[if_neg hid];exact hk)⟩
  |_=>exact⟨_,σ1,h1,fun Q' hk=>h2 _ hk⟩
 |loop c ih =>
  intro Q σ h;rcases h with⟨I,μ,hI,hr⟩|⟨σ1,hw,I,μ,hI,hr⟩
  .obtain⟨e,σ',h1,h2⟩:=ZdD ih I μ hr (μ σ+1) σ o_ hI;exact⟨e,σ',h1,fun Q' hk=>.inl (h2 Q' hk)⟩
  .obtain⟨e,σ',h1,h2⟩:=ZdE ih I μ hr (μ σ1+1) σ1 o_ hI;exact⟨e,σ',h1,fun Q' hk=>.inr ⟨σ1,hw,h2 Q' hk⟩⟩
def AF(P:Program)(f:FuncId)(ds:List AV)(post:AV->Prop):Prop:=∃ r,post r/\Spec P f ds r
def I6(P:Program)(BK:List ResultVar)(post:AV->Prop)(σ:AS):Prop:=match Ry P σ BK with
 |some (p,l)=>p/\∃ r C6,eO σ.box C6 l r/\GG r=true/\post r
 |none=>False
def nT(P:Program)(BK:List ResultVar)(post:AV->Prop):Exit->AS->Prop
 |.normal,σ=>I6 P BK post σ
 |.ret,σ=>I6 P BK post σ
 |_,_=>False
theorem ZsC(σ:AS)(BK:List ResultVar)(post:AV->Prop):nT P BK post .ret (act σ)=I6 P BK post σ:=rfl
theorem Zrv(σ:AS)(BK:List ResultVar)(post:AV->Prop):nT P BK post .normal (act σ)=I6 P BK post σ:=rfl
theorem Zgt{BK:List ResultVar}{post:AV->Prop}(h:I6 P BK post σ):∃ r,GG r=true/\post r/\Nf P BK r σ:=by
 unfold I6 at h;split at h
 .rename_i p l hr;obtain⟨hp,r,C6,h1,h2,h3⟩:=h;refine⟨r,h2,h3,?_⟩;unfold Nf;rw[hr];exact⟨hp,C6,h1⟩
 .exact h.elim
theorem Zr{BK:List ResultVar}{post:AV->Prop}{r:AV}(h:Nf P BK r σ)(hok:GG r=true)(hp:post r):I6 P BK post σ:=by
 unfold Nf at h;unfold I6;split at h
 .rename_i p l hr;obtain⟨q1,C6,q2⟩:=h;rw[hr];exact⟨q1,r,C6,q2,hok,hp⟩
 .exact h.elim
theorem Z1n {fn : Func} {c: Code} {n: Nat} {post : AV → Prop} (hm : P.follows .mixedOrders = true) (hf : P.funcs[f]? = some fn) (hb : fn.body = some c) (hname : (fn.name == "runtime.NumGoroutine") = false) (hn : fn.ntmps = n) {BK : Array ResultVar} (Lj : fn.results = BK) (hbody : Jc n c = true) (hds : decide (ds.length ≤ n) = true) (Ku : ds.all O0 = true) 
  (h:QR P c (nT P BK.toList post) (act (σ0 ds n))):AF P f ds post:=by
 obtain⟨e,σ',h1,h2⟩:=ZdK _ _ _ h
 have key:∃ r,GG r=true/\post r/\Vn P BK.toList r e σ':=by
  cases e with
  |normal=>obtain⟨r,q1,q2,q3⟩:=Zgt h1;exact⟨r,q1,q2,q3⟩
  |ret=>obtain⟨r,q1,q2,q3⟩:=Zgt h1;exact⟨r,q1,q2,q3⟩
  |_=>exact h1.elim
 obtain⟨r,q1,q2,q3⟩:=key;exact⟨r,q2,Qu hm hf hb hname hn Lj hbody hds Ku q1 (h2 _ q3)⟩
theorem Ztm{r:AV}(h:Spec P f ds r){post:AV->Prop}(hp:post r):AF P f ds post:=⟨r,hp,h⟩
theorem AF.le{ds':List AV}{post:AV->Prop}(h:AF P f ds post)(hle:M7 ds' ds):AF P f ds' post:=by
 obtain⟨r,h1,h2⟩:=h;exact⟨r,h1,h2.le hle⟩
theorem Zl0{args:List Nat->List AV}{mk:List Nat->AV->Eff}{Cu:List Nat->List (List (List AV))->AV->Eff}{box:Nat->Option AY}{K:Eff->Prop}{post:AV->Prop}(fz:List Nat)(h:AF P f ds post)(hle:M7 (args fz) ds)(k:∀ r,post r->K (mk fz r)):Cx P f args mk Cu raw box K:=by
 obtain⟨r,h1,h2⟩:=h;exact .inl ⟨r,fz,h2.le hle,k r h1⟩
theorem ZaC{args:List Nat->List AV}{mk:List Nat->AV->Eff}{Cu:List Nat->List (List (List AV))->AV->Eff}{box:Nat->Option AY}{K:Eff->Prop}{bs:List BL}{r:AV}{ns:List (List (List AV))}(ln:List Nat)(h:HY P f ds bs r ns)(hds:raw.map (Ld ln box)=ds)(hne:ln≠[])(hnd:Rs ln=true)(hbx:Na box ln bs)(ha:∀ d∈raw,Ru ln d)(hin:∀ id∈ln,∃ st,AV.vw id st∈raw)(k:K (Cu ln ns r)):Cx P f args mk Cu raw box K:=.inr ⟨ln,bs,ns,r,⟨hds▸h,hne,hnd,hbx,ha,hin⟩,k⟩
def FE(P:Program)(f:FuncId)(ds:List AV)(bs:List BL)(post:AV->List (List (List AV))->Prop):Prop:=∃ r ns,post r ns/\HY P f ds bs r ns
theorem ZeX{args:List Nat->List AV}{mk:List Nat->AV->Eff}{Cu:List Nat->List (List (List AV))->AV->Eff}{box:Nat->Option AY}{K:Eff->Prop}{bs:List BL}{post:AV->List (List (List AV))->Prop}(ln:List Nat)(h:FE P f ds bs post)(hds:raw.map (Ld ln box)=ds)(hne:ln≠[])(hnd:Rs ln=true)(hbx:Na box ln bs)(ha:∀ d∈raw,Ru ln d)(hin:∀ id∈ln,∃ st,AV.vw id st∈raw)(k:∀ r ns,post r ns->K (Cu ln ns r)):Cx P f args mk Cu raw box K:=by
 obtain⟨r,ns,h1,h2⟩:=h;exact ZaC ln h2 hds hne hnd hbx ha hin (k r ns h1)
def σL(ds:List AV)(bs:List BL)(n:Nat):AS:=⟨fun t=>ds.getD t .und,Ij bs,1,n⟩
def nU(box:Nat->Option AY):Nat->List BL->List (List (List AV))->Prop
 |_,[],[]=>True
 |k,x::l,n::ns=>box (LB+k)=some ⟨x.1,x.2.1,0,n,true⟩/\nU box (k+1) l ns
 |_,_,_=>False
theorem ZcR{box:Nat->Option AY}:∀ {k:Nat} {bs:List BL} {ns:List (List (List AV))},nU box k bs ns->∀ (j:Nat) x,(M0 bs ns)[j]? = some x->box (LB+k+j)=some ⟨x.1,x.2.1,0,x.2.2,true⟩
 |k,[],[],_,j,x,h=>by simp[M0]at h
 |k,y::l,n::ns,h,j,x,hx=>by
  cases j with
  |zero=>simp[M0]at hx;subst hx;exact h.1
  |succ j =>
   have:=ZcR h.2 j x (by simpa [M0]using hx)
   rw[show LB+(k+1)+j=LB+k+(j+1)by omega]at this
   exact this
 |_,[],_::_,h,_,_,_=>h.elim
 |_,_::_,[],h,_,_,_=>h.elim
def eY:List AV->AV->Prop
 |[],.tup []=>True
 |[d],r=>d=r/\EL d=true
 |_,_=>False
def Ll(P:Program)(BK:List ResultVar)(bs:List BL)(r:AV)(ns:List (List (List AV)))(σ:AS):Prop:=match Ry P σ BK with
 |some (p,l)=>p/\eY l r/\nU σ.box 0 bs ns
 |none=>False
def ZpY(P:Program)(BK:List ResultVar)(bs:List BL)(post:AV->List (List (List AV))->Prop):Exit->AS->Prop
 |.normal,σ=>∃ r ns,Ll P BK bs r ns σ/\Kq bs ns=true/\post r ns
 |.ret,σ=>∃ r ns,Ll P BK bs r ns σ/\Kq bs ns=true/\post r ns
 |_,_=>False
def ZrW(P:Program)(BK:List ResultVar)(bs:List BL)(r:AV)(ns:List (List (List AV))):Exit->AS->Prop
 |.normal,σ=>Ll P BK bs r ns σ
 |.ret,σ=>Ll P BK bs r ns σ
 |_,_=>False
theorem Zov{l:List AV}{r:AV}(h:eY l r):dK r=true:=by
 unfold eY at h;split at h
 .rfl
 .rename_i d;obtain⟨rfl,h2⟩:=h;cases d<;>first|exact h2|cases h2
 .exact h.elim
theorem Zmy{m:Mem}{a:Act}{w:World}(hs:B5 U σ m a w){fn:Func}{bs:List BL}{r:AV}{ns:List (List (List AV))}(h:Ll P fn.results.toList bs r ns σ):
  ∃ v,(results fn a.tmps).run P w=.ok v w/\∀ (m2:Mem) (w2:World),XQ m2 w2 v r:=by
 unfold Ll at h;split at h
 .rename_i p l hret;obtain⟨hp,hsc,_⟩:=h;obtain⟨vs,hrun,hlen,hrep⟩:=Z81 hs hret hp;refine⟨_,hrun,fun m2 w2=>?_⟩;unfold eY at hsc;split at hsc
  .have:vs=[]:=List.eq_nil_of_length_eq_zero hlen;subst this;exact⟨[],rfl,rfl,s_⟩
  .rename_i d r0;obtain⟨rfl,hS⟩:=hsc;rw[if_pos (by rw[hlen];rfl)];cases vs with
   |nil=>simp at hlen
   |cons v rv =>
    have hr:=hrep 0 v _ rfl rfl;generalize hx:r0=d at hr hS ⊢;cases d
    case bool b=>have:=Jt hr;subst this;exact Au.bool b
    case int k n=>have:=Q4 hr;subst this;exact Au.int k n
    case str s=>have:=Tz hr;subst this;exact Au.str s
    all_goals cases hS
  .exact hsc.elim
 .exact h.elim
theorem ZbS {fn : Func} {c: Code} {n: Nat} {bs : List BL} {r: AV} {ns : List (List (List AV))} (hm : P.follows .mixedOrders = true) (hf : P.funcs[f]? = some fn) (hb : fn.body = some c) (hname : (fn.name == "runtime.NumGoroutine") = false) (hn : fn.ntmps = n) {BK : Array ResultVar} (Lj : fn.results = BK) (hbody : Jc n c = true) (hds : decide (ds.length ≤ n) = true) (hu : ∀ d ∈ ds, okV (fun s => s < 1) d) (hok : dK r = true) (hN : Kq bs ns = true) 
  (h:QR P c (ZrW P BK.toList bs r ns) (σL ds bs n)):HY P f ds bs r ns:=by
 subst Lj;have hds:=of_decide_eq_true hds;refine⟨hok,hN,Vp hf hb hname,fun m w vs hL hl hvs=>?_⟩;refine calls_of_wp hf hb ?_
 have hs:B5 (fun s=>s <(σL ds bs n).clk) (σL ds bs n) m { tmps:=vs.toArray++Array.replicate (fn.ntmps-vs.toArray.size) undef,defers:=[]} w:=by
  refine⟨hL.bx,hL.below,rfl,?_,fun t=>?_,fun t=>?_,hL.boxes,hL.inj⟩
  .show(vs.toArray++Array.replicate (fn.ntmps-vs.toArray.size) undef).size=n;rw[Array.size_append,Array.size_replicate,hn];simp only[List.size_toArray];omega
  .show XQ _ _ ((vs.toArray++Array.replicate (fn.ntmps-vs.toArray.size) undef).getD t undef) (ds.getD t .und);rw[Array.getD_eq_getD_getElem?,List.getD_eq_getElem?_getD];rcases Nat.lt_or_ge t vs.length with ht|ht
   .have e1:(vs.toArray++Array.replicate (fn.ntmps-vs.toArray.size) undef)[t]? = some vs[t]:=by
     rw[Array.getElem?_append_left (by simpa using ht)];simp[ht]
    have e2:ds[t]? = some (ds[t]'o_):=Z4 _;rw[e1,e2];exact hvs t _ _ (Z4 ht) e2
   .rw[Array.getElem?_append_right (by simpa using ht),List.getElem?_eq_none o_];simp only[Option.getD_none,List.size_toArray,Array.getElem?_replicate];show(if t-vs.length<fn.ntmps-vs.length then some undef else none).getD undef=undef;split<;>rfl
  .show okV _ (ds.getD t .und);rw[List.getD_eq_getElem?_getD];cases hx:ds[t]? with
   |none=>trivial
   |some d=>exact hu d (Z6 hx)
 have:=Zgu hm n m.w0 m.F 1 m w c _ (σL ds bs n) m _ w hbody h rfl hs rfl rfl (Cj.refl _ _ _) (Zd _);refine wp_mono this fun e a w' hq=>?_
 obtain⟨σ,m',h1,h2,h3,h4,h5,h6,h7⟩:=hq
 have key:∀ σ':AS,σ'=σ->Ll P fn.results.toList bs r ns σ->∃ v,(results fn a.tmps).run P w'=.ok v w'/\∃ m2:Mem,(∀ (m3:Mem) (w3:World),XQ m3 w3 v r)/\Ko m2 w' (M0 bs ns)/\m2.w0=m.w0/\m2.F=m.F/\Cj (fun s=>s<1) m w m2 w':=fun σ' _ hE=>by
  obtain⟨v,q1,q2⟩:=Zmy h3 hE
  have hat:∀ (j:Nat) x,(M0 bs ns)[j]? = some x->σ.box (LB+j)=some ⟨x.1,x.2.1,0,x.2.2,true⟩:=by
   unfold Ll at hE;split at hE
   .intro j x hx;have:=ZcR hE.2.2 j x hx;rwa [Nat.add_zero]at this
   .exact hE.elim
  obtain⟨m2,hm2⟩:∃ m2:Mem,m2 ={ m' with bx:=Ij (M0 bs ns)}:=⟨_,rfl⟩;have d0:m2.w0=m'.w0:=by rw[hm2]
  have dF:m2.F=m'.F:=by rw[hm2]
  have dl:m2.loc=m'.loc:=by rw[hm2]
  have db:m2.bx=Ij (M0 bs ns):=by rw[hm2]
  have hin:∀ id b,Ij (M0 bs ns) id=some b->σ.box id=some b:=fun id b hb=>by
   obtain⟨k,x,rfl,hx,rfl⟩:=Vf hb;exact hat k x hx
  have hM:∀ g,m2.M g->m'.M g:=fun g ⟨id,b,p1,p2⟩=>by
   rw[db]at p1;exact⟨id,b,by rw[h3.bx];exact hin id b p1,by rw[dl]at p2;exact p2⟩
  have hR:∀ g,m'.R w' g->m2.R w' g:=fun g hg=>⟨⟨hg.1.1,fun hm=>hg.1.2 (hM g hm)⟩,fun hl=>by rw[dF];rw[d0]at hl;exact hg.2 hl⟩
  refine⟨v,q1,m2,q2,⟨db,fun id b hb=>?_,fun i j bi bj g hi hj gi gj=>?_,by rw[d0];exact h3.below⟩,d0.trans h4,dF.trans h5,h6.trans ⟨d0,dF,fun g hg=>⟨rfl,hg.1,fun hm=>hg.2 (hM g hm)⟩,fun id b' hb' _=>⟨b',by rw[h3.bx];rw[db]at hb';exact hin id b' hb',rfl,by rw[dl],rfl,rfl⟩⟩⟩
  .obtain⟨⟨css,how,hr⟩,p2,p3⟩:=h3.boxes id b (hin id b hb);obtain⟨k,x,rfl,hx,rfl⟩:=Vf hb;have hD:∀ (i:Nat) cs ds,css[i]? = some cs->x.2.2[i]? = some ds->∀ (j:Nat) v d,cs[j]? = some v->ds[j]? = some d->Au (m2.R w') w' v d:=fun i cs ds a1 a2 j v d u1 u2=>((hr i cs ds a1 a2).2.2 rfl j v d u1 u2).keep (fun _ _=>rfl) hR
   refine⟨⟨css,by rw[d0,dl];exact how,fun i cs ds a1 a2=>⟨(hr i cs ds a1 a2).1,⟨(hr i cs ds a1 a2).2.1.len,fun j v d u1 u2=>JH (hD i cs ds a1 a2 j v d u1 u2)⟩,fun _=>hD i cs ds a1 a2⟩⟩,by show(0:Nat)< 1;omega,fun ds hds d hdd=>?_⟩;obtain⟨i,hi,rfl⟩:=ZM hds;have hci:css[i]? = some (css[i]'(by rw[how.len];exact hi)):=Z4 _;obtain⟨r1,r2,r3⟩:=hr i _ _ hci (Z4 hi);obtain⟨j,hj,rfl⟩:=ZM hdd;exact mM (hD i _ _ hci (Z4 hi) j _ _ (Z4 (by rw[r2.len];exact hj)) (Z4 hj))
  .rw[dl]at gi gj;exact h3.inj i j bi bj g (hin i bi hi) (hin j bj hj) gi gj
 cases e with
 |normal =>
  obtain⟨v,q1,m2,q2,q3,q4,q5,q6⟩:=key σ rfl h1;exact⟨h3.defers,v,q1,v,m2,rfl,q2,q3,q4,q5,q6⟩
 |ret =>
  obtain⟨v,q1,m2,q2,q3,q4,q5,q6⟩:=key σ rfl h1;exact⟨h3.defers,v,q1,v,m2,rfl,q2,q3,q4,q5,q6⟩
 |_=>exact h1.elim
theorem Z37 {fn : Func} {c: Code} {n: Nat} {bs : List BL} {post : AV → List (List (List AV)) → Prop} (hm : P.follows .mixedOrders = true) (hf : P.funcs[f]? = some fn) (hb : fn.body = some c) (hname : (fn.name == "runtime.NumGoroutine") = false) (hn : fn.ntmps = n) {BK : Array ResultVar} (Lj : fn.results = BK) (hbody : Jc n c = true) (hds : decide (ds.length ≤ n) = true) (hu : ∀ d ∈ ds, okV (fun s => s < 1) d) 
  (h:QR P c (ZpY P BK.toList bs post) (act (σL ds bs n))):FE P f ds bs post:=by
 obtain⟨e,σ',h1,h2⟩:=ZdK _ _ _ h
 have key:∃ r ns,dK r=true/\Kq bs ns=true/\post r ns/\ZrW P BK.toList bs r ns e σ':=by
  have k2:∀ r ns,Ll P BK.toList bs r ns σ'->dK r=true:=fun r ns hE=>by
   unfold Ll at hE;split at hE
   .exact Zov hE.2.1
   .exact hE.elim
  cases e with
  |normal=>obtain⟨r,ns,q1,q2,q3⟩:=h1;exact⟨r,ns,k2 r ns q1,q2,q3,q1⟩
  |ret=>obtain⟨r,ns,q1,q2,q3⟩:=h1;exact⟨r,ns,k2 r ns q1,q2,q3,q1⟩
  |_=>exact h1.elim
 obtain⟨r,ns,q1,q2,q3,q4⟩:=key;exact⟨r,ns,q3,ZbS hm hf hb hname hn Lj hbody hds hu q1 q2 (h2 _ q4)⟩
def Ni(P:Program)(BK:List ResultVar)(bs:List BL)(post:AV->List (List (List AV))->Prop)(σ:AS):Prop:=∃ r ns,Ll P BK bs r ns σ/\Kq bs ns=true/\post r ns
theorem Zru(σ:AS)(BK:List ResultVar)(bs:List BL)(post:AV->List (List (List AV))->Prop):ZpY P BK bs post .ret (act σ)=Ni P BK bs post σ:=rfl
theorem Zpt(σ:AS)(BK:List ResultVar)(bs:List BL)(post:AV->List (List (List AV))->Prop):ZpY P BK bs post .normal (act σ)=Ni P BK bs post σ:=rfl
theorem RA{BK:List ResultVar}{bs:List BL}{post:AV->List (List (List AV))->Prop}{r:AV}{ns:List (List (List AV))}(h:Ll P BK bs r ns σ)(hN:Kq bs ns=true)(hp:post r ns):Ni P BK bs post σ:=⟨r,ns,h,hN,hp⟩
theorem Zrr(ds:List AV)(bs:List BL)(n t:Nat):(σL ds bs n).env t=ds.getD t .und:=rfl
theorem ZrE(ds:List AV)(bs:List BL)(n t:Nat):(σL ds bs n).box t=Ij bs t:=rfl
theorem Zrz(ds:List AV)(bs:List BL)(n:Nat):(σL ds bs n).clk=1:=rfl
theorem Zp6{d e:AV}(h:Ng d e)(hu:Bu U d):Bu U e:=by
 rcases h with rfl |⟨_,_,_,rfl,rfl⟩|⟨rfl,_,_,_,rfl⟩
 .exact hu
 .trivial
 .trivial
theorem Ah{args:List Nat->List AV}{mk:List Nat->AV->Eff}{Cu:List Nat->List (List (List AV))->AV->Eff}{box:Nat->Option AY}{K:Eff->Prop}{r:AV}(fz:List Nat)(h:Spec P f ds r)(k:K (mk fz r))(hle:M7 (args fz) ds:=by first|exact eQ _ |(simp[nM,nN,Vq,Vr,nO,nP,nQ,TR,eX,Vs,nR];done)|(simp[nM,nN,Vq,Vr,nO,nP,nQ,TR,eX,Vs,nR];(repeat' with_reducible apply And.intro)<;> first|with_reducible exact J8 _|with_reducible exact eQ _|exact .inl rfl|with_reducible rfl|rfl|exact J8 _)):Cx P f args mk Cu raw box K:=Cx.le fz h hle k
theorem Zv{args:List Nat->List AV}{mk:List Nat->AV->Eff}{Cu:List Nat->List (List (List AV))->AV->Eff}{box:Nat->Option AY}{K:Eff->Prop}{post:AV->Prop}(fz:List Nat)(h:AF P f ds post)(k:∀ r,post r->K (mk fz r))(hle:M7 (args fz) ds:=by first|exact eQ _ |(simp[nM,nN,Vq,Vr,nO,nP,nQ,TR,eX,Vs,nR];done)|(simp[nM,nN,Vq,Vr,nO,nP,nQ,TR,eX,Vs,nR];(repeat' with_reducible apply And.intro)<;> first|with_reducible exact J8 _|with_reducible exact eQ _|exact .inl rfl|with_reducible rfl|rfl|exact J8 _)):Cx P f args mk Cu raw box K:=Zl0 fz h hle k
theorem Cx.ln{args:List Nat->List AV}{mk:List Nat->AV->Eff}{Cu:List Nat->List (List (List AV))->AV->Eff}{box:Nat->Option AY}{K:Eff->Prop}{bs:List BL}{r:AV}{ns:List (List (List AV))}(ln:List Nat)(h:HY P f ds bs r ns)(k:K (Cu ln ns r))(hds:raw.map (Ld ln box)=ds:=by simp[Ld,M3,IM,Hz, *])(hne:ln≠[]:=by simp)(hnd:Rs ln=true:=by rfl)(hbx:Na box ln bs:=by simp[Na, *])(ha:∀ d∈raw,Ru ln d:=by simp[Ru,EK,EJ])(hin:∀ id∈ln,∃ st,AV.vw id st∈raw:=by simp):Cx P f args mk Cu raw box K:=ZaC ln h hds hne hnd hbx ha hin k
theorem ZdL{args:List Nat->List AV}{mk:List Nat->AV->Eff}{Cu:List Nat->List (List (List AV))->AV->Eff}{box:Nat->Option AY}{K:Eff->Prop}{bs:List BL}{post:AV->List (List (List AV))->Prop}(ln:List Nat)(h:FE P f ds bs post)(k:∀ r ns,post r ns->K (Cu ln ns r))(hds:raw.map (Ld ln box)=ds:=by simp[Ld,M3,IM,Hz, *])(hne:ln≠[]:=by simp)(hnd:Rs ln=true:=by rfl)(hbx:Na box ln bs:=by simp[Na, *])(ha:∀ d∈raw,Ru ln d:=by simp[Ru,EK,EJ])(hin:∀ id∈ln,∃ st,AV.vw id st∈raw:=by simp):Cx P f args mk Cu raw box K:=ZeX ln h hds hne hnd hbx ha hin k
end
def eZ:AV->Value
 |.bool b=>.bool b
 |.int k n=>.int k n
 |.str s=>.string s
 |_=>undef
def Gq(ds:List AV):List Value:=ds.map eZ
theorem Zly{R:Nat->Prop}{w:World}{v:Value}{d:AV}(h:Au R w v d)(hs:EL d=true):v=eZ d:=by
 cases h with
 |bool b=>rfl
 |int k n=>rfl
 |str s=>rfl
 |nil=>cases hs
 |sl=>cases hs
theorem ZoB{d:AV}(h:EL d=true)(m:Mem)(w:World):XQ m w (eZ d) d:=by
 cases d
 case bool b=>exact Au.bool b
 case int k n=>exact Au.int k n
 case str s=>exact Au.str s
 all_goals cases h
theorem Zfn{d:AV}(h:EL d=true)(R:Nat->Prop)(w:World):Au R w (eZ d) d:=by
 cases d
 case bool b=>exact Au.bool b
 case int k n=>exact Au.int k n
 case str s=>exact Au.str s
 all_goals cases h
theorem Zif{R:Nat->Prop}{w:World}{cs:List Value}(hl:cs.length=ds.length)(h:∀ (j:Nat) v d,cs[j]? = some v->ds[j]? = some d->Au R w v d)(hs:ds.all EL=true):cs=Gq ds:=by
 apply List.ext_getElem?;intro j;unfold Gq;rw[ZH];rcases Nat.lt_or_ge j cs.length with hj|hj
 .have e1:cs[j]? = some cs[j]:=Z4 hj;have e2:ds[j]? = some (ds[j]'o_):=Z4 _;rw[e1,e2,Option.map_some,Zly (h j _ _ e1 e2) (Zu.1 hs _ (Z6 e2))]
 .rw[List.getElem?_eq_none hj,List.getElem?_eq_none o_];rfl
theorem Zqq{m:Mem}{w:World}{v:Value}{E:TypeId}{sz:Nat}{els:List (List AV)}(h:XQ m w v (.sl ns E sz els))(hs:∀ ds∈els,ds.all EL=true):
  ∃ A n c,v=.slice A n c/\n=els.length/\Row w A n sz (els.map Gq)/\yY A n c/\∀ p,A=some p->p.block<w.heap.size:=by
 obtain⟨A,n,c,css,e,hS,_,hr⟩:=Va h;have hlen:=hS.lens
 have P6:css=els.map Gq:=by
  apply List.ext_getElem?;intro i;rw[ZH];rcases Nat.lt_or_ge i css.length with hi|hi
  .have e1:css[i]? = some css[i]:=Z4 hi;have e2:els[i]? = some (els[i]'(by rw[<- hS.len];exact hi)):=Z4 _;obtain⟨l1,l2⟩:=hS.each i _ _ e1 e2;rw[e1,e2,Option.map_some,Zif o_ (fun j v d a b=>hr i j _ _ v d e1 e2 a b) (hs _ (Z6 e2))]
  .rw[List.getElem?_eq_none hi,List.getElem?_eq_none (by rw[<- hS.len];exact hi)];rfl
 exact⟨A,n,c,e,hlen.symm,P6▸hS.row,hS.ok,fun p hp=>(hS.blk p hp).1.1⟩
theorem Zgn{m:Mem}{w:World}{v:Value}{cs:List AV}(h:XQ m w v (.agg cs))(hs:cs.all EL=true):v=.agg (Gq cs).toArray:=by
 obtain⟨vs,rfl,rl⟩:=(show Ez m w v (.agg cs)from h);congr 2;exact Zif (R:=m.R w) (w:=w) rl.len (fun j v d a b=>Vb (rl.at_ j v d a b) (Zp9 (Zu.1 hs d (Z6 b)))) hs
theorem ZiY{d:AV}(h:EL d=true):N7 d=none:=by cases d<;>first|rfl|cases h
theorem Zea(w:World)(F:Nat->Prop)(w':World){d:AV}(h:EL d=true):TG w F w' (eZ d) d:=by
 have hb:∀ st,Gp d st=none:=fun st=>by unfold Gp;rw[ZiY h];rfl
 refine⟨Hy w F,rfl,rfl,fun j=>?_,fun b hb'=>?_,?_⟩
 .rw[hb];show none=_;split<;>rfl
 .rw[hb]at hb';cases hb'
 .rw[nE (ZiY h)];exact ZoB h _ _
def nV(w:World)(F:Nat->Prop)(A:Option Addr)(c:Nat)(b:AY):Mem:=⟨w,F,fun _=>(A,c),fun j=>if j=0 then some b else none⟩
theorem ZtA{w:World}{F:Nat->Prop}{A:Option Addr}{n c:Nat}{E:TypeId}{sz:Nat}{els:List (List AV)}(how:Own w' w.heap.size E sz A n c (els.map Gq))(hs:∀ ds∈els,ds.all EL=true):DU (fun _=>True) (nV w F A c ⟨E,sz,0,els,true⟩) w' 0 ⟨E,sz,0,els,true⟩:=by
 have hn:n=els.length:=by rw[<- how.len,List.length_map]
 subst hn
 have hD:∀ (i:Nat) cs ds,(els.map Gq)[i]? = some cs->els[i]? = some ds->cs=Gq ds:=fun i cs ds a1 a2=>by
  rw[ZH,a2]at a1;exact(Z7 a1).symm
 have hP:∀ (R:Nat->Prop) (i:Nat) cs ds,(els.map Gq)[i]? = some cs->els[i]? = some ds->∀ (j:Nat) v d,cs[j]? = some v->ds[j]? = some d->Au R w' v d:=fun R i cs ds a1 a2 j v d u1 u2=>by
  rw[hD i cs ds a1 a2]at u1;unfold Gq at u1;rw[ZH,u2]at u1;rw[<- Z7 u1];exact Zfn (Zu.1 (hs ds (Z6 a2)) d (Z6 u2)) _ _
 refine⟨⟨_,how,fun i cs ds a1 a2=>⟨?_,⟨?_,fun j v d u1 u2=>JH (hP _ i cs ds a1 a2 j v d u1 u2)⟩,fun _=>hP _ i cs ds a1 a2⟩⟩,trivial,fun ds hds d hd=>bV (Zp9 (Zu.1 (hs ds hds) d hd))⟩
 .have:=how.each cs (Z6 a1);rw[hD i cs ds a1 a2]at this;unfold Gq at this;simpa using this
 .rw[hD i cs ds a1 a2];unfold Gq;simp
theorem vwO(w w':World)(F:Nat->Prop)(A:Option Addr)(n c:Nat)(E:TypeId)(sz:Nat)(els:List (List AV))(hn:n=els.length):BB (nV w F A c ⟨E,sz,0,els,true⟩) w' (.slice A n c) (.vw 0 0):=by
 refine⟨⟨_,_,_,rfl⟩,fun b hb _=>?_⟩;have:(⟨E,sz,0,els,true⟩:AY)=b:=by simpa [nV]using hb
 subst this;subst hn
 rfl
theorem Zlx{w:World}{F:Nat->Prop}{A:Option Addr}{n c:Nat}{E:TypeId}{sz:Nat}{els:List (List AV)}(how:Own w' w.heap.size E sz A n c (els.map Gq))(hs:∀ ds∈els,ds.all EL=true):TG w F w' (.slice A n c) (.own E sz els):=
 ⟨nV w F A c ⟨E,sz,0,els,true⟩,rfl,rfl,fun j=>rfl,fun b hb=>by cases hb;exact ZtA how hs,vwO w w' F A n c E sz els (by rw[<- how.len,List.length_map])⟩
theorem nW{P:Program}{r:AV}(hok:GG r=true)(he:∀ args w,(callFunc f args).run P w=.ok (.enter f args) w) 
  (h:∀ (w:World) (F:Nat->Prop) (vs:List Value),vs.length=ds.length->(∀ (j:Nat) v d,vs[j]? = some v->ds[j]? = some d->XQ (Hy w F) w v d)->Calls P f vs.toArray w fun e w'=>∃ v,e=.returned v/\TG w F w' v r/\Below w.heap.size w w'):Spec P f ds r :=
 ⟨hok,he,fun w F vs hl hvs=>h w F vs hl fun j v d a b=>yZ (hvs j v d a b)⟩
theorem nX{m:Mem}{w:World}{vs:List Value}{d0:AV}(hl:vs.length=[d0].length)(h:∀ (j:Nat) v d,vs[j]? = some v->[d0][j]? = some d->XQ m w v d):∃ v0,vs=[v0]/\XQ m w v0 d0:=by
 match vs,hl with
 |[v0],_=>exact⟨v0,rfl,h 0 v0 d0 rfl rfl⟩
@[simp] theorem Zud :AB prog 3=1/\EI prog 3=8/\JZ prog 3=some false/\YZ prog 3=some ([.int .i64 0])/\Rp prog 3=some .i64:=by(repeat' with_reducible apply And.intro)<;> kernel_rfl
@[simp] theorem Zuc :AB prog 4=1/\EI prog 4=1/\JZ prog 4=some false/\YZ prog 4=some ([.bool false])/\V9 prog 4=true:=by(repeat' with_reducible apply And.intro)<;> kernel_rfl
@[simp] theorem Zub :Rp prog 237=some .u64:=by kernel_rfl
@[simp] theorem Zua :AB prog 9=1/\JZ prog 9=some false:=by(repeat' with_reducible apply And.intro)<;> kernel_rfl
@[simp] theorem Zu9 :AB prog 43=1/\EI prog 43=24/\JZ prog 43=some false/\YZ prog 43=some ([.nil])/\E4 prog 43=some 3/\Fz prog 43=none:=by(repeat' with_reducible apply And.intro)<;> kernel_rfl
@[simp] theorem Zu8 :AB prog 214=1/\EI prog 214=24/\JZ prog 214=some false/\YZ prog 214=some ([.nil])/\E4 prog 214=some 4/\Fz prog 214=none:=by(repeat' with_reducible apply And.intro)<;> kernel_rfl
@[simp] theorem Zu7 :E4 prog 74=some 9/\Fz prog 74=none:=by(repeat' with_reducible apply And.intro)<;> kernel_rfl
@[simp] theorem Zu6 :AB prog 148=1/\JZ prog 148=some false/\E4 prog 148=some 186/\Fz prog 148=none:=by(repeat' with_reducible apply And.intro)<;> kernel_rfl
@[simp] theorem Zu5 :E4 prog 281=some 47/\Fz prog 281=none:=by(repeat' with_reducible apply And.intro)<;> kernel_rfl
@[simp] theorem Zu4 :AB prog 159=1/\JZ prog 159=some false/\E4 prog 159=some 233/\Fz prog 159=none:=by(repeat' with_reducible apply And.intro)<;> kernel_rfl
@[simp] theorem Zu3 :E4 prog 156=some 161/\Fz prog 156=none:=by(repeat' with_reducible apply And.intro)<;> kernel_rfl
@[simp] theorem Zu2 :E4 prog 42=some 89/\Fz prog 42=none:=by(repeat' with_reducible apply And.intro)<;> kernel_rfl
@[simp] theorem Zu1 :E4 prog 23=some 35/\Fz prog 23=none:=by(repeat' with_reducible apply And.intro)<;> kernel_rfl
@[simp] theorem Zu0 :E4 prog 211=some 43/\Fz prog 211=none:=by(repeat' with_reducible apply And.intro)<;> kernel_rfl
@[simp] theorem ZtZ :E4 prog 168=some 214/\Fz prog 168=none:=by(repeat' with_reducible apply And.intro)<;> kernel_rfl
@[simp] theorem ZtY :AB prog 116=1/\JZ prog 116=some false/\E4 prog 116=some 163/\Fz prog 116=none:=by(repeat' with_reducible apply And.intro)<;> kernel_rfl
@[simp] theorem ZtX :E4 prog 92=some 33/\Fz prog 92=none:=by(repeat' with_reducible apply And.intro)<;> kernel_rfl
@[simp] theorem ZtW :AB prog 45=2/\JZ prog 45=some true/\YZ prog 45=some ([.bool false,.nil])/\Du prog 45 0=some (0,1)/\Du prog 45 1=some (1,1)/\KZ prog 45=some [(0,1),(1,1)]:=by(repeat' with_reducible apply And.intro)<;> kernel_rfl
@[simp] theorem ZtV :AB prog 47=3/\EI prog 47=56/\JZ prog 47=some true/\YZ prog 47=some ([.bool false,.nil,.nil])/\Du prog 47 0=some (0,2)/\Du prog 47 1=some (2,1)/\KZ prog 47=some [(0,2),(2,1)]:=by(repeat' with_reducible apply And.intro)<;> kernel_rfl
@[simp] theorem ZtU :AB prog 186=11/\EI prog 186=184/\JZ prog 186=some true/\YZ prog 186=some ([.int .i64 0,.int .i64 0,.bool false,.nil,.nil,.bool false,.nil,.nil,.bool false,.nil,.nil])/\Du prog 186 0=some (0,1)/\Du prog 186 1=some (1,1)/\Du prog 186 2=some (2,3)/\Du prog 186 3=some (5,3)/\Du prog 186 4=some (8,3)/\KZ prog 186=some [(0,1),(1,1),(2,3),(5,3),(8,3)]:=by(repeat' with_reducible apply And.intro)<;> kernel_rfl
@[simp] theorem ZtT :AB prog 233=10/\EI prog 233=176/\JZ prog 233=some true/\YZ prog 233=some ([.int .i64 0,.bool false,.nil,.nil,.bool false,.nil,.nil,.bool false,.nil,.nil])/\Du prog 233 0=some (0,1)/\Du prog 233 1=some (1,3)/\Du prog 233 2=some (4,3)/\Du prog 233 3=some (7,3)/\KZ prog 233=some [(0,1),(1,3),(4,3),(7,3)]:=by(repeat' with_reducible apply And.intro)<;> kernel_rfl
@[simp] theorem ZtS :AB prog 161=5/\EI prog 161=88/\JZ prog 161=some true/\YZ prog 161=some ([.int .i64 0,.bool false,.nil,.nil,.nil])/\Du prog 161 0=some (0,1)/\Du prog 161 1=some (1,3)/\Du prog 161 2=some (4,1)/\KZ prog 161=some [(0,1),(1,3),(4,1)]:=by(repeat' with_reducible apply And.intro)<;> kernel_rfl
@[simp] theorem ZtR :AB prog 89=6/\EI prog 89=112/\JZ prog 89=some true/\YZ prog 89=some ([.bool false,.nil,.nil,.bool false,.nil,.nil])/\Du prog 89 0=some (0,3)/\Du prog 89 1=some (3,3)/\KZ prog 89=some [(0,3),(3,3)]:=by(repeat' with_reducible apply And.intro)<;> kernel_rfl
@[simp] theorem ZtQ :AB prog 33=3/\EI prog 33=24/\JZ prog 33=some true/\YZ prog 33=some ([.int .i64 0,.int .i64 0,.int .i64 0])/\Du prog 33 0=some (0,1)/\Du prog 33 1=some (1,1)/\Du prog 33 2=some (2,1)/\KZ prog 33=some [(0,1),(1,1),(2,1)]:=by(repeat' with_reducible apply And.intro)<;> kernel_rfl
@[simp] theorem ZtP :AB prog 35=8/\EI prog 35=80/\JZ prog 35=some true/\YZ prog 35=some ([.int .i64 0,.int .i64 0,.str ⟨#[]⟩,.str ⟨#[]⟩,.int .i64 0,.int .i64 0,.int .i64 0,.int .i64 0])/\Du prog 35 0=some (0,1)/\Du prog 35 1=some (1,1)/\Du prog 35 2=some (2,1)/\Du prog 35 3=some (3,1)/\Du prog 35 4=some (4,3)/\Du prog 35 5=some (7,1)/\KZ prog 35=some [(0,1),(1,1),(2,1),(3,1),(4,3),(7,1)]:=by(repeat' with_reducible apply And.intro)<;> kernel_rfl
@[simp] theorem ZtO :AB prog 163=12/\EI prog 163=208/\JZ prog 163=some true/\YZ prog 163=some ([.int .i64 0,.int .i64 0,.nil,.int .i64 0,.bool false,.nil,.nil,.nil,.nil,.bool false,.nil,.nil])/\Du prog 163 0=some (0,1)/\Du prog 163 1=some (1,1)/\Du prog 163 2=some (2,1)/\Du prog 163 3=some (3,5)/\Du prog 163 4=some (8,1)/\Du prog 163 5=some (9,3)/\KZ prog 163=some [(0,1),(1,1),(2,1),(3,5),(8,1),(9,3)]:=by(repeat' with_reducible apply And.intro)<;> kernel_rfl
@[simp] theorem ZtN :AB prog 118=1/\JZ prog 118=some true/\YZ prog 118=some ([.nil])/\Du prog 118 0=some (0,1)/\KZ prog 118=some [(0,1)]:=by(repeat' with_reducible apply And.intro)<;> kernel_rfl
@[simp] theorem ZtM :AB prog 195=10/\JZ prog 195=some true/\Fz prog 195=some (10,4):=by(repeat' with_reducible apply And.intro)<;> kernel_rfl
@[simp] theorem Xo :YZ prog 197=some (Zk 100 (.bool false)):=by kernel_rfl
@[simp] theorem ZtL :AB prog 197=100/\JZ prog 197=some true/\Fz prog 197=some (10,195):=by(repeat' with_reducible apply And.intro)<;> kernel_rfl
attribute [simp] Zto Zsd Zqw Zsh Ztp Zqy Zsg Zsi Zse Zsf ZsG Zs8 Zs9 Ztn ZsH ZtE ZsI Zty ZsD Ztq Zsn Zsm ZqH ZtF ZsO ZsN ZrQ Zsa ZqB ZqC Zpp ZpO ZpD Zlf opG Nf M4 Km Az MV Tu Tv L5 Ty P4 NV JF Tw Tx IM Hz N8 Lb EK EJ X8 Gp N7 TF NY Kn Ry nJ eO Nc nK Pb eH eG Dj KY Vh Vi Zpn ZhE ZpM ZhK ZpB ZhG Zmr ZmR ZmG ZlE ZlF Zn0 ZmZ Zn2 Zn3 Zpo ZpN ZpC G9 NW Zrs ZrF ZrA Vg ZsC Zrv Zmu ZmU ZmI dU Ks Lf Zms ZmS ZmH Zn1 Zqr Zow TH I1 wb Zrr ZrE Zrz Zru Zpt Ij LB
theorem M8 :Tryz.prog.follows .mixedOrders=true:=by kernel_rfl
def BS:Nat:=1000000000
theorem Pf :0<BS:=by unfold BS;omega
theorem Zc0(k:Nat):BS ^ (k+1)=BS*BS ^ k:=by rw[Nat.pow_succ,Nat.mul_comm]
theorem YV{a b:Nat}(h:a<=b):BS ^ a<=BS ^ b:=Nat.pow_le_pow_right Pf h
def Yt:List Int->Nat
 |[]=>0
 |d::l=>d.toNat+BS*Yt l
def Qy(l:List Int):Prop:=∀ d∈l,0<=d/\d<1000000000
theorem Xr :Qy []:=fun d h=>by simp at h
theorem fB{d:Int}(h:Qy (d::l)):(0<=d/\d<1000000000)/\Qy l:=⟨h d s_,fun x hx=>h x (by simp[hx])⟩
theorem Vt{d:Int}(h:0<=d/\d<1000000000)(hl:Qy l):Qy (d::l):=fun x hx=>by
 rcases Zn.1 hx with rfl|hx
 .exact h
 .exact hl x hx
theorem nY{a b:List Int}(ha:Qy a)(hb:Qy b):Qy (a++b):=fun x hx=>by
 rcases List.mem_append.1 hx with hx|hx
 .exact ha x hx
 .exact hb x hx
theorem Zhj{a b:List Int}(h:Qy (a++b)):Qy a:=fun x hx=>h x (List.mem_append.2 (.inl hx))
theorem Za4(h:Qy l)(k:Nat):Qy (l.take k):=fun x hx=>h x (List.mem_of_mem_take hx)
theorem Zhk(h:Qy l)(k:Nat):Qy (l.drop k):=fun x hx=>h x (List.mem_of_mem_drop hx)
theorem Xm:∀ (a b:List Int),Yt (a++b)=Yt a+BS ^ a.length*Yt b
 |[],b=>by simp[Yt]
 |d::a,b=>by
  show d.toNat+BS*Yt (a++b)=(d.toNat+BS*Yt a)+BS ^ (a.length+1)* Yt b
  rw[Xm a b,Zc0,Nat.mul_add,Nat.mul_assoc]
  omega
theorem Pg:∀ {l:List Int},Qy l->Yt l<BS ^ l.length
 |[],_=>by simp[Yt]
 |d::l,h=>by
  obtain⟨h1,h2⟩:=fB h
  have ih:=Pg h2
  show d.toNat+BS*Yt l<BS ^ (l.length+1)
  rw[Zc0]
  have h3:BS *(Yt l+1)<=BS*BS ^ l.length:=Nat.mul_le_mul_left _ ih
  rw[Nat.mul_add,Nat.mul_one]at h3
  have h4:d.toNat<BS:=by unfold BS;omega
  omega
def Zz(n:Nat):List Int:=if h:n=0 then []else ((n % BS:Nat):Int):: Zz (n / BS)
termination_by n
decreasing_by exact Nat.div_lt_self (Nat.pos_of_ne_zero h) (by unfold BS;omega)
theorem Yd :Zz 0=[]:=by unfold Zz;simp
theorem XE{n:Nat}(h:0<n):Zz n=((n % BS:Nat):Int):: Zz (n / BS):=by
 rw[Zz];rw[dif_neg o_]
theorem ZJ(n:Nat):Yt (Zz n)=n:=by
 induction n using Nat.strongRecOn with
 |_ n ih =>
  by_cases h:n=0
  .subst h;rw[Yd];rfl
  .rw[XE o_];show((n % BS:Nat):Int).toNat+BS*Yt (Zz (n / BS))=n;rw[ih _ (Nat.div_lt_self o_ (by unfold BS;omega)),Int.toNat_natCast];exact Nat.mod_add_div n BS
theorem Qs(n:Nat):Qy (Zz n):=by
 induction n using Nat.strongRecOn with
 |_ n ih =>
  by_cases h:n=0
  .subst h;rw[Yd];exact Xr
  .rw[XE o_];have:=Nat.mod_lt n Pf;refine Vt ⟨o_,?_⟩ (ih _ (Nat.div_lt_self o_ (by unfold BS;omega)));unfold BS at this ⊢;omega
theorem J4{n:Nat}  :Zz n=[]↔ n=0:=by
 constructor
 .intro h;have:=ZJ n;rw[h]at this;exact this.symm
 .rintro rfl;exact Yd
def Zqh(l:List Int):Prop:=∀ d,l.getLast? = some d->d≠0
def GQ(l:List Int):Prop:=Qy l/\Zqh l
theorem Z8L :GQ []:=⟨Xr,fun d h=>by simp at h⟩
theorem Zao{d:Int}(h:GQ (d::l)):GQ l:=by
 refine⟨(fB h.1).2,fun x hx=>h.2 x ?_⟩;cases l with
 |nil=>simp at hx
 |cons a r=>simpa [List.getLast?_cons_cons]using hx
theorem nZ:∀ {l:List Int},GQ l->l≠[]->0<Yt l
 |[],_,h=>absurd rfl h
 |[d],hc,_=>by
  have h1:=hc.2 d rfl
  have h2:=(fB hc.1).1
  show 0<d.toNat+BS*0
  omega
 |d::a::r,hc,_=>by
  have:=nZ (Zao hc) s_
  have h3:0<BS*Yt (a::r):=Nat.mul_pos Pf this
  show 0<d.toNat+BS*Yt (a::r)
  omega
theorem fC:∀ {l:List Int},GQ l->Zz (Yt l)=l
 |[],_=>Yd
 |d::l,hc=>by
  have h1:=(fB hc.1).1
  have ih:=fC (Zao hc)
  rw[XE (nZ hc s_)]
  have h4:d.toNat<BS:=by unfold BS;omega
  have e1:Yt (d::l)=d.toNat+BS*Yt l:=rfl
  have e2:Yt (d::l) % BS=d.toNat:=by rw[e1,Nat.add_mul_mod_self_left,Nat.mod_eq_of_lt h4]
  have e3:Yt (d::l) / BS=Yt l:=by rw[e1,Nat.add_mul_div_left _ _ Pf,Nat.div_eq_of_lt h4,Nat.zero_add]
  rw[e2,e3,ih]
  congr 1
  omega
theorem ZmD(n:Nat):Zqh (Zz n):=by
 induction n using Nat.strongRecOn with
 |_ n ih =>
  by_cases h:n=0
  .subst h;rw[Yd];exact Z8L.2
  .rw[XE o_];intro d hd;by_cases h2:n / BS=0
   .rw[h2,Yd]at hd;simp only[List.getLast?_singleton,Zi]at hd;have:=Nat.mod_add_div n BS;rw[h2]at this;omega
   .rw[XE (n:=n / BS) (Nat.pos_of_ne_zero h2),List.getLast?_cons_cons,<- XE (Nat.pos_of_ne_zero h2)]at hd;exact ih _ (Nat.div_lt_self o_ (by unfold BS;omega)) d hd
theorem Yl(n:Nat):GQ (Zz n):=⟨Qs n,ZmD n⟩
theorem ZmO{k:Nat}(h:Qy l)(hl:l.length=k+1)(hv:BS ^ k<=Yt l):GQ l:=by
 refine⟨h,fun d hd h0=>?_⟩;subst h0
 obtain⟨a,ha⟩:∃ a,l=a++[0]:=by
  obtain⟨hne,he⟩:=List.getLast?_eq_some_iff.1 hd |> fun⟨ys,h⟩=>(⟨ys,h⟩:∃ ys,l=ys++[0])
  exact⟨_,he⟩
 rw[ha,Xm]at hv;have h1:=Pg (Zhj (ha▸h));have h2:a.length=k:=by rw[ha]at hl;simpa using hl
 rw[h2]at h1;have h3:Yt [0]=0:=rfl;rw[h3]at hv;omega
theorem fD(h:GQ l)(hne:l≠[]):BS ^ (l.length-1)<=Yt l:=by
 obtain⟨a,d,rfl⟩:∃ a d,l=a++[d]:=⟨_,_,(List.dropLast_concat_getLast hne).symm⟩;have hd:=h.2 d s_;have h2:=h.1 d s_;rw[Xm];have e:Yt [d]=d.toNat:=by show d.toNat+BS*0=_;omega
 rw[e];have h3:1<=d.toNat:=by omega
 have h4:BS ^ a.length*1<=BS ^ a.length*d.toNat:=Nat.mul_le_mul_left _ h3;simp only[List.length_append,List.length_cons,List.length_nil,Nat.add_sub_cancel];omega
theorem YN{n k:Nat}(h:n<BS ^ k):(Zz n).length<=k:=by
 by_cases h0:n=0
 .subst h0;rw[Yd];exact Zs _
 .have h1:=fD (Yl n) (fun e=>h0 (J4.1 e));rw[ZJ]at h1;rcases Nat.lt_or_ge k (Zz n).length with h2|h2
  .have:=YV (a:=k) (b:=(Zz n).length-1) o_;omega
  .exact h2
theorem QY(n:Nat):n<BS ^ (Zz n).length:=by have:=Pg (Qs n);rwa [ZJ]at this
def IW:List Int->List Int
 |[]=>[]
 |d::l=>match IW l with
  |[]=>if d=0 then []else [d]
  |r=>d::r
theorem fF:∀ {l:List Int},Qy l->IW l=Zz (Yt l)
 |[],_=>Yd.symm
 |d::l,h=>by
  obtain⟨h1,h2⟩:=fB h
  have ih:=fF h2
  have h4:d.toNat<BS:=by unfold BS;omega
  have e1:Yt (d::l)=d.toNat+BS*Yt l:=rfl
  have e2:Yt (d::l) % BS=d.toNat:=by rw[e1,Nat.add_mul_mod_self_left,Nat.mod_eq_of_lt h4]
  have e3:Yt (d::l) / BS=Yt l:=by rw[e1,Nat.add_mul_div_left _ _ Pf,Nat.div_eq_of_lt h4,Nat.zero_add]
  unfold IW
  rw[ih]
  by_cases h0:Yt l=0
  .rw[h0,Yd]
   dsimp only
   by_cases hd:d=0
   .rw[if_pos hd,e1,h0,hd];exact Yd.symm
   .rw[if_neg hd,XE o_,e2,e3,h0,Yd]
    congr 1;omega
  .have hp:0<BS*Yt l:=Nat.mul_pos Pf o_
   rw[XE (n:=Yt (d::l)) o_,e2,e3,XE (n:=Yt l) o_]
   dsimp only
   congr 1;omega
theorem Zom{n:Nat}(hn:n<=l.length)(h0:∀ (i:Nat) (d:Int),n<=i->l[i]? = some d->d=0)(h1:∀ d,0<n->l[n-1]? = some d->d≠0):IW l=l.take n:=by
 induction l generalizing n with
 |nil=>simp[IW]
 |cons d l ih =>
  cases n with
  |zero =>
   have e:IW l=[]:=by
    have:=ih (n:=0) (Zs _) (fun i x _ hx=>h0 (i+1) x (Zs _) (by simpa using hx)) (fun x h=>by omega);simpa using this
   unfold IW;rw[e];have hd:=h0 0 d (Zs _) rfl;simp[hd]
  |succ n =>
   have e:IW l=l.take n:=ih (by simp at hn;omega) (fun i x hi hx=>h0 (i+1) x o_ (by simpa using hx)) (fun x hp hx=>by
    refine h1 x o_ ?_;rw[show n+1-1=(n-1)+1 by omega];simpa using hx)
   unfold IW;rw[e];cases hl:l.take n with
   |nil =>
    have hn0:n=0∨l=[]:=by simpa [List.take_eq_nil_iff]using hl
    have hd:d≠0:=by
     rcases hn0 with rfl|rfl
     .exact h1 d o_ rfl
     .have:n=0:=by simp at hn;omega
      subst this;exact h1 d o_ rfl
    simp[hd,hl]
   |cons a r=>simp[hl]
def M9(a b:Nat):Int:=if a<b then -1 else if a=b then 0 else 1
theorem ZeG{a b:List Int}(ha:GQ a)(hb:GQ b)(h:a.length<b.length):Yt a<Yt b:=by
 have h1:=Pg ha.1;have h2:=fD hb (by intro e;subst e;simp at h);have:=YV (a:=a.length) (b:=b.length-1) o_;omega
theorem ZnW{a b:List Int}{i:Nat}{x y:Int}(ha:Qy a)(hb:Qy b)(hx:a[i]? = some x)(hy:b[i]? = some y)(hd:a.drop (i+1)=b.drop (i+1))(h:x<y):Yt a<Yt b:=by
 obtain⟨hi,rfl⟩:=Za.1 hx;obtain⟨hj,rfl⟩:=Za.1 hy;have ea:a=a.take i++a[i]:: a.drop (i+1):=by simp
 have eb:b=b.take i++b[i]:: b.drop (i+1):=by simp
 have la:(a.take i).length=i:=by simp;omega
 have lb:(b.take i).length=i:=by simp;omega
 have e1:Yt a=Yt (a.take i)+BS ^ i *(a[i].toNat+BS*Yt (a.drop (i+1))):=by
  conv=>lhs;rw[ea]
  rw[Xm,la];rfl
 have e2:Yt b=Yt (b.take i)+BS ^ i *(b[i].toNat+BS*Yt (b.drop (i+1))):=by
  conv=>lhs;rw[eb]
  rw[Xm,lb];rfl
 have h1:=Pg (Za4 ha i);rw[la]at h1;have h2:=(ha a[i] (List.getElem_mem _)).1;rw[e1,e2,hd];have h3:a[i].toNat+1<=b[i].toNat:=by omega
 have h4:BS ^ i *(a[i].toNat+1+BS*Yt (b.drop (i+1)))<=BS ^ i *(b[i].toNat+BS*Yt (b.drop (i+1))):=Nat.mul_le_mul_left _ o_
 have h5:BS ^ i *(a[i].toNat+1+BS*Yt (b.drop (i+1)))=BS ^ i *(a[i].toNat+BS*Yt (b.drop (i+1)))+BS ^ i:=by
  rw[show a[i].toNat+1+BS*Yt (b.drop (i+1))=(a[i].toNat+BS*Yt (b.drop (i+1)))+1 by omega,Nat.mul_add,Nat.mul_one]
 omega
def At(l:List Int)(i:Nat)(x:Int):Prop:=l[i]? = some x∨(l.length<=i/\x=0)
theorem At.bd{i:Nat}{x:Int}(h:At l i x)(hl:Qy l):0<=x/\x<1000000000:=by
 rcases h with h |⟨_,rfl⟩
 .exact hl x (Z6 h)
 .omega
theorem Z9J{i:Nat}{d:Int}(h:l[i]? = some d):l.take (i+1)=l.take i++[d]:=by
 obtain⟨hi,he⟩:=Za.1 h;rw[List.take_succ_eq_append_getElem hi,he]
theorem Zoi(d:Int):Yt [d]=d.toNat:=by show d.toNat+BS*0=_;omega
theorem oC(l:List Int)(d:Int):Yt (l++[d])=Yt l+BS ^ l.length*d.toNat:=by rw[Xm,Zoi]
theorem At.take{i:Nat}{x:Int}(h:At l i x):Yt (l.take (i+1))=Yt (l.take i)+BS ^ i*x.toNat:=by
 rcases h with h |⟨h,rfl⟩
 .have hi:=(Za.1 h).1;rw[Z9J h,oC,ZC,Nat.min_eq_left o_]
 .rw[Zp o_,Zp h];simp
theorem Zgf(k T:Nat):BS ^ k *(T % BS)+BS ^ (k+1)*(T / BS)=BS ^ k*T:=by
 have h:=Nat.mod_add_div T BS;rw[Nat.pow_succ,Nat.mul_assoc,<- Nat.mul_add,h]
theorem Zc8{t:Int}(h:0<=t):(t % 1000000000).toNat=t.toNat % BS:=by unfold BS;omega
theorem Zc9{t:Int}(h:0<=t):(t / 1000000000).toNat=t.toNat / BS:=by unfold BS;omega
structure Eh(a b s:List Int)(c:Int)(i:Nat):Prop where
 len:s.length=i
 lm:Qy s
 c0:0<=c
 c1:c<=1
 val:Yt s+BS ^ i*c.toNat=Yt (a.take i)+Yt (b.take i)
 low:0<i->BS ^ (i-1)<=Yt a+Yt b
theorem ZdN(a b:List Int):Eh a b [] 0 0:=⟨rfl,Xr,o_,o_,by simp[Yt],o_⟩
theorem Eh.step{a b s:List Int}{c x y:Int}{i:Nat}(h:Eh a b s c i)(ha:GQ a)(hb:GQ b)(hx:At a i x)(hy:At b i y)(hg:i<a.length∨i<b.length∨0<c):
  Eh a b (s++[(c+x+y) % 1000000000]) ((c+x+y) / 1000000000) (i+1):=by
 have bx:=hx.bd ha.1;have bY:=hy.bd hb.1;have h0:=h.c0;have h1:=h.c1;refine⟨by simp[h.len],nY h.lm (Vt o_ Xr),o_,o_,?_,fun _=>?_⟩
 .have hv:=h.val;have e:=Zgf i (c+x+y).toNat
  have et:(c+x+y).toNat=c.toNat+x.toNat+y.toNat:=by omega
  rw[oC,h.len,Zc8 o_,Zc9 o_,hx.take,hy.take,Nat.add_assoc,e,et,Nat.mul_add,Nat.mul_add];omega
 .rw[Nat.add_sub_cancel]
  have ta:Yt (a.take i)<=Yt a:=by
   have:=Xm (a.take i) (a.drop i);rw[List.take_append_drop]at this;omega
  have tb:Yt (b.take i)<=Yt b:=by
   have:=Xm (b.take i) (b.drop i);rw[List.take_append_drop]at this;omega
  rcases hg with hg|hg|hg
  .have h2:=fD ha (by intro e;subst e;simp at hg);have h3:=YV (a:=i) (b:=a.length-1) o_;omega
  .have h2:=fD hb (by intro e;subst e;simp at hg);have h3:=YV (a:=i) (b:=b.length-1) o_;omega
  .have hv:=h.val;have h2:c.toNat=1:=by omega
   rw[h2,Nat.mul_one]at hv;omega
theorem Eh.done{a b s:List Int}{c:Int}{i:Nat}(h:Eh a b s c i)(ha:a.length<=i)(hb:b.length<=i)(hc:c<=0):s=Zz (Yt a+Yt b):=by
 have hv:=h.val;have h0:=h.c0;have hc0:c.toNat=0:=by omega
 rw[hc0,Nat.mul_zero,Nat.add_zero,Zp ha,Zp hb]at hv;rw[<- hv];refine(fC ?_).symm;cases i with
 |zero =>
  have:s=[]:=List.length_eq_zero_iff.1 h.len;subst this;exact Z8L
 |succ k=>exact ZmO h.lm h.len (by rw[hv];exact h.low o_)
structure Df(a b s:List Int)(c:Int)(i:Nat):Prop where
 len:s.length=i
 lm:Qy s
 c0:0<=c
 c1:c<=1
 val:Yt s+Yt (b.take i)=Yt (a.take i)+BS ^ i*c.toNat
theorem Zdr(a b:List Int):Df a b [] 0 0:=⟨rfl,Xr,o_,o_,by simp[Yt]⟩
theorem Df.RB{a b s:List Int}{c x y:Int}{i:Nat}(h:Df a b s c i)(ha:Qy a)(hb:Qy b)(hx:At a i x)(hy:At b i y)(hn:¬ x-c-y<0):
  Df a b (s++[x-c-y]) 0 (i+1):=by
 have bx:=hx.bd ha;have bY:=hy.bd hb;have h0:=h.c0;refine⟨by simp[h.len],nY h.lm (Vt o_ Xr),o_,o_,?_⟩;have hv:=h.val;rw[oC,h.len,hx.take,hy.take];have e:(x-c-y).toNat+c.toNat+y.toNat=x.toNat:=by omega
 have e2:=congrArg (BS ^ i * ·) e;simp only[Nat.mul_add]at e2;simp only[Int.toNat_zero,Nat.mul_zero];omega
theorem Df.RE{a b s:List Int}{c x y:Int}{i:Nat}(h:Df a b s c i)(ha:Qy a)(hb:Qy b)(hx:At a i x)(hy:At b i y)(hn:x-c-y<0):
  Df a b (s++[x-c-y+1000000000]) 1 (i+1):=by
 have bx:=hx.bd ha;have bY:=hy.bd hb;have h0:=h.c0;have h1:=h.c1;refine⟨by simp[h.len],nY h.lm (Vt o_ Xr),o_,o_,?_⟩;have hv:=h.val;rw[oC,h.len,hx.take,hy.take,Zc0];have e:(x-c-y+1000000000).toNat+c.toNat+y.toNat=x.toNat+BS:=by unfold BS;omega
 have e2:=congrArg (BS ^ i * ·) e;simp only[Nat.mul_add]at e2;have e3:BS*BS ^ i=BS ^ i*BS:=Nat.mul_comm _ _;have e4:(1:Int).toNat=1:=rfl;rw[e4,Nat.mul_one,e3];omega
theorem Df.done{a b s:List Int}{c:Int}(h:Df a b s c a.length)(hb:b.length<=a.length)(hle:Yt b<=Yt a):IW s=Zz (Yt a-Yt b):=by
 have hv:=h.val;rw[Zp (Zd _),Zp hb]at hv;have hl:=Pg h.lm;rw[h.len]at hl;have h0:=h.c0;have h1:=h.c1;rw[fF h.lm];rcases(show c.toNat=0∨c.toNat=1 by omega)with hc|hc
 .rw[hc,Nat.mul_zero]at hv;congr 1;omega
 .rw[hc,Nat.mul_one]at hv;exfalso;omega
theorem TS{a b:List Int}(ha:GQ a)(hb:GQ b)(h:Yt b<=Yt a):b.length<=a.length:=by
 rcases Nat.lt_or_ge a.length b.length with hl|hl
 .have:=ZeG ha hb hl;omega
 .exact hl
theorem Zig{k:Nat}{x d:Int}(h:l[k]? = some x):Yt (l.set k d)+BS ^ k*x.toNat=Yt l+BS ^ k*d.toNat:=by
 obtain⟨hk,rfl⟩:=Za.1 h;have e1:l.set k d=l.take k++d::l.drop (k+1):=by rw[List.set_eq_take_append_cons_drop,if_pos hk]
 have e2:l=l.take k++l[k]:: l.drop (k+1):=by simp
 have hl:(l.take k).length=k:=by simp;omega
 have v1:Yt (l.set k d)=Yt (l.take k)+BS ^ k *(d.toNat+BS*Yt (l.drop (k+1))):=by rw[e1,Xm,hl];rfl
 have v2:Yt l=Yt (l.take k)+BS ^ k *(l[k].toNat+BS*Yt (l.drop (k+1))):=by
  conv=>lhs;rw[e2]
  rw[Xm,hl];rfl
 rw[v1,v2,Nat.mul_add,Nat.mul_add];omega
theorem Z8k{k:Nat}{d:Int}(h:Qy l)(hd:0<=d/\d<1000000000):Qy (l.set k d):=fun x hx=>by
 rcases List.mem_or_eq_of_mem_set hx with hx|rfl
 .exact h x hx
 .exact hd
structure Cf(a b p:List Int)(x c:Int)(i j:Nat):Prop where
 len:p.length=a.length+b.length
 lm:Qy p
 c0:0<=c
 c1:c<1000000000
 val:Yt p+BS ^ (i+j)* c.toNat=Yt (a.take i)* Yt b+BS ^ i *(x.toNat*Yt (b.take j))
 zero:∀ (k:Nat) (d:Int),i+b.length<=k->p[k]? = some d->d=0
theorem Cf.step{a b:List Int}{x y c:Int}{i j:Nat}(h:Cf a b p x c i j)(hb:Qy b)(hx:0<=x/\x<1000000000)(hj:b[j]? = some y)(hz:p[i+j]? = some z):
  Cf a b (p.set (i+j) ((c+(z+x*y)) % 1000000000)) x ((c+(z+x*y)) / 1000000000) i (j+1)/\0<=x*y/\x*y<=999999998000000001/\0<=z/\z<1000000000:=by
 have bY:=hb y (Z6 hj);have bz:=h.lm z (Z6 hz);have h0:=h.c0;have h1:=h.c1;have hjl:=(Za.1 hj).1;have m0:0<=x*y:=Int.mul_nonneg hx.1 bY.1;have m1:x*y<=999999999*999999999:=Int.mul_le_mul o_ o_ bY.1 o_;refine⟨⟨by simp[h.len],Z8k h.lm o_,o_,o_,?_,fun k d hk hd=>?_⟩,m0,o_,bz⟩
 .have hv:=h.val;have hs:=Zig (d:=(c+(z+x*y)) % 1000000000) hz;have e:=Zgf (i+j) (c+(z+x*y)).toNat
  have et:(c+(z+x*y)).toNat=c.toNat+(z.toNat+x.toNat*y.toNat):=by
   have:(x*y).toNat=x.toNat*y.toNat:=by rw[Int.toNat_mul hx.1 bY.1]
   omega
  have ht:=(show At b j y from .inl hj).take;rw[Zc8 o_]at hs;rw[Zc9 o_,ht,show i+(j+1)=i+j+1 by omega];rw[et]at e hs ⊢
  have e5:BS ^ i *(x.toNat *(Yt (b.take j)+BS ^ j*y.toNat))=BS ^ i *(x.toNat*Yt (b.take j))+BS ^ (i+j)*(x.toNat*y.toNat):=by
   rw[Nat.mul_add,Nat.mul_add,Nat.pow_add];congr 1;rw[Nat.mul_left_comm x.toNat,Nat.mul_assoc]
  rw[e5];generalize BS ^ (i+j)=P at *
  rw[Nat.mul_add P,Nat.mul_add P]at e;omega
 .rw[List.getElem?_set_ne o_]at hd;exact h.zero k d hk hd
theorem Cf.row{a b:List Int}{x c:Int}{i:Nat}(h:Cf a b p x c i b.length)(hi:a[i]? = some x)(hx:0<=x):
  ∀ x2,Cf a b (p.set (i+b.length) c) x2 0 (i+1) 0:=fun x2=>by
 have hil:=(Za.1 hi).1
 have hl:=h.len
 have e0:p[i+b.length]? = some (p[i+b.length]'o_):=Z4 _
 have hz:=h.zero _ _ (Zd _) e0
 rw[hz]at e0
 have hs:=Zig (d:=c) e0
 have hv:=h.val
 refine⟨by simp[h.len],Z8k h.lm ⟨h.c0,h.c1⟩,o_,o_,?_,fun k d hk hd=>?_⟩
 .rw[Zp (Zd _)]at hv
  have ht:=(show At a i x from .inl hi).take
  rw[ht,List.take_zero,Nat.add_mul]
  have e1:(0:Int).toNat=0:=rfl
  have e2:Yt []=0:=rfl
  rw[e1,Nat.mul_zero]at hs ⊢
  rw[e2,Nat.mul_zero,Nat.mul_zero,Nat.mul_assoc]
  omega
 .rw[List.getElem?_set_ne o_]at hd
  exact h.zero k d o_ hd
theorem ZdC(a b:List Int)(x:Int):Cf a b (Zk (a.length+b.length) 0) x 0 0 0:=by
 have hv:∀ n,Yt (Zk n 0)=0:=fun n=>by
  induction n with
  |zero=>rfl
  |succ n ih=>show(0:Int).toNat+BS*Yt (Zk n 0)=0;rw[ih];rfl
 refine⟨s_,fun d hd=>by have:=(List.mem_replicate.1 hd).2;omega,o_,o_,?_,fun k d _ hd=>?_⟩
 .rw[hv];simp[Yt]
 .exact(by rw[List.getElem?_replicate]at hd;split at hd<;>simp_all)
theorem Cf.next{a b:List Int}{x x2:Int}{i:Nat}(h:Cf a b p x 0 i 0):Cf a b p x2 0 i 0:=by
 refine⟨h.len,h.lm,h.c0,h.c1,?_,h.zero⟩;have:=h.val;simpa [Yt]using this
theorem Cf.done{a b:List Int}{x:Int}(h:Cf a b p x 0 a.length 0):IW p=Zz (Yt a*Yt b):=by
 have hv:=h.val;rw[fF h.lm];congr 1;rw[Zp (Zd _)]at hv;simpa [Yt]using hv
theorem Vu{i:Nat}{x:Int}(h:l[i]? = some x):Yt (l.drop i)=x.toNat+BS*Yt (l.drop (i+1)):=by
 obtain⟨hi,rfl⟩:=Za.1 h;rw[List.drop_eq_getElem_cons hi];rfl
theorem JY{i:Nat}(h:l.length<=i):Yt (l.drop i)=0:=by rw[List.drop_of_length_le h];rfl
theorem Zc3(l:List Int)(k:Nat)(h:k<=l.length):Yt l=Yt (l.take k)+BS ^ k*Yt (l.drop k):=by
 have:=Xm (l.take k) (l.drop k);rw[List.take_append_drop,ZC,Nat.min_eq_left h]at this;exact this
structure CL(a q:List Int)(b r i:Nat):Prop where
 len:q.length=a.length
 lm:Qy q
 lt:r<b
 val:Yt (a.drop i)=Yt (q.drop i)* b+r
 zero:∀ (k:Nat) (d:Int),k<i->q[k]? = some d->d=0
theorem Z6l{a:List Int}{b:Nat}(hb:0<b):CL a (Zk a.length 0) b 0 a.length:=by
 refine⟨s_,fun d hd=>by have:=(List.mem_replicate.1 hd).2;omega,hb,?_,fun k d _ hd=>by rw[List.getElem?_replicate]at hd;split at hd<;>simp_all⟩;rw[JY (Zd _),JY s_];simp
theorem Z2c{b r x d:Nat}(h:r<b)(hx:x<BS)(he:x+BS*r=d*b+r2):d<BS:=by
 rcases Nat.lt_or_ge d BS with h1|h1
 .exact h1
 .exfalso;have h2:BS*b<=d*b:=Nat.mul_le_mul_right _ h1;have h3:BS *(r+1)<=BS*b:=Nat.mul_le_mul_left _ h;rw[Nat.mul_add,Nat.mul_one]at h3;omega
theorem CL.step{a q:List Int}{b r i d:Nat}{x:Int}(h:CL a q b r (i+1))(ha:Qy a)(hx:a[i]? = some x)(he:x.toNat+BS*r=d*b+r2)(h2:r2<b):CL a (q.set i (d:Int)) b r2 i:=by
 have hi:=(Za.1 hx).1;have hb:=ha x (Z6 hx);have hl:=h.len;have hd:=Z2c h.lt (x:=x.toNat) (by unfold BS;omega) he;refine⟨by simp[hl],Z8k h.lm ⟨o_,by unfold BS at hd;omega⟩,h2,?_,fun k e hk hd=>?_⟩
 .have e1:(q.set i (d:Int))[i]? = some (d:Int):=by rw[List.getElem?_set_self o_]
  have e2:(q.set i (d:Int)).drop (i+1)=q.drop (i+1):=List.drop_set_of_lt o_;rw[Vu hx,Vu e1,e2,h.val,Int.toNat_natCast,Nat.add_mul,Nat.mul_add,Nat.mul_assoc];omega
 .rw[List.getElem?_set_ne o_]at hd;exact h.zero k e o_ hd
theorem Zrw{n b q r:Nat}(h:n=q*b+r)(hr:r<b):q=n / b/\r=n % b:=by
 have hb:0<b:=by omega
 have h1:n / b=q:=by
  rw[h,Nat.add_comm,Nat.add_mul_div_right _ _ hb,Nat.div_eq_of_lt hr,Nat.zero_add]
 have h2:n % b=r:=by
  rw[h,Nat.add_comm,Nat.add_mul_mod_self_right,Nat.mod_eq_of_lt hr]
 exact⟨h1.symm,h2.symm⟩
theorem CL.done{a q:List Int}{b r:Nat}(h:CL a q b r 0):IW q=Zz (Yt a / b)/\r=Yt a % b:=by
 have hv:=h.val;rw[List.drop_zero,List.drop_zero]at hv;obtain⟨h1,h2⟩:=Zrw hv h.lt;exact⟨by rw[fF h.lm,h1],h2⟩
theorem Zmg{b r t d m:Nat}{y:Nat}(hr:BS ^ m*t<=r)(hb:b<BS ^ m *(y+1))(hd:d=t / (y+1)):d*b<=r:=by
 have h1:d *(y+1)<=t:=by rw[hd];exact Nat.div_mul_le_self _ _
 have h2:BS ^ m *(d *(y+1))<=BS ^ m*t:=Nat.mul_le_mul_left _ h1;have h3:d*b<=d *(BS ^ m *(y+1)):=Nat.mul_le_mul_left _ o_;have h4:d *(BS ^ m *(y+1))=BS ^ m *(d *(y+1)):=by rw[Nat.mul_left_comm]
 omega
theorem ZdS{r:List Int}{m:Nat}{x:Int}(hl:Qy r)(hx:r[m]? = some x)(hn:r.length=m+1):Yt (r.drop m)=x.toNat:=by
 rw[Vu hx,JY o_];omega
theorem Zld{r:List Int}{m:Nat}{x:Int}(hx:r[m]? = some x)(hz:r[m+1]? = some z)(hn:r.length=m+2):Yt (r.drop m)=x.toNat+BS*z.toNat:=by
 rw[Vu hx,Vu hz,JY o_,Nat.mul_zero,Nat.add_zero]
theorem Zqg{r:List Int}{m:Nat}(h:m<=r.length):BS ^ m*Yt (r.drop m)<=Yt r:=by rw[Zc3 r m h];omega
theorem ZqY{b:List Int}{m:Nat}{y:Int}(hl:Qy b)(hy:b[m]? = some y)(hn:b.length=m+1):Yt b<BS ^ m *(y.toNat+1):=by
 have h1:=Zc3 b m o_;rw[ZdS hl hy hn]at h1;have h2:=Pg (Za4 hl m);rw[ZC,Nat.min_eq_left o_]at h2;rw[h1,Nat.mul_add,Nat.mul_one];omega
theorem ZfW(a b:Nat):Nat.gcd a b=Nat.gcd b (a % b):=by rw[Nat.gcd_comm a b,Nat.gcd_rec,Nat.gcd_comm]
theorem Zon{x:Int}(h:0<=x):∃ n:Nat,x=n:=⟨x.toNat,o_⟩
theorem Zr8{r b:Nat}(hb:0<b)(hbr:b<=r)(hr:r<b*BS):∃ M,(Zz b).length=M+1/\((Zz r).length=M+1∨(Zz r).length=M+2):=by
 have h1:(Zz b)≠[]:=fun e=>by have:=J4.1 e;omega
 have h2:=fD (Yl b) h1;rw[ZJ]at h2;have h3:0 <(Zz b).length:=List.length_pos_iff.2 h1;refine⟨(Zz b).length-1,o_,?_⟩;have h4:=TS (Yl r) (Yl b) (by rw[ZJ,ZJ];exact hbr)
 have h5:(Zz r).length<=(Zz b).length+1:=YN (by
  have h6:=QY b;have h7:b*BS<=BS ^ (Zz b).length*BS:=Nat.mul_le_mul_right _ o_;rw[Nat.pow_succ];omega)
 omega
theorem Zr9{r b t y d M:Nat}(hb:0<b)(hbr:b<=r)(ht:BS ^ M*t<=r)(hlo:b<BS ^ M *(y+1))(hd:d=t / (y+1)):(if d=0 then 1 else d)* b<=r/\1<=(if d=0 then 1 else d):=by
 split
 .omega
 .exact⟨Zmg ht hlo hd,o_⟩
def Vv(t y M:Nat):Nat:=if M=0 then t / y else if t / (y+1)=0 then 1 else t / (y+1)
def TT(r b:Nat):Nat:=Vv (Yt ((Zz r).drop ((Zz b).length-1))) ((Zz b).getD ((Zz b).length-1) 0).toNat ((Zz b).length-1)
structure GdF(r b t y M:Nat):Prop where
 lb:(Zz b).length=M+1
 hy:(Zz b)[M]? = some (y:Int)
 yb:y<1000000000
 top:(∃ x:Nat,x<1000000000/\(Zz r).length=M+1/\(Zz r)[M]? = some (x:Int)/\t=x)∨∃ x z:Nat,x<1000000000/\z<1000000000/\(Zz r).length=M+2/\(Zz r)[M]? = some (x:Int)/\(Zz r)[M+1]? = some (z:Int)/\t=x+z*1000000000
 tb:t<1000000000000000000
 y0:M=0->0<y
 eq:TT r b=Vv t y M
 ok:Vv t y M*b<=r/\1<=Vv t y M
theorem ZfV{r b:Nat}(hb:0<b)(hbr:b<=r)(hr:r<b*BS):∃ t y M,GdF r b t y M:=by
 obtain⟨M,hM,hN⟩:=Zr8 hb hbr hr;obtain⟨y,hy⟩:∃ y,(Zz b)[M]? = some y:=⟨_,Z4 o_⟩;obtain⟨x,hx⟩:∃ x,(Zz r)[M]? = some x:=⟨_,Z4 o_⟩;have bx:=Qs r x (Z6 hx);have bY:=Qs b y (Z6 hy);have hlo:=ZqY (Qs b) hy hM;rw[ZJ]at hlo;have htop:=Zqg (r:=Zz r) (m:=M) o_;rw[ZJ]at htop;obtain⟨xn,rfl⟩:=Zon bx.1;obtain⟨yn,rfl⟩:=Zon bY.1;rw[Int.toNat_natCast]at hlo
 have hT:(∃ x:Nat,x<1000000000/\(Zz r).length=M+1/\(Zz r)[M]? = some (x:Int)/\Yt ((Zz r).drop M)=x)∨∃ x z:Nat,x<1000000000/\z<1000000000/\(Zz r).length=M+2/\(Zz r)[M]? = some (x:Int)/\(Zz r)[M+1]? = some (z:Int)/\Yt ((Zz r).drop M)=x+z*1000000000:=by
  rcases hN with h|h
  .exact .inl ⟨xn,o_,h,hx,by rw[ZdS (Qs r) hx h];omega⟩
  .obtain⟨z,hz⟩:∃ z,(Zz r)[M+1]? = some z:=⟨_,Z4 o_⟩;have bz:=Qs r z (Z6 hz);obtain⟨zn,rfl⟩:=Zon bz.1;refine .inr ⟨xn,zn,o_,o_,h,hx,hz,?_⟩;have e:BS=1000000000:=rfl;rw[Zld hx hz h,e];omega
 have hyb:M=0->yn=b:=fun h=>by
  subst h;have:=ZdS (Qs b) hy hM;rw[List.drop_zero,ZJ]at this;omega
 refine⟨Yt ((Zz r).drop M),yn,M,hM,hy,o_,hT,?_,fun h=>by have:=hyb h;omega,?_,?_⟩
 .rcases hT with⟨x,_,_,_,h⟩|⟨x,z,_,_,_,_,_,h⟩<;> omega
 .unfold TT;rw[hM,Nat.add_sub_cancel,List.getD_eq_getElem?_getD,hy];rfl
 .unfold Vv;by_cases hM1:M=0
  .have h1:=hyb hM1;subst hM1;rw[if_pos rfl,List.drop_zero,ZJ,h1];exact⟨Nat.div_mul_le_self _ _,(Nat.one_le_div_iff hb).2 hbr⟩
  .rw[if_neg hM1];exact Zr9 hb hbr htop hlo rfl
theorem ZnK{r b:Nat}(hb:0<b)(hbr:b<=r)(hr:r<b*BS):TT r b*b<=r/\1<=TT r b:=by
 obtain⟨t,y,M,h⟩:=ZfV hb hbr hr;rw[h.eq];exact h.ok
theorem oD{d:Nat}(h0:0<d)(h:d<BS):Zz d=[(d:Int)]:=by
 rw[XE h0,Nat.mod_eq_of_lt h,Nat.div_eq_of_lt h,Yd]
theorem Zih(x:Int)(l:List Int):Yt (x::l)=x.toNat+BS*Yt l:=rfl
theorem oF{a:Nat}(h:(Zz a).length<=2):a<1000000000000000000:=by
 have h1:=QY a;have h2:=YV h;have h3:BS ^ 2=1000000000000000000:=by unfold BS;decide
 omega
theorem Zc7{x:Int}{r:Nat}(h:0<=x/\x<1000000000):IW (x::Zz r)=Zz (x.toNat+BS*r):=by
 rw[fF (Vt h (Qs r)),Zih,ZJ]
def sg(neg:Bool)(m:Nat):Int:=if neg then -(m:Int)else m
theorem TU(b:Bool)(m:Nat):(sg b m).natAbs=m:=by unfold sg;split<;>omega
theorem Zns(b:Bool)(m:Nat):decide (sg b m<0)=(b && decide (m≠0)):=by
 unfold sg;cases b
 .simp only[Bool.false_and,Bool.false_eq_true,if_false,decide_eq_false_iff_not];omega
 .simp only[Bool.true_and,if_true,decide_eq_decide];omega
theorem ZiB(x:Int):sg (decide (x<0)) x.natAbs=x:=by unfold sg;split<;>rename_i h<;>simp at h<;>omega
theorem Zou(b:Bool):sg b 0=0:=by unfold sg;cases b<;>rfl
theorem Zn6{x y:Int}(h:decide (x<0)=decide (y<0)):sg (decide (x<0)) (x.natAbs+y.natAbs)=x+y:=by
 unfold sg;by_cases hx:x<0<;>by_cases hy:y<0<;>simp[hx,hy]at h ⊢<;>omega
theorem ZrP{x y:Int}(h:decide (x<0)≠decide (y<0))(hg:y.natAbs<=x.natAbs):sg (decide (x<0)) (x.natAbs-y.natAbs)=x+y:=by
 unfold sg;by_cases hx:x<0<;>by_cases hy:y<0<;>simp[hx,hy]at h ⊢<;>omega
theorem ZrO{x y:Int}(h:decide (x<0)≠decide (y<0))(hg:x.natAbs<y.natAbs):sg (decide (y<0)) (y.natAbs-x.natAbs)=x+y:=by
 unfold sg;by_cases hx:x<0<;>by_cases hy:y<0<;>simp[hx,hy]at h ⊢<;>omega
theorem ZqT(x y:Int):sg (decide (x<0) != decide (y<0)) (x.natAbs*y.natAbs)=x*y:=by
 have hx:=ZiB x;have hy:=ZiB y;generalize x.natAbs=a at *
 generalize y.natAbs=b at *
 generalize decide (x<0)=p at *
 generalize decide (y<0)=q at *
 subst hx hy;unfold sg;cases p<;>cases q<;>simp[Int.neg_mul,Int.mul_neg]
structure Rt where
 num:Int
 den:Nat
deriving DecidableEq
def zR:Rt:=⟨0,0⟩
def IX:Nat:=BS ^ 24
def oG(r:Rt):Prop:=0<r.den/\Nat.gcd r.num.natAbs r.den=1/\r.num.natAbs<IX/\r.den<IX
def Bq(r:Rt):Prop:=r=zR∨oG r
def QC(r:Rt):Bool:=decide (r.den≠0)
theorem Bq.zero :Bq zR:=.inl rfl
theorem Bq.bd{r:Rt}(h:Bq r):r.num.natAbs<IX/\r.den<IX:=by
 rcases h with rfl|h
 .exact⟨Nat.pow_pos Pf,Nat.pow_pos Pf⟩
 .exact h.2.2
theorem ZhQ{r:Rt}(h:Bq r):QC r=true↔oG r:=by
 rcases h with rfl|h
 .unfold QC zR oG;simp
 .have:=h.1;unfold QC;simp;constructor
  .intro _;exact h
  .intro _;omega
def I7(n d:Int):Rt :=
 if d=0 then zR
 else if n.natAbs / Nat.gcd n.natAbs d.natAbs<IX/\d.natAbs / Nat.gcd n.natAbs d.natAbs<IX then
  ⟨sg (decide (n<0) != decide (d<0)) (n.natAbs / Nat.gcd n.natAbs d.natAbs),d.natAbs / Nat.gcd n.natAbs d.natAbs⟩
 else zR
theorem Zbl(n d:Int):Bq (I7 n d):=by
 unfold I7;split
 .exact .zero
 .rename_i hd;split
  .rename_i h;have hp:0<Nat.gcd n.natAbs d.natAbs:=Nat.gcd_pos_of_pos_right _ o_;refine .inr ⟨?_,?_,?_,h.2⟩
   .exact Nat.div_pos (Nat.le_of_dvd o_ (Nat.gcd_dvd_right _ _)) hp
   .show Nat.gcd (sg _ _).natAbs _=1;rw[TU];rw[Nat.gcd_div (Nat.gcd_dvd_left _ _) (Nat.gcd_dvd_right _ _),Nat.div_self hp]
   .show(sg _ _).natAbs<_;rw[TU];exact h.1
  .exact .zero
def Xc(r s:Rt):Rt:=if QC r && QC s then I7 (r.num*s.den+s.num*r.den) (r.den*s.den:Nat)else zR
def Oa(r:Rt):Rt:=⟨-r.num,r.den⟩
def GI(r s:Rt):Rt:=Xc r (Oa s)
def XX(r s:Rt):Rt:=if QC r && QC s then I7 (r.num*s.num) (r.den*s.den:Nat)else zR
def FF(r s:Rt):Rt:=if QC r && QC s then I7 (r.num*s.den) (s.num*r.den)else zR
def IY(r:Rt):Int:=if QC r then (if r.num<0 then -1 else if r.num=0 then 0 else 1)else 0
def Dw(n:Int):Rt:=⟨n,1⟩
theorem Q2(r s:Rt):Bq (Xc r s):=by unfold Xc;split;exact Zbl _ _;exact .zero
theorem QA(r s:Rt):Bq (XX r s):=by unfold XX;split;exact Zbl _ _;exact .zero
theorem JI(r s:Rt):Bq (FF r s):=by unfold FF;split;exact Zbl _ _;exact .zero
theorem Z86{r:Rt}(h:Bq r):Bq (Oa r):=by
 rcases h with rfl|h
 .exact .zero
 .refine .inr ⟨h.1,?_,?_,h.2.2.2⟩
  .show Nat.gcd (-r.num).natAbs _=1;rw[Int.natAbs_neg];exact h.2.1
  .show(-r.num).natAbs<_;rw[Int.natAbs_neg];exact h.2.2.1
theorem oH(r s:Rt):Bq (GI r s):=Q2 _ _
theorem ZkX :(2:Nat) ^ 64<IX:=by unfold IX BS;decide
theorem YS{n:Int}(h:n.natAbs<=2 ^ 63):Bq (Dw n):=
 have h1:=Nat.gcd_one_right n.natAbs
 .inr ⟨Nat.one_pos,h1,by have:=ZkX;show n.natAbs<IX;omega,by have:=ZkX;show 1<IX;omega⟩
structure Lk where
 a:Int
 b:Int
 w:Rt
 dx:Rt
 dy:Rt
deriving DecidableEq
def Gr(n:Int):Bool:=Be n 0 9
def QU(l:Lk):Bool:=Gr l.a && (Gr l.b && (decide (l.a<l.b) && (decide (0<IY l.w) && (QC l.dx && QC l.dy))))
def Ew(k l:Lk):Bool:=decide (k.a<l.a)||(decide (k.a=l.a) && decide (k.b<l.b))
def RF:List Lk->Bool
 |[]=>true
 |[_]=>true
 |k::l::r=>Ew k l && RF (l::r)
def D6(l:Lk):Prop:=Bq l.w/\Bq l.dx/\Bq l.dy
def TW(x y:Rt):Rt:=Xc (XX x x) (XX y y)
def TX(k l:Lk):Option (Lk×Rt):=
 let sum:=Xc k.w l.w
 let dx:=FF (Xc (XX k.w k.dx) (XX l.w l.dx)) sum
 let dy:=FF (Xc (XX k.w k.dy) (XX l.w l.dy)) sum
 let e:=XX (FF (XX k.w l.w) sum) (TW (GI k.dx l.dx) (GI k.dy l.dy))
 if QC sum && (QC dx && (QC dy && QC e))then some (⟨k.a,k.b,sum,dx,dy⟩,e)else none
def JJ(set:List Lk)(l:Lk):Nat:=(set.takeWhile (fun k=>Ew k l)).length
def Lm(set:List Lk)(l:Lk):Option (List Lk×Rt):=
 match set[JJ set l]? with
 |none=>some (set.take (JJ set l)++[l],Dw 0)
 |some k=>if Ew l k then some (set.take (JJ set l)++(l::set.drop (JJ set l)),Dw 0)
  else match TX k l with
   |none=>none
   |some (x,e)=>some (set.take (JJ set l)++(x::set.drop (JJ set l+1)),e)
def QJ(s:Option (List Lk×Rt))(l:Lk):Option (List Lk×Rt):=
 match s with
 |none=>none
 |some (set,sum)=>match Lm set l with
  |none=>none
  |some (m,e)=>if QC (Xc sum e)then some (m,Xc sum e)else none
def Ph(l:List Lk):Option (List Lk×Rt):=l.foldl QJ (some ([],Dw 0))
def Ma(l:Lk)(v:Int):Bool:=decide (l.a=v)|| decide (l.b=v)
def TY(l:List Lk):List Int:=[1,2,3,4,5,6,7,8,9].filter fun v=>l.any fun x=>Ma x v
def GR(l:List Lk)(v:Int):List Lk:=l.filter fun x=>!Ma x v
theorem Z67{k l x:Lk}{e:Rt}(h:TX k l=some (x,e)):D6 x/\Bq e/\QC e=true/\x.a=k.a/\x.b=k.b:=by
 unfold TX at h;dsimp only at h;split at h
 .rename_i hc;simp only[Zc]at hc;simp only[Zi,Prod.mk.injEq]at h;obtain⟨rfl,rfl⟩:=h;exact⟨⟨Q2 _ _,JI _ _,JI _ _⟩,QA _ _,hc.2.2.2,rfl,rfl⟩
 .cases h
open Classical in
noncomputable def GJ(l:List Int):Bool:=decide (l.length<=60/\GQ l)
theorem JK  :GJ l=true↔l.length<=60/\GQ l:=by unfold GJ;simp
theorem Zbk(h:¬(l.length<=60/\GQ l)):GJ l=false:=by unfold GJ;simpa using h
theorem Z9Y(h:GJ l=true):l=Zz (Yt l):=(fC (JK.1 h).2).symm
theorem ZnR{n:Nat}(h:n<IX):(Zz n).length<=24:=YN h
structure RQ where
 neg:Bool
 m:List Int
 d:List Int
def Lp(r:Rt):RQ:=⟨decide (r.num<0),Zz r.num.natAbs,Zz r.den⟩
noncomputable def Lr(q:RQ):Bool:=(GJ q.m && !(q.neg && q.m.isEmpty)) && (GJ q.d && (!q.d.isEmpty && (decide (q.m.length<=24) && (decide (q.d.length<=24) && decide (Nat.gcd (Yt q.m) (Yt q.d)=1)))))
noncomputable def TZ(q:RQ):Int:=if Lr q then (if q.m=[]then 0 else if q.neg then -1 else 1)else 0
theorem ZiG(h:GQ l)(hl:l.length<=24):Yt l<IX:=Zf (Pg h.1) (YV hl)
theorem Zox{q:RQ}(h:Lr q=true):∃ r,oG r/\q=Lp r:=by
 obtain⟨neg,m,d⟩:=q;unfold Lr at h;simp only[Zc,Bool.not_eq_true',decide_eq_true_eq]at h;obtain⟨⟨h1,h2⟩,h3,h4,h5,h6,h7⟩:=h;have c1:=JK.1 h1;have c3:=JK.1 h3;have hd:d≠[]:=by intro e;subst e;simp at h4
 have hd0:=nZ c3.2 hd
 have hsn:neg=true->0<Yt m:=fun hn=>by
  subst hn;have:m≠[]:=by intro e;subst e;simp at h2
  exact nZ c1.2 this
 refine⟨⟨sg neg (Yt m),Yt d⟩,⟨hd0,?_,?_,ZiG c3.2 h6⟩,?_⟩
 .show Nat.gcd (sg neg (Yt m)).natAbs _=1;rw[TU];exact h7
 .show(sg neg (Yt m)).natAbs<_;rw[TU];exact ZiG c1.2 h5
 .unfold Lp;simp only[TU,Zns,fC c1.2,fC c3.2];congr 1;cases neg
  .rfl
  .have:=hsn rfl;simp;omega
theorem oI{r:Rt}(h:Bq r):Lr (Lp r)=QC r:=by
 rcases h with rfl|h
 .unfold Lr Lp zR QC;simp[Yd]
 .have e:QC r=true:=by unfold QC;have:=h.1;simp;omega
  rw[e];unfold Lr Lp;have g1:=ZnR h.2.2.1;have g2:=ZnR h.2.2.2;have n1:GJ (Zz r.num.natAbs)=true:=JK.2 ⟨o_,Yl _⟩;have n2:GJ (Zz r.den)=true:=JK.2 ⟨o_,Yl _⟩
  have n3:(Zz r.den).isEmpty=false:=by
   have:Zz r.den≠[]:=fun e=>by have:=J4.1 e;have:=h.1;omega
   cases hd:Zz r.den<;>simp_all
  have n4:(decide (r.num<0) && (Zz r.num.natAbs).isEmpty)=false:=by
   by_cases hn:r.num<0
   .have:Zz r.num.natAbs≠[]:=fun e=>by have:=J4.1 e;omega
    cases hd:Zz r.num.natAbs<;>simp_all
   .simp[hn]
  simp only[n1,n2,n3,n4,ZJ,h.2.1,g1,g2]
  rfl
theorem Z7Y{r:Rt}(h:Bq r):TZ (Lp r)=IY r:=by
 unfold TZ IY;rw[oI h];split
 .have e:(Lp r).m=[]↔ r.num=0:=by
   show Zz r.num.natAbs=[]↔ _;rw[J4];omega
  by_cases h0:r.num=0
  .rw[if_pos (e.2 h0),if_neg o_,if_pos h0]
  .rw[if_neg (fun h=>h0 (e.1 h))];show(if decide (r.num<0)=true then (-1:Int)else 1)= _;by_cases hn:r.num<0
   .rw[if_pos (by simpa using hn),if_pos hn]
   .rw[if_neg (by simpa using hn),if_neg hn,if_neg h0]
 .rfl
structure RL where
 a:Int
 b:Int
 w:RQ
 x:RQ
 y:RQ
def IZ(l:Lk):RL:=⟨l.a,l.b,Lp l.w,Lp l.dx,Lp l.dy⟩
noncomputable def RG(l:RL):Bool:=Gr l.a && (Gr l.b && (decide (l.a<l.b) && (decide (0<TZ l.w) && (Lr l.x && Lr l.y))))
def Vw(k l:RL):Bool:=decide (k.a<l.a)||(decide (k.a=l.a) && decide (k.b<l.b))
theorem ZdR{l:Lk}(h:D6 l):RG (IZ l)=QU l:=by
 unfold RG QU IZ;rw[Z7Y h.1,oI h.2.1,oI h.2.2]
def GL(ls:List RL)(k:Nat):Prop:=∀ (i:Nat) (l:RL),i<k->ls[i]? = some l->RG l=true/\∀ p,0<i->ls[i-1]? = some p->Vw p l=true
open Classical in
noncomputable def U0(ls:List RL):Bool:=decide (GL ls ls.length)
theorem ZjR{ls:List RL}(h:GL ls ls.length):U0 ls=true:=by unfold U0;simpa using h
theorem ZfP{ls:List RL}{k:Nat}{l:RL}(hl:ls[k]? = some l)(h:RG l=false∨∃ p,0<k/\ls[k-1]? = some p/\Vw p l=false):U0 ls=false:=by
 unfold U0;simp only[decide_eq_false_iff_not];intro hu;have h1:=hu k l (Za.1 hl).1 hl;rcases h with h |⟨p,h0,hp,h⟩
 .rw[h1.1]at h;cases h
 .rw[h1.2 p h0 hp]at h;cases h
theorem GL.zero(ls:List RL):GL ls 0:=fun i l h=>by omega
theorem GL.step{ls:List RL}{k:Nat}{l:RL}(h:GL ls k)(hl:ls[k]? = some l)(hv:RG l=true)(hp:∀ p,0<k->ls[k-1]? = some p->Vw p l=true):GL ls (k+1):=fun i x hi hx=>by
 rcases Nat.lt_or_ge i k with h1|h1
 .exact h i x h1 hx
 .obtain rfl:i=k:=by omega
  rw[hl]at hx
  obtain rfl:=Z7 hx
  exact⟨hv,hp⟩
structure Mg where
 s:Rt
 x:Rt
 y:Rt
 e:Rt
def FM(k l:Lk):Mg :=
 let s:=Xc k.w l.w
 ⟨s,FF (Xc (XX k.w k.dx) (XX l.w l.dx)) s,FF (Xc (XX k.w k.dy) (XX l.w l.dy)) s,XX (FF (XX k.w l.w) s) (TW (GI k.dx l.dx) (GI k.dy l.dy))⟩
theorem Za0(k l:Lk):TX k l=if QC (FM k l).s && (QC (FM k l).x && (QC (FM k l).y && QC (FM k l).e))then some (⟨k.a,k.b,(FM k l).s,(FM k l).x,(FM k l).y⟩,(FM k l).e)else none:=rfl
theorem Z85{r:Rt}  :0<IY r↔QC r=true/\0<r.num:=by
 unfold IY;cases QC r
 .simp
 .simp only[if_true,true_and];split
  .omega
  .split<;>omega
theorem ZoZ{n d:Int}(hn:0<n)(hd:0<d)(h:QC (I7 n d)=true):0 <(I7 n d).num:=by
 unfold I7 at h ⊢;rw[if_neg o_]at h ⊢;split at h
 .rename_i hc;rw[if_pos hc];have h1:decide (n<0)=false:=by simp;omega
  have h2:decide (d<0)=false:=by simp;omega
  rw[h1,h2];show 0<sg false _;have h3:0<n.natAbs / Nat.gcd n.natAbs d.natAbs:=Nat.div_pos (Nat.le_of_dvd o_ (Nat.gcd_dvd_left _ _)) (Nat.gcd_pos_of_pos_left _ o_);unfold sg;simp only[Bool.false_eq_true,if_false];omega
 .cases h
theorem ZlD{r s:Rt}(hr:0<IY r)(hs:0<IY s):decide (0<IY (Xc r s))=QC (Xc r s):=by
 obtain⟨r1,r2⟩:=Z85.1 hr;obtain⟨s1,s2⟩:=Z85.1 hs;rw[Bool.eq_iff_iff,decide_eq_true_iff,Z85];constructor
 .exact fun h=>h.1
 .intro h;refine⟨h,?_⟩;have e:Xc r s=I7 (r.num*s.den+s.num*r.den) (r.den*s.den:Nat):=by unfold Xc;rw[r1,s1];rfl
  have d1:0<r.den:=by unfold QC at r1;simp at r1;omega
  have d2:0<s.den:=by unfold QC at s1;simp at s1;omega
  rw[e]at h ⊢;refine ZoZ ?_ ?_ h
  .have h1:=Int.mul_pos r2 (show(0:Int)< s.den by omega);have h2:=Int.mul_pos s2 (show(0:Int)< r.den by omega);omega
  .have:=Nat.mul_pos d1 d2;omega
theorem Zp0{k l:Lk}(hk:QU k=true)(hl:QU l=true):(QU ⟨k.a,k.b,(FM k l).s,(FM k l).x,(FM k l).y⟩ && QC (FM k l).e)=(QC (FM k l).s && (QC (FM k l).x && (QC (FM k l).y && QC (FM k l).e))):=by
 unfold QU at hk hl;simp only[Zc,decide_eq_true_eq]at hk hl;have hp:decide (0<IY (FM k l).s)=QC (FM k l).s:=ZlD hk.2.2.2.1 hl.2.2.2.1;unfold QU;dsimp only;rw[hk.1,hk.2.1,hp];have:decide (k.a<k.b)=true:=by simpa using hk.2.2.1
 rw[this];cases QC (FM k l).s<;>cases QC (FM k l).x<;>cases QC (FM k l).y<;>rfl
def iE(l:List Int):List (List AV):=l.map fun x=>[.int .i64 x]
@[simp] theorem ZjZ(l:List Int):(iE l).length=l.length:=by simp[iE]
theorem Yu{k:Nat}{x:Int}(h:l[k]? = some x):(iE l)[k]? = some [.int .i64 x]:=by simp[iE,h]
theorem ZeB(l:List Int)(k:Nat):(iE l).take k=iE (l.take k):=by simp[iE]
theorem QH(l:List Int)(x:Int):iE l++[[.int .i64 x]]=iE (l++[x]):=by simp[iE]
theorem Kv(l:List Int)(k:Nat)(x:Int):(iE l).set k [.int .i64 x]=iE (l.set k x):=by simp[iE,List.map_set]
theorem oJ(n:Nat):Zk n [AV.int .i64 0]=iE (Zk n 0):=by simp[iE]
attribute [simp] List.findSome?_cons List.getElem?_cons_zero List.getElem?_cons_succ
@[simp] theorem Zr7 :iE []=[]:=rfl
theorem Fb{n:Int}(h:-9223372036854775808<=n)(h':n<=9223372036854775807):MW .i64 n:=Zpe h h'
theorem Bj{fn:Func}{c:Code}{n:Nat}{r:AV}{BK:Array ResultVar}(hf:Tryz.prog.funcs[f]? = some fn)(hn:fn.ntmps=n)(Lj:fn.results=BK)(h:QR prog c (Vn prog BK.toList r) (act (σ0 ds n))) 
  (hb : fn.body = some c := by rfl) (hname : (fn.name == "runtime.NumGoroutine") = false := by rfl) (hbody : Jc n c = true := by decide +kernel) (hds : decide (ds.length ≤ n) = true := by rfl) (Ku : ds.all O0 = true := by rfl) (hok : GG r = true := by rfl) : Spec prog f ds r := Qu M8 hf hb hname hn Lj hbody hds Ku hok h
theorem BI{fn:Func}{c:Code}{n:Nat}{post:AV->Prop}{BK:Array ResultVar}(hf:Tryz.prog.funcs[f]? = some fn)(hn:fn.ntmps=n)(Lj:fn.results=BK)(h:QR prog c (nT prog BK.toList post) (act (σ0 ds n))) 
  (hb : fn.body = some c := by rfl) (hname : (fn.name == "runtime.NumGoroutine") = false := by rfl) (hbody : Jc n c = true := by decide +kernel) (hds : decide (ds.length ≤ n) = true := by rfl) (Ku : ds.all O0 = true := by rfl) : AF prog f ds post := Z1n M8 hf hb hname hn Lj hbody hds Ku h
theorem Ye{p:Prop}(h:p:=by first|rfl|assumption|omega|exact Fb o_ o_| exact EM BC| exact⟨none,s_⟩|(unfold maxLen;omega)):p:=h
def BU:AV->Nat
 |.int _ n=>n.toNat
 |_=>0
@[simp] theorem ZsK(k:IntKind)(n:Int):BU (.int k n)=n.toNat:=rfl
def U5:List AV->Int
 |[.int _ n]=>n
 |_=>0
def oK:AV->Nat
 |.sl _ _ _ els=>Yt (els.map U5)
 |_=>0
@[simp] theorem Ztl(ns:Bool)(E:TypeId)(sz:Nat)(l:List Int):oK (.sl ns E sz (iE l))=Yt l:=by
 have h:(iE l).map U5=l:=by
  unfold iE;rw[List.map_map];have:(U5 ∘ fun x=>[AV.int .i64 x])=id:=rfl;rw[this,List.map_id]
 show Yt ((iE l).map U5)= _;rw[h]
theorem fG{n:Int}(h:0<=n)(k:Int):n.tdiv k=n / k:=Int.tdiv_eq_ediv_of_nonneg h
theorem Nj{n:Int}(h:0<=n)(k:Int):n.tmod k=n % k:=Int.tmod_eq_emod_of_nonneg h
@[simp] theorem ZtD(x y:Int):(x == y)=decide (x=y):=by by_cases h:x=y<;>simp[h]
@[simp] theorem ZtC(x y:Int):(x != y)= !decide (x=y):=by by_cases h:x=y<;>simp[h]
def dQ(r:Rt):List AV:=[.bool (decide (r.num<0)),.sl false 3 1 (iE (Zz r.num.natAbs)),.sl false 3 1 (iE (Zz r.den))]
def Bd(l:Lk):List AV:=[.int .i64 l.a,.int .i64 l.b,.bool (decide (l.w.num<0)),.sl false 3 1 (iE (Zz l.w.num.natAbs)),.sl false 3 1 (iE (Zz l.w.den)),.bool (decide (l.dx.num<0)),.sl false 3 1 (iE (Zz l.dx.num.natAbs)),.sl false 3 1 (iE (Zz l.dx.den)),.bool (decide (l.dy.num<0)),.sl false 3 1 (iE (Zz l.dy.num.natAbs)),.sl false 3 1 (iE (Zz l.dy.den))]
def fA(f:A7):List AV:=[.int .i64 f.id,.int .i64 f.kind,.str f.AL,.str f.Z00,.int .i64 f.Af.turn,.int .i64 f.Af.x,.int .i64 f.Af.y,.int .i64 f.Ao]
def fE(l:List A7):List (List AV):=l.map fA
@[simp] theorem Zrp(l:List A7):(fE l).length=l.length:=by simp[fE]
theorem RH{l:List A7}{k:Nat}{x:A7}(h:l[k]? = some x):(fE l)[k]? = some (fA x):=by simp[fE,h]
theorem Zpm(l:List A7)(x:A7):fE l++[fA x]=fE (l++[x]):=by simp[fE]
@[simp] theorem Ztd :fE []=[]:=rfl
theorem ZnG(l:List A7):∀ ds∈fE l,ds.all EL=true:=fun ds h=>by obtain⟨f,_,rfl⟩:=List.mem_map.1 h;rfl
theorem Zii(l:List A7):(fE l).map Gq=l.map A7.cells:=by unfold fE;rw[List.map_map];rfl
def sE(l:List ByteArray):List (List AV):=l.map fun s=>[.str s]
@[simp] theorem Zt2(l:List ByteArray):(sE l).length=l.length:=by simp[sE]
theorem Zqs{l:List ByteArray}{k:Nat}{x:ByteArray}(h:l[k]? = some x):(sE l)[k]? = some [.str x]:=by simp[sE,h]
@[simp] theorem Zt1 :sE []=[]:=rfl
theorem Zr5(l:List ByteArray):∀ ds∈sE l,ds.all EL=true:=fun ds h=>by obtain⟨f,_,rfl⟩:=List.mem_map.1 h;rfl
theorem Zoj(l:List ByteArray):(sE l).map Gq=l.map ZZ:=by unfold sE;rw[List.map_map];rfl
def K3(l:List A7):Prop:=l.length<=100000/\∀ f∈l,f.AL.size<=4194304/\f.Z00.size<=4194304
theorem Zfh{m:Mem}{w:World}{v:Value}{l:List A7}(h:XQ m w v (.sl ns 35 8 (fE l))):∃ A c,v=.slice A l.length c/\Cy w A l.length l:=by
 obtain⟨A,n,c,rfl,hn,hrow,_⟩:=Zqq h (ZnG l);rw[Zrp]at hn;subst hn;rw[Zii]at hrow;exact⟨A,c,rfl,hrow⟩
theorem YU(l:List A7)(hs:K3 l):Spec prog 44 [.sl true 35 8 (fE l)] (.bool (YW l)):=
 nW rfl (Vp func44 rfl rfl) fun w F vs hl hvs=>by
  obtain⟨v0,rfl,h0⟩:=nX hl hvs
  obtain⟨A,c,rfl,hr⟩:=Zfh h0
  refine(Yb A l.length c l w (by have:=hs.1;omega) hr hs.2).mono fun e w' he=>?_
  obtain⟨rfl,hb⟩:=he
  exact⟨_,rfl,Zea w F w' (d:=.bool (YW l)) rfl,hb⟩
theorem Vx(l:List A7)(hs:K3 l):Spec prog 67 [.sl true 35 8 (fE l)] (.own 9 1 (sE (Yk l))):=
 nW rfl (Vp func67 rfl rfl) fun w F vs hl hvs=>by
  obtain⟨v0,rfl,h0⟩:=nX hl hvs
  obtain⟨A,c,rfl,hr⟩:=Zfh h0
  refine(Z34 A l.length c l w hs.1 hr).mono fun e w' he=>?_
  obtain⟨v,rfl,how,hb,_⟩:=he
  exact⟨_,rfl,Zlx (by rw[Zoj];exact how) (Zr5 _),hb⟩
theorem Z8Z(f:A7)(h1:f.AL.size<=4194304)(h2:f.Z00.size<=4194304):Spec prog 66 [.agg (fA f)] (.bool (Zy f)):=
 nW rfl (Vp func66 rfl rfl) fun w F vs hl hvs=>by
  obtain⟨v0,rfl,h0⟩:=nX hl hvs
  have e:=Zgn h0 rfl
  subst e
  refine(ZE f.id f.kind f.AL f.Z00 f.Af.turn f.Af.x f.Af.y f.Ao w h1 h2).mono fun e w' he=>?_
  obtain⟨rfl,hb⟩:=he
  exact⟨_,rfl,Zea w F w' (d:=.bool (Zy f)) rfl,hb⟩
theorem JB(t x y:Int):Spec prog 98 [.agg [.int .i64 t,.int .i64 x,.int .i64 y]] (.bool (Yi t x y)):=
 nW rfl (Vp func98 rfl rfl) fun w F vs hl hvs=>by
  obtain⟨v0,rfl,h0⟩:=nX hl hvs
  have e:=Zgn h0 rfl
  subst e
  refine(Ym t x y w).mono fun e w' he=>?_
  obtain⟨rfl,hb⟩:=he
  exact⟨_,rfl,Zea w F w' (d:=.bool (Yi t x y)) rfl,hb⟩
theorem JE{t x y:Int}  :Yi t x y=true ↔(0<=t/\t<=3)/\(-1000000<=x/\x<=1000000)/\(-1000000<=y/\y<=1000000):=by
 unfold Yi Be;simp[and_assoc]
structure oL(f:A7):Prop where
 id:0<=f.id/\f.id<=99999
 kind:1<=f.kind/\f.kind<=4
 turn:0<=f.Af.turn/\f.Af.turn<=3
 x:-1000000<=f.Af.x/\f.Af.x<=1000000
 y:-1000000<=f.Af.y/\f.Af.y<=1000000
 w:1<=f.Ao/\f.Ao<=9999
 Z00:f.Z00.toList.isEmpty=false
 AL:f.kind≠1->f.AL.toList.isEmpty=false
theorem fH{s:ByteArray}{b:Int}(h:Xe s b=true):s.toList.isEmpty=false:=by
 unfold Xe FH at h;simp only[Zc,decide_eq_true_eq]at h;rw[ByteArray.toList_eq];have h1:1<=s.data.size:=h.1.1.1;cases hd:s.data.toList with
 |nil=>rw[<- Array.length_toList,hd]at h1;simp at h1
 |cons a l=>rfl
theorem Z63{f:A7}(h:Zy f=true):oL f:=by
 unfold Zy Mi at h;simp only[Zc]at h;obtain⟨h1,h2,h3,h4⟩:=h;obtain⟨p1,p2,p3⟩:=JE.1 h2;have i1:0<=f.id/\f.id<=99999:=by unfold Be at h1;simpa using h1
 have i3:1<=f.Ao/\f.Ao<=9999:=by unfold Be at h3;simpa using h3
 split at h4
 .rename_i hk;simp only[Zc]at h4;exact⟨i1,o_,p1,p2,p3,i3,fH h4.2,fun hn=>absurd hk hn⟩
 .split at h4
  .simp only[Zc]at h4;exact⟨i1,o_,p1,p2,p3,i3,fH h4.2.1,fun _=>fH h4.1⟩
  .split at h4
   .simp only[Zc]at h4;exact⟨i1,o_,p1,p2,p3,i3,fH h4.2.1,fun _=>fH h4.1⟩
   .cases h4
theorem ZbO:∀ {l:List A7} {p:Option Int},JW l p=true->∀ f∈l,Zy f=true
 |[],_,_,f,hf=>by simp at hf
 |g::l,p,h,f,hf=>by
  simp only[JW,Zc]at h
  rcases Zn.1 hf with rfl|hf
  .exact h.1
  .exact ZbO h.2.2 f hf
theorem X5{l:List A7}(h:YW l=true):l.length<=40/\(∀ f∈l,oL f)/\(Yk l).length<10:=by
 unfold YW at h;simp only[Zc,decide_eq_true_eq]at h;exact⟨h.1,fun f hf=>Z63 (ZbO h.2.1 f hf),h.2.2⟩
theorem Z8S{s t:ByteArray}(h:Q3 L t=true):Q3 (JX L s) t=true:=by
 unfold JX;split
 .exact h
 .unfold Q3 at h ⊢;rw[List.any_append,h];rfl
theorem Zav{s:ByteArray}(h:s.toList.isEmpty=false):Q3 (JX L s) s=true:=by
 unfold JX;split
 .rename_i hc;rw[h,Bool.false_or]at hc;exact hc
 .unfold Q3;rw[List.any_append];simp
theorem ZbC:∀ (l:List A7) (L:List ByteArray) (t:ByteArray),Q3 L t=true->Q3 (l.foldl QT L) t=true
 |[],_,_,h=>h
 |f::l,L,t,h=>ZbC l _ t (Z8S (Z8S h))
theorem Z8h:∀ (l:List A7) (L:List ByteArray) (f:A7),f∈l->(f.AL.toList.isEmpty=false->Q3 (l.foldl QT L) f.AL=true)/\(f.Z00.toList.isEmpty=false->Q3 (l.foldl QT L) f.Z00=true)
 |g::l,L,f,hf=>by
  rcases Zn.1 hf with rfl|hf
  .exact⟨fun h=>ZbC l _ _ (Z8S (Zav h)),fun h=>ZbC l _ _ (Zav h)⟩
  .exact Z8h l _ f hf
theorem Zhy{s:ByteArray}  :Q3 L s=true ↔ ∃ x∈L,x.toList=s.toList:=by
 unfold Q3;simp
theorem YK(l:List Int)(hl:l.length<=1000):Spec prog 212 [.sl false 3 1 (iE l)] (.sl false 3 1 (iE (IW l))):=by
 refine Bj func212 ntmps212 results212 ?_;simp;refine Ec (fun σ=>∃ k:Nat,k<=l.length/\(∀ (i:Nat) d,k<=i->l[i]? = some d->d=0)/\σ.env 0=.sl false 3 1 (iE l)/\σ.env 3=.int .i64 k) (fun σ=>BU (σ.env 3)) ?_ ?_
 .refine⟨l.length,Zd _,fun i d h1 h2=>?_,s_,s_⟩;rw[List.getElem?_eq_none h1]at h2;cases h2
 .rintro σ ⟨k,hk,h0,e0,e3⟩;have hex:(∀ d,0<k->l[k-1]? = some d->d≠0)->List.take k (iE l)=iE (IW l):=fun h=>by rw[ZeB,Zom hk h0 h]
  by_cases hk0:0<k
  .obtain⟨x,hx⟩:∃ x,l[k-1]? = some x:=⟨_,Z4 o_⟩;have hx2:=Yu hx;have e1:((k:Int)-1).toNat=k-1:=by omega
   simp[e0,e3,hk0,e1,hx2];refine⟨Fb o_ o_,o_,fun hz=>⟨Fb o_ o_,⟨k-1,o_,fun i d h1 h2=>?_,o_⟩,o_⟩,fun hz=>⟨hk,hex fun d _ h2=>?_⟩⟩
   .rcases Nat.lt_or_ge i k with h3|h3
    .obtain rfl:i=k-1:=by omega
     rw[hx]at h2;obtain rfl:=Z7 h2;exact hz
    .exact h0 i d h3 h2
   .rw[hx]at h2;obtain rfl:=Z7 h2;exact hz
  .simp[e0,e3,hk0];exact⟨hk,hex fun d h=>absurd h hk0⟩
theorem Jx(a b:Nat)(ha:(Zz a).length<=1000)(hb:(Zz b).length<=1000):Spec prog 191 [.sl true 3 1 (iE (Zz a)),.sl true 3 1 (iE (Zz b))] (.int .i64 (M9 a b)):=by
 have ca:=Yl a;have cb:=Yl b
 have UX:(Zz a).length <(Zz b).length->M9 a b = -1:=fun h=>by
  have:=ZeG ca cb h;rw[ZJ,ZJ]at this;unfold M9;rw[if_pos this]
 have gt1:(Zz b).length <(Zz a).length->M9 a b=1:=fun h=>by
  have:=ZeG cb ca h;rw[ZJ,ZJ]at this;unfold M9;rw[if_neg o_,if_neg o_]
 refine Bj func191 ntmps191 results191 ?_;simp;refine⟨fun h=>by rw[UX h],fun h1=>⟨fun h=>by rw[gt1 h],fun h2=>?_⟩⟩;have hl:(Zz a).length=(Zz b).length:=by omega
 refine⟨Fb o_ o_,?_⟩;refine Ec (fun σ=>∃ k:Nat,k<=(Zz a).length/\(Zz a).drop k=(Zz b).drop k/\σ.env 0=.sl true 3 1 (iE (Zz a))/\σ.env 1=.sl true 3 1 (iE (Zz b))/\σ.env 5=.int .i64 ((k:Int)-1)) (fun σ=>match σ.env 5 with|.int _ n=>(n+1).toNat|_=>0) ?_ ?_
 .refine⟨(Zz a).length,Zd _,?_,s_,s_,s_⟩;rw[List.drop_length,hl,List.drop_length]
 .rintro σ ⟨k,hk,hd,e0,e1,e5⟩;by_cases hk0:1<=k
  .have ea:(Zz a)[k-1]? = some ((Zz a)[k-1]'o_):=Z4 _;have eb:(Zz b)[k-1]? = some ((Zz b)[k-1]'o_):=Z4 _;generalize (Zz a)[k-1]'o_=x at ea;generalize (Zz b)[k-1]'o_=y at eb;have ea2:=Yu ea;have eb2:=Yu eb;have ek:((k:Int)-1).toNat=k-1:=by omega
   have GU:(1:Int)<=(k:Int):=by omega
   simp[e0,e1,e5,ek,ea2,eb2,GU];have hd2:(Zz a).drop (k-1+1)=(Zz b).drop (k-1+1):=by rw[show k-1+1=k by omega];exact hd
   refine⟨EM BC,fun hxy=>?_,fun hyx=>⟨EM BC,fun hxy=>?_,fun hxy=>⟨Fb o_ o_,⟨k-1,o_,?_,o_⟩,o_⟩⟩⟩
   .have:=ZnW ca.1 cb.1 ea eb hd2 hxy;rw[ZJ,ZJ]at this;unfold M9;rw[if_pos this]
   .have:=ZnW cb.1 ca.1 eb ea hd2.symm hxy;rw[ZJ,ZJ]at this;unfold M9;rw[if_neg o_,if_neg o_]
   .obtain⟨q1,rfl⟩:=Za.1 ea;obtain⟨q2,q3⟩:=Za.1 eb;rw[List.drop_eq_getElem_cons q1,List.drop_eq_getElem_cons q2,hd2,q3];congr 1;omega
  .have GU:¬(1:Int)<=(k:Int):=by omega
   simp[e0,e1,e5,GU];obtain rfl:k=0:=by omega
   rw[List.drop_zero,List.drop_zero]at hd;have:=congrArg Yt hd;rw[ZJ,ZJ]at this;unfold M9;rw[if_neg o_,if_pos this]
theorem X6(N:Nat)(hN:N<18446744073709551616):Spec prog 162 [.int .u64 N] (.own 3 1 (iE (Zz N))):=by
 refine Bj func162 ntmps162 results162 ?_;simp;refine Ec (fun σ=>∃ (n st:Nat) (s:List Int),n<=N/\s.length<=1000/\s.length+(Zz n).length<=1000/\Zz N=s++Zz n/\σ.env 0=.int .u64 n/\σ.env 3=.vw 4 st/\σ.box 4=some ⟨3,1,st,iE s,true⟩) (fun σ=>BU (σ.env 0)) ?_ ?_
 .refine⟨N,1,[],Zd _,s_,?_,rfl,s_,s_,s_⟩;have:(Zz N).length<=3:=YN (by unfold BS;omega);simp;omega
 .rintro σ ⟨n,st,s,hn,hs,hs2,hd,e0,e3,b4⟩;by_cases h0:0<n
  .obtain⟨r,hr⟩:∃ r,r=n % BS:=⟨_,rfl⟩;obtain⟨q,hq⟩:∃ q,q=n / BS:=⟨_,rfl⟩;have hlt:=Nat.div_lt_self h0 (show 1<BS by unfold BS;omega);have hds:=XE h0;have hrl:=Nat.mod_lt n Pf;rw[<- hr,<- hq]at hds;rw[<- hq]at hlt;rw[<- hr]at hrl;have m1:((n:Int)).tmod 1000000000=(r:Int):=by rw[Int.tmod_eq_emod_of_nonneg o_,hr];unfold BS;omega
   have m2:((n:Int)).tdiv 1000000000=(q:Int):=by rw[Int.tdiv_eq_ediv_of_nonneg o_,hq];unfold BS;omega
   have m3:IntKind.i64.wrap (r:Int)=(r:Int):=Fb o_ (by unfold BS at hrl;omega);have hl2:=congrArg List.length hds;simp only[List.length_cons]at hl2;clear hr hq;simp[e0,e3,b4,h0,m1,m2,m3,QH];refine⟨⟨o_,by unfold maxLen;omega⟩,Rq o_ o_,⟨q,o_,_,s++[(r:Int)],AR,AR,by rw[hd,hds];simp,rfl,rfl,rfl⟩,hlt⟩
  .simp[e0,e3,b4,h0];have:n=0:=by omega
   subst this;rw[hd,Yd,List.append_nil]
theorem Zby(a b:Nat)(ha:(Zz a).length<=1000)(hb:(Zz b).length<=1000):Spec prog 190 [.sl true 3 1 (iE (Zz a)),.sl true 3 1 (iE (Zz b))] (.own 3 1 (iE (Zz (a+b)))):=by
 have ca:=Yl a;have cb:=Yl b;refine Bj func190 ntmps190 results190 ?_;simp[-getElem?_pos,-exists_and_left,-exists_and_right];refine Ec (fun σ=>∃ (i st:Nat) (c:Int) (s:List Int),(i:Int)+c<=1001/\s.length=i/\Eh (Zz a) (Zz b) s c i/\σ.env 0=.sl true 3 1 (iE (Zz a))/\σ.env 1=.sl true 3 1 (iE (Zz b))/\σ.env 5=.vw 8 st/\σ.env 6=.int .i64 c/\σ.env 7=.int .i64 i/\σ.box 8=some ⟨3,1,st,iE s,true⟩) (fun σ=>1002-BU (σ.env 7)) ?_ ?_
 .exact⟨0,1,0,[],o_,rfl,ZdN _ _,s_⟩
 .rintro σ ⟨i,st,c,s,hi,hs,inv,E⟩;have c0:=inv.c0;have c1:=inv.c1;by_cases ga:i <(Zz a).length<;>by_cases gb:i <(Zz b).length
  .obtain⟨x,hx⟩:∃ x,(Zz a)[i]? = some x:=⟨_,Z4 ga⟩;have bx:=At.bd (.inl hx) ca.1;have hx2:=Yu hx;obtain⟨y,hy⟩:∃ y,(Zz b)[i]? = some y:=⟨_,Z4 gb⟩;have bY:=At.bd (.inl hy) cb.1;have hy2:=Yu hy;have st:=inv.step ca cb (.inl hx) (.inl hy) (.inl ga);have h0:0<=c+x+y:=by omega
   have m3:=Fb (n:=(c+x+y) % 1000000000) o_ o_;have m1:IntKind.i64.wrap ((c+x+y) % 1000000000)=(c+x+y) % 1000000000:=m3;generalize hr:(c+x+y) % 1000000000=r at st m1 m3;generalize hq:(c+x+y) / 1000000000=q at st;simp[-getElem?_pos,-exists_and_left,-exists_and_right,E,ga,gb,fG h0,Nj h0,hr,hq,m1,QH,hx2,hy2]
   ((repeat' with_reducible apply And.intro)<;> try exact Ye);have:=st.c1;exact⟨i+1,_,q,s++[r],o_,by simp[hs],st,rfl,rfl,o_,rfl,rfl⟩
  .obtain⟨x,hx⟩:∃ x,(Zz a)[i]? = some x:=⟨_,Z4 ga⟩;have bx:=At.bd (.inl hx) ca.1;have hx2:=Yu hx;have st:=inv.step ca cb (.inl hx) (y:=0) (.inr ⟨o_,rfl⟩) (.inl ga);simp only[Int.add_zero]at st;have h0:0<=c+x:=by omega
   have m3:=Fb (n:=(c+x) % 1000000000) o_ o_;have m1:IntKind.i64.wrap ((c+x) % 1000000000)=(c+x) % 1000000000:=m3;generalize hr:(c+x) % 1000000000=r at st m1 m3;generalize hq:(c+x) / 1000000000=q at st;simp[-getElem?_pos,-exists_and_left,-exists_and_right,E,ga,gb,fG h0,Nj h0,hr,hq,m1,QH,hx2]
   ((repeat' with_reducible apply And.intro)<;> try exact Ye);have:=st.c1;exact⟨i+1,_,q,s++[r],o_,by simp[hs],st,rfl,rfl,o_,rfl,rfl⟩
  .obtain⟨y,hy⟩:∃ y,(Zz b)[i]? = some y:=⟨_,Z4 gb⟩;have bY:=At.bd (.inl hy) cb.1;have hy2:=Yu hy;have st:=inv.step ca cb (x:=0) (.inr ⟨o_,rfl⟩) (.inl hy) (.inr (.inl gb));simp only[Int.add_zero]at st;have h0:0<=c+y:=by omega
   have m3:=Fb (n:=(c+y) % 1000000000) o_ o_;have m1:IntKind.i64.wrap ((c+y) % 1000000000)=(c+y) % 1000000000:=m3;generalize hr:(c+y) % 1000000000=r at st m1 m3;generalize hq:(c+y) / 1000000000=q at st;simp[-getElem?_pos,-exists_and_left,-exists_and_right,E,ga,gb,fG h0,Nj h0,hr,hq,m1,QH,hy2]
   ((repeat' with_reducible apply And.intro)<;> try exact Ye);have:=st.c1;exact⟨i+1,_,q,s++[r],o_,by simp[hs],st,rfl,rfl,o_,rfl,rfl⟩
  .by_cases gc:0<c
   .have st:=inv.step ca cb (x:=0) (.inr ⟨o_,rfl⟩) (y:=0) (.inr ⟨o_,rfl⟩) (.inr (.inr gc));simp only[Int.add_zero]at st;have h0:0<=c:=by omega
    have m3:=Fb (n:=(c) % 1000000000) o_ o_;have m1:IntKind.i64.wrap ((c) % 1000000000)=(c) % 1000000000:=m3;generalize hr:(c) % 1000000000=r at st m1 m3;generalize hq:(c) / 1000000000=q at st;simp[-getElem?_pos,-exists_and_left,-exists_and_right,E,ga,gb,fG h0,Nj h0,hr,hq,m1,QH,gc]
    ((repeat' with_reducible apply And.intro)<;> try exact Ye);have:=st.c1;exact⟨i+1,_,q,s++[r],o_,by simp[hs],st,rfl,rfl,o_,rfl,rfl⟩
   .simp[-getElem?_pos,-exists_and_left,-exists_and_right,E,ga,gb,gc];have:=inv.done o_ o_ o_;rw[ZJ,ZJ]at this;rw[this]
theorem Zlr{s:List Int}{n:Nat}{d:Int}(h:0<n):(s++Zk n 0).set s.length d=(s++[d])++Zk (n-1) 0:=by
 obtain⟨m,rfl⟩:∃ m,n=m+1:=⟨n-1,o_⟩;rw[List.set_append_right _ _ (Zd _),Nat.sub_self,List.replicate_succ,List.set_cons_zero];simp[-getElem?_pos,-exists_and_left,-exists_and_right]
theorem Jw(a b:Nat)(ha:(Zz a).length<=1000)(hb:(Zz b).length<=1000)(hab:b<=a):Spec prog 192 [.sl true 3 1 (iE (Zz a)),.sl true 3 1 (iE (Zz b))] (.sl false 3 1 (iE (Zz (a-b)))):=by
 have ca:=Yl a;have cb:=Yl b;have hl:(Zz b).length<=(Zz a).length:=TS ca cb (by rw[ZJ,ZJ];exact hab);refine Bj func192 ntmps192 results192 ?_;simp[-getElem?_pos,-exists_and_left,-exists_and_right];refine⟨by unfold maxLen;omega,?_⟩;refine Ec (fun σ=>∃ (i st:Nat) (c:Int) (s p:List Int),i<=(Zz a).length/\s.length=i/\p.length=(Zz a).length/\p=s++Zk ((Zz a).length-i) 0/\Df (Zz a) (Zz b) s c i/\σ.env 0=.sl true 3 1 (iE (Zz a))/\σ.env 1=.sl true 3 1 (iE (Zz b))/\σ.env 5=.vw 11 st/\σ.env 6=.int .i64 c/\σ.env 13=.int .i64 (Zz a).length/\σ.env 14=.int .i64 i/\σ.box 11=some ⟨3,1,st,iE p,true⟩) (fun σ=>1002-BU (σ.env 14)) ?_ ?_
 .exact⟨0,3,0,[],_,o_,rfl,s_,rfl,Zdr _ _,by simp[oJ]⟩
 .rintro σ ⟨i,st,c,s,p,hi,hs,hpl,hp,inv,E⟩;have c0:=inv.c0;have c1:=inv.c1;by_cases ga:i <(Zz a).length
  .obtain⟨x,hx⟩:∃ x,(Zz a)[i]? = some x:=⟨_,Z4 ga⟩;have bx:=At.bd (.inl hx) ca.1;have hx2:=Yu hx;obtain⟨z,hz⟩:∃ z,p[i]? = some z:=⟨_,Z4 o_⟩;have hz2:=Yu hz;have hset:∀ d,p.set i d=(s++[d])++Zk ((Zz a).length-(i+1)) 0:=fun d=>by rw[hp,<- hs,Zlr o_,Nat.sub_sub]
   by_cases gb:i <(Zz b).length
   .obtain⟨y,hy⟩:∃ y,(Zz b)[i]? = some y:=⟨_,Z4 gb⟩;have bY:=At.bd (.inl hy) cb.1;have hy2:=Yu hy;by_cases gd:x-c-y<0
    .have st:=inv.RE ca.1 cb.1 (.inl hx) (.inl hy) gd;simp[-getElem?_pos,-exists_and_left,-exists_and_right,E,ga,gb,gd,hx2,hy2,Kv,hpl,hz2]
     ((repeat' with_reducible apply And.intro)<;> try exact Ye);exact⟨i+1,_,1,_,_,o_,by simp[hs],by simp[hpl],hset _,st,rfl,rfl,o_,rfl,rfl⟩
    .have st:=inv.RB ca.1 cb.1 (.inl hx) (.inl hy) gd;simp[-getElem?_pos,-exists_and_left,-exists_and_right,E,ga,gb,gd,hx2,hy2,Kv,hpl,hz2]
     ((repeat' with_reducible apply And.intro)<;> try exact Ye);exact⟨i+1,_,0,_,_,o_,by simp[hs],by simp[hpl],hset _,st,rfl,rfl,o_,rfl,rfl⟩
   .by_cases gd:x-c<0
    .have st:=inv.RE ca.1 cb.1 (.inl hx) (y:=0) (.inr ⟨o_,rfl⟩) o_;simp only[Int.sub_zero]at st;simp[-getElem?_pos,-exists_and_left,-exists_and_right,E,ga,gb,gd,hx2,Kv,hpl,hz2]
     ((repeat' with_reducible apply And.intro)<;> try exact Ye);exact⟨i+1,_,1,_,_,o_,by simp[hs],by simp[hpl],hset _,st,rfl,rfl,o_,rfl,rfl⟩
    .have st:=inv.RB ca.1 cb.1 (.inl hx) (y:=0) (.inr ⟨o_,rfl⟩) o_;simp only[Int.sub_zero]at st;simp[-getElem?_pos,-exists_and_left,-exists_and_right,E,ga,gb,gd,hx2,Kv,hpl,hz2]
     ((repeat' with_reducible apply And.intro)<;> try exact Ye);exact⟨i+1,_,0,_,_,o_,by simp[hs],by simp[hpl],hset _,st,rfl,rfl,o_,rfl,rfl⟩
  .simp[-getElem?_pos,-exists_and_left,-exists_and_right,E,ga];obtain rfl:i=(Zz a).length:=by omega
   have e:=inv.done hl (by rw[ZJ,ZJ];exact hab);rw[ZJ,ZJ]at e;have:p=s:=by rw[hp];simp[-getElem?_pos,-exists_and_left,-exists_and_right]
   subst this;refine ZhU [11] (YK p o_) ?_;simp[-getElem?_pos,-exists_and_left,-exists_and_right,e]
theorem Z1a(a b:Nat)(ha:(Zz a).length<=400)(hb:(Zz b).length<=400):Spec prog 193 [.sl true 3 1 (iE (Zz a)),.sl true 3 1 (iE (Zz b))] (.sl false 3 1 (iE (Zz (a*b)))):=by
 have ca:=Yl a;have cb:=Yl b;refine Bj func193 ntmps193 results193 ?_;by_cases a0:Zz a=[]
 .have:a=0:=by rw[<- ZJ a,a0];rfl
  subst this;simp[-getElem?_pos,-exists_and_left,-exists_and_right,Yd]
 by_cases b0:Zz b=[]
 .have:b=0:=by rw[<- ZJ b,b0];rfl
  subst this;simp[-getElem?_pos,-exists_and_left,-exists_and_right,a0,Yd]
 have en:((Zz a).length+(Zz b).length:Int).toNat=(Zz a).length+(Zz b).length:=by omega
 simp[-getElem?_pos,-exists_and_left,-exists_and_right,a0,b0,en]
 ((repeat' with_reducible apply And.intro)<;> try exact Ye);refine Ec (fun σ=>∃ (i st:Nat) (p:List Int),i<=(Zz a).length/\Cf (Zz a) (Zz b) p 0 0 i 0/\σ.env 0=.sl true 3 1 (iE (Zz a))/\σ.env 1=.sl true 3 1 (iE (Zz b))/\σ.env 5=.vw 22 st/\σ.env 24=.int .i64 (Zz a).length/\σ.env 25=.int .i64 i/\σ.box 22=some ⟨3,1,st,iE p,true⟩) (fun σ=>1001-BU (σ.env 25)) ?_ ?_
 .exact⟨0,_,_,o_,ZdC _ _ _,s_,s_,by simp;rfl,by simp[oJ]⟩
 .rintro σ ⟨i,st,p,hi,inv,e0,e1,e5,e24,e25,K4⟩;have hpl:=inv.len;by_cases ga:i <(Zz a).length
  .obtain⟨x,hx⟩:∃ x,(Zz a)[i]? = some x:=⟨_,Z4 ga⟩;have bx:=At.bd (.inl hx) ca.1;have hx2:=Yu hx;simp[-getElem?_pos,-exists_and_left,-exists_and_right,e0,e1,e5,e24,e25,K4,ga];refine Ec (fun σ=>∃ (j:Nat) (c:Int) (p:List Int),j<=(Zz b).length/\Cf (Zz a) (Zz b) p x c i j/\σ.env 0=.sl true 3 1 (iE (Zz a))/\σ.env 1=.sl true 3 1 (iE (Zz b))/\σ.env 5=.vw 22 st/\σ.env 6=.int .i64 i/\σ.env 7=.int .i64 c/\σ.env 24=.int .i64 (Zz a).length/\σ.env 25=.int .i64 i/\σ.env 29=.int .i64 (Zz b).length/\σ.env 30=.int .i64 j/\σ.box 22=some ⟨3,1,st,iE p,true⟩) (fun σ=>1001-BU (σ.env 30)) ?_ ?_
   .exact⟨0,0,p,o_,inv.next,by simp[e0,e1,e5,e24,e25,K4]⟩
   .rintro σ2 ⟨j,c,p,hj,inv,e0,e1,e5,e6,e7,e24,fI,E⟩;have c0:=inv.c0;have c1:=inv.c1;have hpl:=inv.len;by_cases gb:j <(Zz b).length
    .obtain⟨y,hy⟩:∃ y,(Zz b)[j]? = some y:=⟨_,Z4 gb⟩;have hy2:=Yu hy;obtain⟨z,hz⟩:∃ z,p[i+j]? = some z:=⟨_,Z4 o_⟩;have hz2:=Yu hz;have eij:((i:Int)+(j:Int)).toNat=i+j:=by omega
     obtain⟨st',m0,m1,z0,z1⟩:=inv.step cb.1 bx hy hz;have h0:0<=c+(z+x*y):=by omega
     have m3:=Fb (n:=(c+(z+x*y)) % 1000000000) o_ o_;have m4:=Fb (n:=(c+(z+x*y))) o_ o_;have m5:=Fb (n:=((z+x*y))) o_ o_;have m6:=Fb (n:=((x*y))) o_ o_;have m2:IntKind.i64.wrap ((c+(z+x*y)) % 1000000000)=(c+(z+x*y)) % 1000000000:=m3;generalize hr:(c+(z+x*y)) % 1000000000=r at st' m2 m3;generalize hq:(c+(z+x*y)) / 1000000000=q at st';simp[-getElem?_pos,-exists_and_left,-exists_and_right,e0,e1,e5,e6,e7,e24,fI,E,gb,hx2,hy2,hz2,eij,Kv,fG h0,Nj h0,hr,hq,m2]
     ((repeat' with_reducible apply And.intro)<;> try exact Ye);exact⟨j+1,q,_,o_,st',rfl,o_,rfl⟩
    .obtain rfl:j=(Zz b).length:=by omega
     obtain⟨z,hz⟩:∃ z,p[i+(Zz b).length]? = some z:=⟨_,Z4 o_⟩;have hz2:=Yu hz;have eij:((i:Int)+((Zz b).length:Int)).toNat=i+(Zz b).length:=by omega
     simp[-getElem?_pos,-exists_and_left,-exists_and_right,e0,e1,e5,e6,e7,e24,e25,fI,E,hz2,eij,Kv]
     ((repeat' with_reducible apply And.intro)<;> try exact Ye);exact⟨i+1,_,_,o_,inv.row hx bx.1 0,rfl,o_,rfl,rfl⟩
  .obtain rfl:i=(Zz a).length:=by omega
   simp[-getElem?_pos,-exists_and_left,-exists_and_right,e0,e1,e5,e24,e25,K4];have e:=inv.done;rw[ZJ,ZJ]at e;refine Ah [22] ((YK p o_)) ?_;simp[-getElem?_pos,-exists_and_left,-exists_and_right,e]
theorem QO(l:List Int)(hl:l.length<=1000):Spec prog 187 [.sl true 3 1 (iE l)] (.own 3 1 (iE l)):=by
 refine Bj func187 ntmps187 results187 ?_;simp[-getElem?_pos,-exists_and_left,-exists_and_right]
 ((repeat' with_reducible apply And.intro)<;> try exact Ye)
theorem Xt(l:List Int)(hl:l.length<=2)(hm:Qy l):Spec prog 188 [.sl true 3 1 (iE l)] (.int .i64 (Yt l)):=by
 refine Bj func188 ntmps188 results188 ?_;simp[-getElem?_pos,-exists_and_left,-exists_and_right]
 ((repeat' with_reducible apply And.intro)<;> try exact Ye);refine Ec (fun σ=>∃ k:Nat,k<=l.length/\σ.env 0=.sl true 3 1 (iE l)/\σ.env 3=.int .i64 (Yt (l.drop k))/\σ.env 4=.int .i64 ((k:Int)-1)) (fun σ=>match σ.env 4 with|.int _ n=>(n+1).toNat|_=>0) ?_ ?_
 .exact⟨l.length,Zd _,by simp[Yt]⟩
 .rintro σ ⟨k,hk,E⟩;by_cases hk0:1<=k
  .obtain⟨x,hx⟩:∃ x,l[k-1]? = some x:=⟨_,Z4 o_⟩;have hx2:=Yu hx;have bx:=At.bd (.inl hx) hm;have ek:((k:Int)-1).toNat=k-1:=by omega
   have GU:(1:Int)<=(k:Int):=by omega
   have hv:=Vu hx;rw[Nat.sub_add_cancel hk0]at hv
   have hb:Yt (l.drop k)< BS:=by
    have:=Pg (Zhk hm k);have h2:=YV (a:=(l.drop k).length) (b:=1) (by rw[List.length_drop];omega);rw[Nat.pow_one]at h2;omega
   simp[-getElem?_pos,-exists_and_left,-exists_and_right,E,ek,hx2,GU];unfold BS at hv hb
   ((repeat' with_reducible apply And.intro)<;> try exact Ye);exact⟨k-1,o_,o_,o_⟩
  .have GU:¬(1:Int)<=(k:Int):=by omega
   obtain rfl:k=0:=by omega
   simp[-getElem?_pos,-exists_and_left,-exists_and_right,E]
theorem tdN(a b:Nat):((a:Int)).tdiv (b:Int)=((a / b:Nat):Int):=by rw[Int.tdiv_eq_ediv_of_nonneg o_];simp[-getElem?_pos,-exists_and_left,-exists_and_right]
theorem tmN(a b:Nat):((a:Int)).tmod (b:Int)=((a % b:Nat):Int):=by rw[Int.tmod_eq_emod_of_nonneg o_];simp[-getElem?_pos,-exists_and_left,-exists_and_right]
theorem Z1W(r b:Nat)(h1:(Zz r).length<=1000)(hb:0<b)(hbr:b<=r)(hr:r<b*BS):Spec prog 213 [.sl true 3 1 (iE (Zz r)),.sl true 3 1 (iE (Zz b))] (.int .i64 (TT r b)):=by
 obtain⟨t,y,M,g⟩:=ZfV hb hbr hr;have lb:=g.lb;have hy2:=Yu g.hy;have yb:=g.yb;have tb:=g.tb;have eM:(((M:Int)+1)-1)=M:=by omega
 have eM2:((M:Int)+1).toNat=M+1:=by omega
 obtain⟨T,hT⟩:∃ T:Int,T=(t:Int):=⟨_,rfl⟩;obtain⟨q1,hq1⟩:∃ q1,q1=t / y:=⟨_,rfl⟩;obtain⟨q2,hq2⟩:∃ q2,q2=t / (y+1):=⟨_,rfl⟩;have b1:q1<=t:=by rw[hq1];exact Nat.div_le_self t y
 have b2:q2<=t:=by rw[hq2];exact Nat.div_le_self t (y+1)
 have d1:T.tdiv (y:Int)=(q1:Int):=by rw[hT,hq1];exact tdN t y
 have d2:T.tdiv ((y:Int)+1)=(q2:Int):=by rw[hT,hq2];exact tdN t (y+1)
 have y0:=g.y0;have eq:=g.eq;unfold Vv at eq;rw[<- hq1,<- hq2]at eq;rw[eq];have hl:=g.top;clear hq1 hq2 eq;refine Bj func213 ntmps213 results213 ?_;rcases hl with⟨x,hx,hl,hxm,rfl⟩|⟨x,z,hx,hz,hl,hxm,Wu,rfl⟩
 .have hx2:=Yu hxm;subst hT;rcases Nat.eq_zero_or_pos M with h0|h0
  .subst h0;have yp:=y0 rfl;simp[-getElem?_pos,-exists_and_left,-exists_and_right,lb,hl,hx2,hy2,d1]
   ((repeat' with_reducible apply And.intro)<;> try exact Ye)
  .have hM:¬(M:Int)+1=1:=by omega
   have hM2:¬ M=0:=by omega
   simp[-getElem?_pos,-exists_and_left,-exists_and_right,lb,hl,hx2,hy2,eM,hM,hM2,d2]
   ((repeat' with_reducible apply And.intro)<;> try exact Ye);all_goals (intro h;simp[-getElem?_pos,-exists_and_left,-exists_and_right,h])
 .have hx2:=Yu hxm;have hz2:=Yu Wu;have PY:(x:Int)+(z:Int)* 1000000000=T:=by omega
  rcases Nat.eq_zero_or_pos M with h0|h0
  .subst h0;have yp:=y0 rfl;simp[-getElem?_pos,-exists_and_left,-exists_and_right,lb,hl,hx2,hz2,hy2,PY,d1]
   ((repeat' with_reducible apply And.intro)<;> try exact Ye)
  .have hM:¬(M:Int)+1=1:=by omega
   have hM2:¬ M=0:=by omega
   simp[-getElem?_pos,-exists_and_left,-exists_and_right,lb,hl,hx2,hz2,hy2,eM,PY,eM2,hM,hM2,d2]
   ((repeat' with_reducible apply And.intro)<;> try exact Ye);all_goals (intro h;simp[-getElem?_pos,-exists_and_left,-exists_and_right,h])
theorem Zkz{r b:Nat}(h:b<=r):0<=M9 r b:=by unfold M9;rw[if_neg o_];split<;>omega
theorem Zky{r b:Nat}(h:¬ b<=r):¬ 0<=M9 r b:=by unfold M9;rw[if_pos o_];omega
theorem Z1b(a b:Nat)(ha:(Zz a).length<=200)(hb:(Zz b).length<=200)(hb0:0<b):Spec prog 189 [.sl true 3 1 (iE (Zz a)),.sl true 3 1 (iE (Zz b))] (.tup [.sl false 3 1 (iE (Zz (a / b))),.sl false 3 1 (iE (Zz (a % b)))]):=by
 have ca:=Yl a;have cb:=Yl b;refine Bj func189 ntmps189 results189 ?_;by_cases hs:(Zz a).length<=2/\(Zz b).length<=2
 .obtain⟨s1,s2⟩:=hs;have l1:=oF s1;have l2:=oF s2;have i1:((Zz a).length:Int)<=2:=by omega
  have i2:((Zz b).length:Int)<=2:=by omega
  simp[-getElem?_pos,-exists_and_left,-exists_and_right,i1,i2];refine Ah [] ((Xt (Zz a) s1 ca.1)) ?_;simp[-getElem?_pos,-exists_and_left,-exists_and_right];refine Ah [] ((Xt (Zz b) s2 cb.1)) ?_;obtain⟨q,hq⟩:∃ q,q=a / b:=⟨_,rfl⟩;obtain⟨r,hr⟩:∃ r,r=a % b:=⟨_,rfl⟩;have q1:q<=a:=by rw[hq];exact Nat.div_le_self a b
  have r1:r<=a:=by rw[hr];exact Nat.mod_le a b
  have d3:(a:Int).tdiv (b:Int)=(q:Int):=by rw[hq];exact tdN a b
  have d4:(a:Int).tmod (b:Int)=(r:Int):=by rw[hr];exact tmN a b
  have u1:IntKind.u64.wrap (q:Int)=(q:Int):=Rq o_ o_;have u2:IntKind.u64.wrap (r:Int)=(r:Int):=Rq o_ o_;have u3:IntKind.i64.wrap (r:Int)=(r:Int):=Fb o_ o_;rw[<- hq,<- hr];clear hq hr;simp[-getElem?_pos,-exists_and_left,-exists_and_right,ZJ,d3,d4,u1,u2]
  ((repeat' with_reducible apply And.intro)<;> try exact Ye);refine Ah [] ((X6 q o_)) ?_;simp[-getElem?_pos,-exists_and_left,-exists_and_right,d3,d4,u1,u2,u3]
  ((repeat' with_reducible apply And.intro)<;> try exact Ye);refine Ah [] ((X6 r o_)) ?_;simp[-getElem?_pos,-exists_and_left,-exists_and_right]
  ((repeat' with_reducible apply And.intro)<;> try exact Ye)
 .have s2:((Zz a).length:Int)<=2->¬((Zz b).length:Int)<=2:=by omega
  by_cases s1:((Zz a).length:Int)<=2<;>simp[-getElem?_pos,-exists_and_left,-exists_and_right,s1,s2];all_goals refine⟨⟨o_,by unfold maxLen;omega⟩,Fb o_ o_,?_⟩
  all_goals refine Ec (fun σ=>∃ (k st r:Nat) (q:List Int),k<=(Zz a).length/\CL (Zz a) q b r k/\σ.env 0=.sl true 3 1 (iE (Zz a))/\σ.env 1=.sl true 3 1 (iE (Zz b))/\σ.env 8=.vw 36 st/\σ.env 10=.int .i64 ((k:Int)-1)/\σ.box 36=some ⟨3,1,st,iE q,true⟩/\(σ.env 9=.sl false 3 1 (iE (Zz r))∨∃ st2,r=0/\σ.env 9=.vw 37 st2/\σ.box 37=some ⟨3,1,st2,[],true⟩)) (fun σ=>match σ.env 10 with|.int _ n=>(n+1).toNat|_=>0) ?_ ?_
  .exact⟨(Zz a).length,_,0,_,Zd _,Z6l hb0,s_,s_,by simp;rfl,s_,by simp[oJ],.inr ⟨_,rfl,by simp;rfl,s_⟩⟩
  .rintro σ ⟨k,st,r,q,hk,inv,e0,e1,e8,e10,Ls,h9⟩;have LH:=inv.len;have hrb:=inv.lt;by_cases hk0:1<=k
   .obtain⟨x,hx⟩:∃ x,(Zz a)[k-1]? = some x:=⟨_,Z4 o_⟩;have bx:=At.bd (.inl hx) ca.1;have hx2:=Yu hx;have ek:((k:Int)-1).toNat=k-1:=by omega
    have GU:(1:Int)<=(k:Int):=by omega
    have hrl:(Zz r).length<=200:=by
     have:=TS cb (Yl r) (by rw[ZJ,ZJ];omega);omega
    obtain⟨T,hT⟩:∃ T,T=x.toNat+BS*r:=⟨_,rfl⟩;have tc:=Zc7 (r:=r) bx;rw[<- hT]at tc;have U6:CL (Zz a) q b r (k-1+1):=by rw[Nat.sub_add_cancel hk0];exact inv
    have fJ:∀ d r2,T=d*b+r2->d<BS:=fun d r2 h=>Z2c hrb (x:=x.toNat) (by unfold BS;omega) (by rw[<- hT];exact h)
    have hstep:∀ d r2,T=d*b+r2->r2<b->CL (Zz a) (q.set (k-1) (d:Int)) b r2 (k-1):=fun d r2 h h2=>U6.step ca.1 hx (by rw[<- hT];exact h) h2
    have hTB:T<b*BS:=by
     have h1:BS *(r+1)<=BS*b:=Nat.mul_le_mul_left _ hrb;rw[Nat.mul_comm b BS];have h2:x.toNat<BS:=by unfold BS;omega
     rw[Nat.mul_add]at h1;omega
    refine Or.elim h9 ?A ?B
    case' A =>
     intro h9;simp[-getElem?_pos,-exists_and_left,-exists_and_right,e0,e1,e8,e10,Ls,hx2,ek,GU,h9];refine⟨⟨o_,by unfold maxLen;omega⟩,?_⟩;refine Ah [49] ((YK (x::Zz r) AR)) ?_;rw[tc];simp[-getElem?_pos,-exists_and_left,-exists_and_right]
    case' B =>
     rintro⟨st2,r0,h9,Pj⟩;rw[r0,Yd]at tc;simp[-getElem?_pos,-exists_and_left,-exists_and_right,e0,e1,e8,e10,Ls,hx2,ek,GU,h9,Pj];refine⟨by unfold maxLen;omega,?_⟩;refine Ah [49] ((YK [x] s_)) ?_;rw[tc];simp[-getElem?_pos,-exists_and_left,-exists_and_right]
    all_goals
     refine Ec (fun σ=>∃ (r' e:Nat),T=e*b+r'/\σ.env 0=.sl true 3 1 (iE (Zz a))/\σ.env 1=.sl true 3 1 (iE (Zz b))/\σ.env 8=.vw 36 st/\σ.env 9=.sl false 3 1 (iE (Zz r'))/\σ.env 10=.int .i64 ((k:Int)-1)/\σ.box 36=some ⟨3,1,st,iE (q.set (k-1) (e:Int)),true⟩) (fun σ=>oK (σ.env 9)) ?_ ?_
     .refine⟨T,0,s_,by simp[e0],by simp[e1],by simp[e8],s_,by simp[e10],?_⟩
      have z0:q.set (k-1) ((0:Nat):Int)=q:=by
       have e0:q[k-1]? = some (q[k-1]'o_):=Z4 _;have hz:=inv.zero _ _ o_ e0;rw[hz]at e0
       exact List.ext_getElem? fun i=>by
        rw[List.getElem?_set];split
        .rename_i h;subst h;rw[e0,if_pos o_];rfl
        .rfl
      rw[z0];simp[-getElem?_pos,-exists_and_left,-exists_and_right,Ls]
     .rintro σ2 ⟨r',e,hTe,E⟩;have he:=fJ _ _ hTe;have hz:(q.set (k-1) (e:Int))[k-1]? = some (e:Int):=by rw[List.getElem?_set_self o_]
      have hz2:=Yu hz;have Pk:r'<b*BS:=by omega
      have Z0R:(Zz r').length<=201:=YN (by
       have h6:=QY b;have h7:b*BS<=BS ^ 200*BS:=Nat.mul_le_mul_right _ (by have:=YV hb;omega);exact Zf Pk (Zj h7 (Nat.le_of_eq (Nat.pow_succ ..).symm)))
      simp[-getElem?_pos,-exists_and_left,-exists_and_right,E];refine Ah [] ((Jx r' b o_ o_)) ?_;by_cases hbr:b<=r'
      .have hc:=Zkz hbr;obtain⟨g1,g2⟩:=ZnK hb0 hbr Pk;have hsp:=Z1W r' b o_ hb0 hbr Pk;generalize TT r' b=d at g1 g2 hsp;have hd:d<BS:=Nat.lt_of_mul_lt_mul_right (Nat.lt_of_le_of_lt g1 (by rw[Nat.mul_comm BS b];exact Pk));have Nk:T=(e+d)* b+(r'-d*b):=by rw[Nat.add_mul];omega
       have hed:=fJ _ _ Nk;have hd1:=oD o_ hd;have hm:=Z1a b d o_ (by rw[hd1];simp[-getElem?_pos,-exists_and_left,-exists_and_right]);have hs:=Jw r' (b*d) o_ (Zj (TS (Yl r') (Yl _) (by rw[ZJ,ZJ,Nat.mul_comm];exact g1)) o_) (by rw[Nat.mul_comm];exact g1);rw[hd1]at hm;unfold BS at hed;simp[-getElem?_pos,-exists_and_left,-exists_and_right,E,hc];refine Ah [] hsp ?_;simp[-getElem?_pos,-exists_and_left,-exists_and_right,E];refine Ah [] hm ?_;simp[-getElem?_pos,-exists_and_left,-exists_and_right,E];refine Ah [] hs ?_;simp[-getElem?_pos,-exists_and_left,-exists_and_right,E,ek,hz2,Kv];have hp:0<b*d:=Nat.mul_pos hb0 o_;have hle:b*d<=r':=by rw[Nat.mul_comm];exact g1
       ((repeat' with_reducible apply And.intro)<;> try exact Ye)
       .exact⟨r'-b*d,e+d,by rw[Nat.mul_comm b d];exact Nk,rfl,by rw[Int.natCast_add]⟩
       .rw[ZJ,ZJ];omega
      .have hc:=Zky hbr;simp[-getElem?_pos,-exists_and_left,-exists_and_right,e10,E,hc]
       ((repeat' with_reducible apply And.intro)<;> try exact Ye);exact⟨k-1,_,r',_,o_,hstep _ _ hTe o_,rfl,o_,⟨rfl,rfl⟩,rfl⟩
   .have GU:¬(1:Int)<=(k:Int):=by omega
    rcases h9 with h9 |⟨st2,rfl,h9,Pj⟩
    .simp[-getElem?_pos,-exists_and_left,-exists_and_right,e0,e1,e8,e10,Ls,GU,h9];obtain rfl:k=0:=by omega
     obtain⟨h1,h2⟩:=inv.done;rw[ZJ]at h1 h2;refine Ah [36] ((YK q o_)) ?_;rw[h1];simp[-getElem?_pos,-exists_and_left,-exists_and_right,h9];rw[h2]
    .simp[-getElem?_pos,-exists_and_left,-exists_and_right,e0,e1,e8,e10,Ls,GU,h9,Pj];obtain rfl:k=0:=by omega
     obtain⟨h1,h2⟩:=inv.done;rw[ZJ]at h1 h2;refine Ah [36] ((YK q o_)) ?_;rw[h1];simp[-getElem?_pos,-exists_and_left,-exists_and_right,h9,Pj];exact⟨none,s_,by rw[<- h2,Yd];rfl⟩
  .exact⟨(Zz a).length,_,0,_,Zd _,Z6l hb0,s_,s_,by simp;rfl,s_,by simp[oJ],.inr ⟨_,rfl,by simp;rfl,s_⟩⟩
  .rintro σ ⟨k,st,r,q,hk,inv,e0,e1,e8,e10,Ls,h9⟩;have LH:=inv.len;have hrb:=inv.lt;by_cases hk0:1<=k
   .obtain⟨x,hx⟩:∃ x,(Zz a)[k-1]? = some x:=⟨_,Z4 o_⟩;have bx:=At.bd (.inl hx) ca.1;have hx2:=Yu hx;have ek:((k:Int)-1).toNat=k-1:=by omega
    have GU:(1:Int)<=(k:Int):=by omega
    have hrl:(Zz r).length<=200:=by
     have:=TS cb (Yl r) (by rw[ZJ,ZJ];omega);omega
    obtain⟨T,hT⟩:∃ T,T=x.toNat+BS*r:=⟨_,rfl⟩;have tc:=Zc7 (r:=r) bx;rw[<- hT]at tc;have U6:CL (Zz a) q b r (k-1+1):=by rw[Nat.sub_add_cancel hk0];exact inv
    have fJ:∀ d r2,T=d*b+r2->d<BS:=fun d r2 h=>Z2c hrb (x:=x.toNat) (by unfold BS;omega) (by rw[<- hT];exact h)
    have hstep:∀ d r2,T=d*b+r2->r2<b->CL (Zz a) (q.set (k-1) (d:Int)) b r2 (k-1):=fun d r2 h h2=>U6.step ca.1 hx (by rw[<- hT];exact h) h2
    have hTB:T<b*BS:=by
     have h1:BS *(r+1)<=BS*b:=Nat.mul_le_mul_left _ hrb;rw[Nat.mul_comm b BS];have h2:x.toNat<BS:=by unfold BS;omega
     rw[Nat.mul_add]at h1;omega
    refine Or.elim h9 ?A2 ?B2
    case' A2 =>
     intro h9;simp[-getElem?_pos,-exists_and_left,-exists_and_right,e0,e1,e8,e10,Ls,hx2,ek,GU,h9];refine⟨⟨o_,by unfold maxLen;omega⟩,?_⟩;refine Ah [49] ((YK (x::Zz r) AR)) ?_;rw[tc];simp[-getElem?_pos,-exists_and_left,-exists_and_right]
    case' B2 =>
     rintro⟨st2,r0,h9,Pj⟩;rw[r0,Yd]at tc;simp[-getElem?_pos,-exists_and_left,-exists_and_right,e0,e1,e8,e10,Ls,hx2,ek,GU,h9,Pj];refine⟨by unfold maxLen;omega,?_⟩;refine Ah [49] ((YK [x] s_)) ?_;rw[tc];simp[-getElem?_pos,-exists_and_left,-exists_and_right]
    all_goals
     refine Ec (fun σ=>∃ (r' e:Nat),T=e*b+r'/\σ.env 0=.sl true 3 1 (iE (Zz a))/\σ.env 1=.sl true 3 1 (iE (Zz b))/\σ.env 8=.vw 36 st/\σ.env 9=.sl false 3 1 (iE (Zz r'))/\σ.env 10=.int .i64 ((k:Int)-1)/\σ.box 36=some ⟨3,1,st,iE (q.set (k-1) (e:Int)),true⟩) (fun σ=>oK (σ.env 9)) ?_ ?_
     .refine⟨T,0,s_,by simp[e0],by simp[e1],by simp[e8],s_,by simp[e10],?_⟩
      have z0:q.set (k-1) ((0:Nat):Int)=q:=by
       have e0:q[k-1]? = some (q[k-1]'o_):=Z4 _;have hz:=inv.zero _ _ o_ e0;rw[hz]at e0
       exact List.ext_getElem? fun i=>by
        rw[List.getElem?_set];split
        .rename_i h;subst h;rw[e0,if_pos o_];rfl
        .rfl
      rw[z0];simp[-getElem?_pos,-exists_and_left,-exists_and_right,Ls]
     .rintro σ2 ⟨r',e,hTe,E2⟩;have he:=fJ _ _ hTe;have hz:(q.set (k-1) (e:Int))[k-1]? = some (e:Int):=by rw[List.getElem?_set_self o_]
      have hz2:=Yu hz;have Pk:r'<b*BS:=by omega
      have Z0R:(Zz r').length<=201:=YN (by
       have h6:=QY b;have h7:b*BS<=BS ^ 200*BS:=Nat.mul_le_mul_right _ (by have:=YV hb;omega);exact Zf Pk (Zj h7 (Nat.le_of_eq (Nat.pow_succ ..).symm)))
      simp[-getElem?_pos,-exists_and_left,-exists_and_right,E2];refine Ah [] ((Jx r' b o_ o_)) ?_;by_cases hbr:b<=r'
      .have hc:=Zkz hbr;obtain⟨g1,g2⟩:=ZnK hb0 hbr Pk;have hsp:=Z1W r' b o_ hb0 hbr Pk;generalize TT r' b=d at g1 g2 hsp;have hd:d<BS:=Nat.lt_of_mul_lt_mul_right (Nat.lt_of_le_of_lt g1 (by rw[Nat.mul_comm BS b];exact Pk));have Nk:T=(e+d)* b+(r'-d*b):=by rw[Nat.add_mul];omega
       have hed:=fJ _ _ Nk;have hd1:=oD o_ hd;have hm:=Z1a b d o_ (by rw[hd1];simp[-getElem?_pos,-exists_and_left,-exists_and_right]);have hs:=Jw r' (b*d) o_ (Zj (TS (Yl r') (Yl _) (by rw[ZJ,ZJ,Nat.mul_comm];exact g1)) o_) (by rw[Nat.mul_comm];exact g1);rw[hd1]at hm;unfold BS at hed;simp[-getElem?_pos,-exists_and_left,-exists_and_right,E2,hc];refine Ah [] hsp ?_;simp[-getElem?_pos,-exists_and_left,-exists_and_right,E2];refine Ah [] hm ?_;simp[-getElem?_pos,-exists_and_left,-exists_and_right,E2];refine Ah [] hs ?_;simp[-getElem?_pos,-exists_and_left,-exists_and_right,E2,ek,hz2,Kv];have hp:0<b*d:=Nat.mul_pos hb0 o_;have hle:b*d<=r':=by rw[Nat.mul_comm];exact g1
       ((repeat' with_reducible apply And.intro)<;> try exact Ye)
       .exact⟨r'-b*d,e+d,by rw[Nat.mul_comm b d];exact Nk,rfl,by rw[Int.natCast_add]⟩
       .rw[ZJ,ZJ];omega
      .have hc:=Zky hbr;simp[-getElem?_pos,-exists_and_left,-exists_and_right,e10,E2,hc]
       ((repeat' with_reducible apply And.intro)<;> try exact Ye);exact⟨k-1,_,r',_,o_,hstep _ _ hTe o_,rfl,o_,⟨rfl,rfl⟩,rfl⟩
   .have GU:¬(1:Int)<=(k:Int):=by omega
    rcases h9 with h9 |⟨st2,rfl,h9,Pj⟩
    .simp[-getElem?_pos,-exists_and_left,-exists_and_right,e0,e1,e8,e10,Ls,GU,h9];obtain rfl:k=0:=by omega
     obtain⟨h1,h2⟩:=inv.done;rw[ZJ]at h1 h2;refine Ah [36] ((YK q o_)) ?_;rw[h1];simp[-getElem?_pos,-exists_and_left,-exists_and_right,h9];rw[h2]
    .simp[-getElem?_pos,-exists_and_left,-exists_and_right,e0,e1,e8,e10,Ls,GU,h9,Pj];obtain rfl:k=0:=by omega
     obtain⟨h1,h2⟩:=inv.done;rw[ZJ]at h1 h2;refine Ah [36] ((YK q o_)) ?_;rw[h1];simp[-getElem?_pos,-exists_and_left,-exists_and_right,h9,Pj];exact⟨none,s_,by rw[<- h2,Yd];rfl⟩
theorem Z4v(a b:Nat)(ha:(Zz a).length<=200)(hb:(Zz b).length<=200):Spec prog 165 [.sl true 3 1 (iE (Zz a)),.sl true 3 1 (iE (Zz b))] (.own 3 1 (iE (Zz (Nat.gcd a b)))):=by
 refine Bj func165 ntmps165 results165 ?_;simp[-getElem?_pos,-exists_and_left,-exists_and_right,-Z3];refine Ec (fun σ=>∃ (n0 n1:Bool) (x y:Nat),Nat.gcd x y=Nat.gcd a b/\(Zz x).length<=200/\(Zz y).length<=200/\σ.env 0=.sl n0 3 1 (iE (Zz x))/\σ.env 1=.sl n1 3 1 (iE (Zz y))) (fun σ=>oK (σ.env 1)) ?_ ?_
 .exact⟨true,true,a,b,rfl,ha,hb,s_,s_⟩
 .rintro σ ⟨n0,n1,x,y,hg,hx,hy,e0,e1⟩;rcases Nat.eq_zero_or_pos y with h0|h0
  .subst h0;rw[Yd]at e1;rw[Nat.gcd_zero_right]at hg;simp[-getElem?_pos,-exists_and_left,-exists_and_right,-Z3,e0,e1];refine Ah [] ((QO (Zz x) o_)) ?_;simp[-getElem?_pos,-exists_and_left,-exists_and_right,-Z3,hg]
  .have hy0:0 <(Zz y).length:=by
    rcases Nat.eq_zero_or_pos (Zz y).length with h|h
    .have:=J4.1 (List.length_eq_zero_iff.1 h);omega
    .exact h
   have hy1:¬ Zz y=[]:=fun e=>by rw[e]at hy0;simp at hy0
   have big:((Zz x).length:Int)<=2->¬((Zz y).length:Int)<=2->True:=fun _ _=>trivial
   by_cases hs:((Zz x).length:Int)<=2/\((Zz y).length:Int)<=2
   .obtain⟨s1,s2⟩:=hs;have l1:=oF (a:=x) o_;have l2:=oF (a:=y) o_;simp[-getElem?_pos,-exists_and_left,-exists_and_right,-Z3,e0,e1,hy0,hy1,s1,s2];refine Ah [] ((Xt (Zz x) o_ (Qs x))) ?_;simp[-getElem?_pos,-exists_and_left,-exists_and_right,-Z3,e1,ZJ];refine Ah [] ((Xt (Zz y) o_ (Qs y))) ?_;simp[-getElem?_pos,-exists_and_left,-exists_and_right,-Z3,ZJ];refine Ec (fun σ=>∃ (u v:Nat),Nat.gcd u v=Nat.gcd a b/\u<1000000000000000000/\v<1000000000000000000/\σ.env 5=.int .i64 u/\σ.env 6=.int .i64 v) (fun σ=>BU (σ.env 6)) ?_ ?_
    .exact⟨x,y,hg,l1,l2,s_,s_⟩
    .rintro σ2 ⟨u,v,hg,l1,l2,f5,f6⟩;rcases Nat.eq_zero_or_pos v with h0|h0
     .subst h0;rw[Nat.gcd_zero_right]at hg;have u1:IntKind.u64.wrap (u:Int)=(u:Int):=Rq o_ o_;simp[-getElem?_pos,-exists_and_left,-exists_and_right,-Z3,f5,f6,u1]
      ((repeat' with_reducible apply And.intro)<;> try exact Ye);refine Ah [] ((X6 u o_)) ?_;simp[-getElem?_pos,-exists_and_left,-exists_and_right,-Z3,hg]
     .obtain⟨r,hr⟩:∃ r,r=u % v:=⟨_,rfl⟩;have d1:(u:Int).tmod (v:Int)=(r:Int):=by rw[hr];exact tmN u v
      have hrl:r<v:=by rw[hr];exact Nat.mod_lt _ h0
      have hg2:Nat.gcd v r=Nat.gcd a b:=by rw[hr,<- ZfW,hg]
      have hw:IntKind.i64.wrap (r:Int)=(r:Int):=Fb o_ o_;have hv0:¬ v=0:=by omega
      simp[-getElem?_pos,-exists_and_left,-exists_and_right,-Z3,f5,f6,h0,d1,hw,hv0]
      ((repeat' with_reducible apply And.intro)<;> try exact Ye);exact⟨v,r,hg2,l2,o_,rfl,rfl⟩
   .have hs2:((Zz x).length:Int)<=2->¬((Zz y).length:Int)<=2:=fun h1 h2=>hs ⟨h1,h2⟩
    have hl:=TS (Yl x) (Yl (x % y)) (by rw[ZJ,ZJ];exact Nat.mod_le x y);by_cases s1:((Zz x).length:Int)<=2<;>simp[-getElem?_pos,-exists_and_left,-exists_and_right,-Z3,e0,e1,hy0,hy1,s1,hs2]<;> refine Ah [] ((Z1b x y hx hy h0)) ?_<;>simp[-getElem?_pos,-exists_and_left,-exists_and_right,-Z3,e0,e1]<;>((repeat' with_reducible apply And.intro)<;> try exact Ye)
    all_goals first
     |exact⟨n1,false,y,x % y,by rw[<- ZfW];exact hg,hy,o_,⟨rfl,rfl⟩,rfl,rfl⟩
     |(rw[ZJ,ZJ];exact Nat.mod_lt _ h0)
def dB(x:Int):List AV:=[.bool (decide (x<0)),.sl false 3 1 (iE (Zz x.natAbs))]
theorem Zkx(d:Nat):dB (d:Int)=[.bool false,.sl false 3 1 (iE (Zz d))]:=by
 unfold dB;simp
theorem Q8(neg:Bool)(m:Nat)(h:(Zz m).length<=60):Spec prog 161 [.bool neg,.sl false 3 1 (iE (Zz m))] (.agg (dB (sg neg m))):=by
 refine Bj func161 ntmps161 results161 ?_;by_cases h0:Zz m=[]
 .have:=J4.1 h0;subst this;simp[h0,dB,Zou,Yd]
 .have hm:m≠0:=fun e=>h0 (by rw[e,Yd])
  have h1:¬(60:Int)<((Zz m).length:Int):=by omega
  simp[h0,h1,dB,Zns,TU,hm]
theorem Z1d(x y:Int)(h:(Zz x.natAbs).length+(Zz y.natAbs).length<=60):Spec prog 167 [.agg (dB x),.agg (dB y)] (.agg (dB (x*y))):=by
 have hl:(Zz (x.natAbs*y.natAbs)).length<=60:=YN (by
  have h1:=QY x.natAbs;have h2:=QY y.natAbs;have h3:=Nat.mul_lt_mul'' h1 h2;rw[<- Nat.pow_add]at h3;exact Zf h3 (YV h))
 rw[<- ZqT x y];generalize hz:sg (decide (x<0) != decide (y<0)) (x.natAbs*y.natAbs)=z;refine Bj func167 ntmps167 results167 ?_;simp[dB];refine Ah [] ((Z1a x.natAbs y.natAbs o_ o_)) ?_;simp;refine Ah [] ((Q8 (decide (x<0) != decide (y<0)) _ hl)) ?_;rw[hz];simp[dB]
 ((repeat' with_reducible apply And.intro)<;> try exact Ye)
end Go.Proofs.YtcnbphnnfmphlaaGreatDoor
