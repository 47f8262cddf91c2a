/- Texts of this proof. -/
import Derived.Deep.DeepCutAuto
import Derived.Test.YtcnbphnnfmphlaaGreatDoorGtm8
namespace Go.Proofs.YtcnbphnnfmphlaaGreatDoor
open Go.Calls renaming mono → Zb
open Go.Lib renaming hid → Z5
open Int renaming eq_ofNat_of_zero_le → Zl
open List renaming mem_singleton → Zh,getElem?_cons_zero → Zw,getElem?_cons_succ → ZD
open Nat renaming lt_of_lt_of_le → Zf
open Option.some renaming inj → Z7,injEq → Zi
open Go.Proofs.Tryz
open Go.RowKit
set_option linter.unusedVariables false
set_option linter.unusedSimpArgs false
set_option maxHeartbeats 4000000
set_option maxRecDepth 100000
variable{f:A7}{l:List A7}{c8 ca ii j jj off z:Nat}{A8 Aa Al:Option Addr}{p:AX}{W w9 wr':World}
theorem ZjX :(Tryz.prog.info? 33).map (fun i=>(i.zero,i.size,i.bytes))=some (some (.agg #[.int .i64 0,.int .i64 0,.int .i64 0]),3,24):=by kernel_rfl
def QN(p:AX):List Value:=[.int .i64 p.turn,.int .i64 p.x,.int .i64 p.y]
def PO(j:Nat):ByteArray:=⟨#[109]⟩++Ya (j:Int)
def Om(s:ByteArray):Prop:=s=⟨#[]⟩∨(∃ j,j<=4/\s=Gg j)∨(∃ j,j<=1/\s=PO j)
def Mr(f:A7):Prop:=Zy f=true/\Om f.AL/\Om f.Z00
theorem ZqV{k:Nat}(h:k<10):PO k=⟨#[109,UInt8.ofNat (48+k)]⟩:=by
 apply Dh;unfold PO Ya;rw[Lib.itoa_nonneg,Lib.decDigits_one h,ByteArray.data_append,Array.toList_append]
 rfl
theorem VZ{k:Nat}(h:k<10):Qc (Gg k)=true:=by rw[jA h];exact Zsq ⟨k,h⟩
theorem Zm2 :∀ k:Fin 10,XZ ⟨#[109,UInt8.ofNat (48+k.val)]⟩=true:=by decide +kernel
theorem ZqA :∀ j k:Fin 10,j≠k->((⟨#[112,UInt8.ofNat (48+j.val)]⟩:ByteArray).toList ==(⟨#[112,UInt8.ofNat (48+k.val)]⟩:ByteArray).toList)=false:=by decide +kernel
theorem ZiV{k:Nat}(hj:j<10)(hk:k<10)(h:j≠k):((Gg j).toList ==(Gg k).toList)=false:=by
 rw[jA hj,jA hk];exact ZqA ⟨j,hj⟩ ⟨k,hk⟩ (fun e=>h (by simpa using e))
def On(l:List A7):Prop:=0<l.length/\(∀ f∈l,Mr f)/\∀ (i:Nat) (f:A7),l[i]? = some f->f.id=(i:Int)+1
def rX(l:List A7)(f:A7):Prop:=Mr f/\f.id=(l.length:Int)+1
theorem On.push(h:On l)(hf:rX l f):On (l++[f]):=by
 refine⟨s_,fun g hg=>?_,fun i g hg=>?_⟩
 .rcases List.mem_append.1 hg with h1|h1
  .exact h.2.1 g h1
  .simp only[Zh]at h1;subst h1;exact hf.1
 .by_cases hi:i<l.length
  .rw[List.getElem?_append_left hi]at hg;exact h.2.2 i g hg
  .rw[List.getElem?_append_right o_]at hg
   have e:i-l.length=0:=by
    rcases Nat.eq_zero_or_pos (i-l.length)with h9|h9
    .exact h9
    .rw[List.getElem?_eq_none AR]at hg;cases hg
   rw[e]at hg;simp only[Zw,Zi]at hg;subst hg;rw[hf.2];omega
structure Fg(W w wr:World)(b:Nat)(A:Option Addr)(n c:Nat)(m:Nat)(Aa:Option Addr)(ca:Nat)(ps:List AX)(Al:Option Addr)(cl:Nat)(l:List A7):Prop where
 cur:DK W wr b A n c
 upd:Aw [b] w wr
 at_:Own wr w.heap.size 33 3 Aa (m+1) ca (ps.map QN)
 fl:Own wr w.heap.size 35 8 Al l.length cl (l.map A7.cells)
 ap:∀ q∈AQ Aa,q ∉ AQ Al
 near:∀ (i:Nat) (p:AX),ps[i]? = some p->Bw (20+8*i) p.turn p.x p.y
 ok:On l
theorem Fg.same{w wr:World}{b:Nat}{A:Option Addr}{n c m:Nat}{ps:List AX}{cl:Nat}(h:Fg W w wr b A n c m Aa ca ps Al cl l)(hlt:b<w.heap.size) 
  (hc:DK W wr' b A n c) (hu:Aw [b] wr wr'):Fg W w wr' b A n c m Aa ca ps Al cl l :=
 ⟨hc,h.upd.trans hu,h.at_.upd hu (fun q hq hm=>by have h1:=(h.at_.lt q (ZR.1 hq)).1;simp at hm;omega),h.fl.upd hu (fun q hq hm=>by have h1:=(h.fl.lt q (ZR.1 hq)).1;simp at hm;omega),h.ap,h.near,h.ok⟩
theorem Fg.W9{w wr:World}{b:Nat}{A:Option Addr}{n c m:Nat}{ps:List AX}{cl:Nat}{o:Obj}(h:Fg W w wr b A n c m Aa ca ps Al cl l)(hlt:b<w.heap.size)(hW:Below W.heap.size W w)(hbW:W.heap.size<=b) 
  (hg:(wr.alloc o).grownBy w9 (ob Aa)) (ho:Own w9 w.heap.size 33 3 A8 (m+1+1) c8 (ps.map QN++[QN p])) (hat:ob A8=ob Aa∨ob A8=some (wr.alloc o).heap.size) (hp:Bw (20+8 *((m+1:Nat):Int)) p.turn p.x p.y):
  Fg W w w9 b A n c (m+1) A8 c8 (ps++[p]) Al cl l:=by
 have hlen:ps.length=m+1:=by have:=h.at_.len;simpa using this
 have hu:Aw [b] w w9:=Z4S (h.upd.Aj _) hg (fun q hq=>(h.at_.lt q hq).1);refine⟨(h.cur.Aj o).keep (PK (w:=w) hW hu hbW) (hg.block b (by have:=h.cur.lt;simp;omega) (fun e=>by have:=(h.at_.lt b e.symm).1;omega)),hu,by rw[List.map_append];exact ho,?_,?_,?_,h.ok⟩
 .exact(h.fl.Aj o).upd (XV hg) (fun q hq hm=>h.ap q hm hq)
 .intro q hq hm;rcases hat with h1|h1
  .exact h.ap q (ZR.2 (h1▸ZR.1 hq)) hm
  .have h2:=ZR.1 hq;rw[h1]at h2;have h3:=Z7 h2;have h4:=(h.fl.lt q (ZR.1 hm)).2;simp at h3;omega
 .intro i q hq;by_cases hi:i<ps.length
  .rw[List.getElem?_append_left hi]at hq;exact h.near i q hq
  .rw[List.getElem?_append_right o_]at hq
   have:i-ps.length=0:=by
    rcases Nat.eq_zero_or_pos (i-ps.length)with h9|h9
    .exact h9
    .rw[List.getElem?_eq_none AR]at hq;cases hq
   rw[this]at hq;simp only[Zw,Zi]at hq;subst hq;have e:i=m+1:=by omega
   subst e;exact hp
theorem Fg.PP{w wr:World}{b:Nat}{A:Option Addr}{n c m:Nat}{ps:List AX}{cl:Nat}{o:Obj}(h:Fg W w wr b A n c m Aa ca ps Al cl l)(hlt:b<w.heap.size)(hW:Below W.heap.size W w)(hbW:W.heap.size<=b) 
  (hg:(wr.alloc o).grownBy w9 (ob Al)) (ho:Own w9 w.heap.size 35 8 A8 (l.length+1) c8 (l.map A7.cells++[f.cells])) (hat:ob A8=ob Al∨ob A8=some (wr.alloc o).heap.size) (hf:rX l f):
  Fg W w w9 b A n c m Aa ca ps A8 c8 (l++[f]):=by
 have hu:Aw [b] w w9:=Z4S (h.upd.Aj _) hg (fun q hq=>(h.fl.lt q hq).1);refine⟨(h.cur.Aj o).keep (PK (w:=w) hW hu hbW) (hg.block b (by have:=h.cur.lt;simp;omega) (fun e=>by have:=(h.fl.lt b e.symm).1;omega)),hu,?_,by simpa using ho,?_,h.near,h.ok.push hf⟩
 .exact(h.at_.Aj o).upd (XV hg) (fun q hq hm=>h.ap q hq hm)
 .intro q hq hm;rcases hat with h1|h1
  .exact h.ap q hq (ZR.2 (h1▸ZR.1 hm))
  .have h2:=ZR.1 hm;rw[h1]at h2;have h3:=Z7 h2;have h4:=(h.at_.lt q (ZR.1 hq)).2;simp at h3;omega
theorem Fg.Aj{w wr:World}{b:Nat}{A:Option Addr}{n c m:Nat}{ps:List AX}{cl:Nat}(h:Fg W w wr b A n c m Aa ca ps Al cl l)(o:Obj):Fg W w (wr.alloc o) b A n c m Aa ca ps Al cl l :=
 ⟨h.cur.Aj o,h.upd.Aj o,h.at_.Aj o,h.fl.Aj o,h.ap,h.near,h.ok⟩
theorem Fg.below{w wr:World}{b:Nat}{A:Option Addr}{n c m:Nat}{ps:List AX}{cl:Nat}(h:Fg W w wr b A n c m Aa ca ps Al cl l)(hb:Below wr.heap.size wr wr'):Fg W w wr' b A n c m Aa ca ps Al cl l :=
 ⟨h.cur.below hb,h.upd.CK hb,h.at_.below hb,h.fl.below hb,h.ap,h.near,h.ok⟩
theorem Fg.D9{w wr:World}{b:Nat}{A:Option Addr}{n c m:Nat}{ps:List AX}{cl:Nat}(h:Fg W w wr b A n c m Aa ca ps Al cl l){p:Addr}(hb:b<p.block)(hw:w.heap.size<=p.block)(h1:¬ ob Aa=some p.block)(h2:¬ ob Al=some p.block)(u:Value):Fg W w (wr.setCell p u) b A n c m Aa ca ps Al cl l :=
 have hu:Aw [p.block] wr (wr.setCell p u):=(Aw.refl [p.block] wr).AA s_ u
 ⟨h.cur.D9 hb u,h.upd.F4 hw u,h.at_.upd hu (fun q hq hm=>by simp only[Zh]at hm;subst hm;exact h1 (ZR.1 hq)),h.fl.upd hu (fun q hq hm=>by simp only[Zh]at hm;subst hm;exact h2 (ZR.1 hq)),h.ap,h.near,h.ok⟩
structure RS(W w:World)(b:Nat)(A:Option Addr)(n c m g off ca:Nat)(ps:List AX)(Al:Option Addr)(cl:Nat)(l:List A7)(ii jj:Nat)(p q:AX)(cs:Array Value)(fz:Option Nat)(w':World):Prop where
 st:Fg W w w' b A n c m (some ⟨g,off,none⟩) ca ps Al cl l
 k:w'.cell? ⟨g,off+ii*3,none⟩=some (.int .i64 p.turn)/\w'.cell? ⟨g,off+ii*3+1,none⟩=some (.int .i64 p.x)/\w'.cell? ⟨g,off+ii*3+2,none⟩=some (.int .i64 p.y)/\w'.cell? ⟨g,off+jj*3,none⟩=some (.int .i64 q.turn)/\w'.cell? ⟨g,off+jj*3+1,none⟩=some (.int .i64 q.x)/\w'.cell? ⟨g,off+jj*3+2,none⟩=some (.int .i64 q.y)
 box:∀ z,fz=some z->(∀ (k:Nat) (v:Value),cs[k]? = some v->w'.cell? ⟨z,k,none⟩=some v)/\(∀ o,w'.frozen? ⟨z,o,none⟩=false)/\b<z/\w.heap.size<=z/\z<w'.heap.size/\¬ g=z/\¬ ob Al=some z
theorem RS.below{w:World}{b:Nat}{A:Option Addr}{n c m g:Nat}{ps:List AX}{cl:Nat}{q:AX}{cs:Array Value}{fz:Option Nat}{wr:World}(h:RS W w b A n c m g off ca ps Al cl l ii jj p q cs fz wr)(wr':World)(hb:Below wr.heap.size wr wr'):RS W w b A n c m g off ca ps Al cl l ii jj p q cs fz wr' :=
 have B:∀ {a:Addr} {v:Value},wr.cell? a=some v->wr'.cell? a=some v:=fun h=>Zm hb h
 ⟨h.st.below hb,⟨B h.k.1,B h.k.2.1,B h.k.2.2.1,B h.k.2.2.2.1,B h.k.2.2.2.2.1,B h.k.2.2.2.2.2⟩,fun z hz =>
  have H:=h.box z hz
  ⟨fun k v hk=>B (H.1 k v hk),fun o=>(Q6 hb z H.2.2.2.2.1 o).trans (H.2.1 o),H.2.2.1,H.2.2.2.1,Zf H.2.2.2.2.1 hb.size,H.2.2.2.2.2.1,H.2.2.2.2.2.2⟩⟩
theorem RS.EA{w:World}{b:Nat}{A:Option Addr}{n c m g:Nat}{ps:List AX}{cl:Nat}{q:AX}{cs:Array Value}{wr:World}{t:TypeId}(h:RS W w b A n c m g off ca ps Al cl l ii jj p q cs none wr):RS W w b A n c m g off ca ps Al cl l ii jj p q cs (some wr.heap.size) (wr.alloc (.cells cs t)):=
 have B:∀ {a:Addr} {v:Value},wr.cell? a=some v->(wr.alloc (.cells cs t)).cell? a=some v:=fun h=>Zm (Ze (Below.refl _ _) _) h
 ⟨h.st.Aj _,⟨B h.k.1,B h.k.2.1,B h.k.2.2.1,B h.k.2.2.2.1,B h.k.2.2.2.2.1,B h.k.2.2.2.2.2⟩,fun z hz=>by
  cases hz
  have h1:=h.st.at_.lt g rfl
  have h2:=h.st.cur.lt
  refine⟨fun k v hk=>Jk hk,fun o=>rH _ _ _ o,h2,o_,s_,o_,fun e=>?_⟩
  have h3:=(h.st.fl.lt _ e).2
  omega⟩
theorem RS.Sf{w:World}{b:Nat}{A:Option Addr}{n c m g:Nat}{ps:List AX}{cl:Nat}{q:AX}{cs:Array Value}{fz:Option Nat}{wr:World}(h:RS W w b A n c m g off ca ps Al cl l ii jj p q cs fz wr)(o:Obj):(wr.alloc o).cell? ⟨g,off+ii*3,none⟩=some (.int .i64 p.turn)/\(wr.alloc o).cell? ⟨g,off+ii*3+1,none⟩=some (.int .i64 p.x)/\(wr.alloc o).cell? ⟨g,off+ii*3+2,none⟩=some (.int .i64 p.y)/\(wr.alloc o).cell? ⟨g,off+jj*3,none⟩=some (.int .i64 q.turn)/\(wr.alloc o).cell? ⟨g,off+jj*3+1,none⟩=some (.int .i64 q.x)/\(wr.alloc o).cell? ⟨g,off+jj*3+2,none⟩=some (.int .i64 q.y):=
 have B:∀ {a:Addr} {v:Value},wr.cell? a=some v->(wr.alloc o).cell? a=some v:=fun h=>Zm (Ze (Below.refl _ _) _) h
 ⟨B h.k.1,B h.k.2.1,B h.k.2.2.1,B h.k.2.2.2.1,B h.k.2.2.2.2.1,B h.k.2.2.2.2.2⟩
theorem Oo{w:World}{k:Nat}(u:Value){v:Value}(h:w.cell? ⟨z,k,none⟩=some v):(w.setCell ⟨z,k,none⟩ u).cell? ⟨z,k,none⟩=some u:=World.cell?_setCell_same _ _ _ h
theorem ZO{w:World}{k:Nat}(u:Value)(hne:k≠j){v:Value}(h:w.cell? ⟨z,j,none⟩=some v):(w.setCell ⟨z,k,none⟩ u).cell? ⟨z,j,none⟩=some v:=(World.cell?_setCell_other _ _ _ _ (fun e=>hne (Addr.mk.inj e).2.1)).trans h
theorem RS.Wd{w:World}{b:Nat}{A:Option Addr}{n c m g:Nat}{ps:List AX}{cl:Nat}{q:AX}{cs:Array Value}{wr:World}(h:RS W w b A n c m g off ca ps Al cl l ii jj p q cs (some z) wr)(hcs:cs.size=8)(u0 u1 u2 u3 u4 u5 u6 u7:Value):RS W w b A n c m g off ca ps Al cl l ii jj p q #[u0,u1,u2,u3,u4,u5,u6,u7] (some z) (((((((((wr).setCell ⟨z,0,none⟩ u0).setCell ⟨z,1,none⟩ u1).setCell ⟨z,2,none⟩ u2).setCell ⟨z,3,none⟩ u3).setCell ⟨z,4,none⟩ u4).setCell ⟨z,5,none⟩ u5).setCell ⟨z,6,none⟩ u6).setCell ⟨z,7,none⟩ u7):=by
 have H:=h.box z rfl;have hg:=(h.st.at_.lt g rfl);have hu:Aw [z] wr (((((((((wr).setCell ⟨z,0,none⟩ u0).setCell ⟨z,1,none⟩ u1).setCell ⟨z,2,none⟩ u2).setCell ⟨z,3,none⟩ u3).setCell ⟨z,4,none⟩ u4).setCell ⟨z,5,none⟩ u5).setCell ⟨z,6,none⟩ u6).setCell ⟨z,7,none⟩ u7):=(((((((((Aw.refl [z] wr).AA s_ u0).AA s_ u1).AA s_ u2).AA s_ u3).AA s_ u4).AA s_ u5).AA s_ u6).AA s_ u7);have B:∀ (o:Nat) {v:Value},wr.cell? ⟨g,o,none⟩=some v->(((((((((wr).setCell ⟨z,0,none⟩ u0).setCell ⟨z,1,none⟩ u1).setCell ⟨z,2,none⟩ u2).setCell ⟨z,3,none⟩ u3).setCell ⟨z,4,none⟩ u4).setCell ⟨z,5,none⟩ u5).setCell ⟨z,6,none⟩ u6).setCell ⟨z,7,none⟩ u7).cell? ⟨g,o,none⟩=some v:=fun o v hh=>(F5 hu g hg.2 (by have:=H.2.2.2.2.2.1;simpa using this) o).trans hh
 refine⟨((((((((((((((((h.st).D9 (p:=⟨z,0,none⟩) H.2.2.1 H.2.2.2.1 (fun e=>H.2.2.2.2.2.1 (Z7 e)) H.2.2.2.2.2.2 u0)).D9 (p:=⟨z,1,none⟩) H.2.2.1 H.2.2.2.1 (fun e=>H.2.2.2.2.2.1 (Z7 e)) H.2.2.2.2.2.2 u1)).D9 (p:=⟨z,2,none⟩) H.2.2.1 H.2.2.2.1 (fun e=>H.2.2.2.2.2.1 (Z7 e)) H.2.2.2.2.2.2 u2)).D9 (p:=⟨z,3,none⟩) H.2.2.1 H.2.2.2.1 (fun e=>H.2.2.2.2.2.1 (Z7 e)) H.2.2.2.2.2.2 u3)).D9 (p:=⟨z,4,none⟩) H.2.2.1 H.2.2.2.1 (fun e=>H.2.2.2.2.2.1 (Z7 e)) H.2.2.2.2.2.2 u4)).D9 (p:=⟨z,5,none⟩) H.2.2.1 H.2.2.2.1 (fun e=>H.2.2.2.2.2.1 (Z7 e)) H.2.2.2.2.2.2 u5)).D9 (p:=⟨z,6,none⟩) H.2.2.1 H.2.2.2.1 (fun e=>H.2.2.2.2.2.1 (Z7 e)) H.2.2.2.2.2.2 u6)).D9 (p:=⟨z,7,none⟩) H.2.2.1 H.2.2.2.1 (fun e=>H.2.2.2.2.2.1 (Z7 e)) H.2.2.2.2.2.2 u7),⟨B _ h.k.1,B _ h.k.2.1,B _ h.k.2.2.1,B _ h.k.2.2.2.1,B _ h.k.2.2.2.2.1,B _ h.k.2.2.2.2.2⟩,?_⟩;intro z' hz';cases hz';have hz:∀ k,k<8->∃ v,wr.cell? ⟨z,k,none⟩=some v:=fun k hk=>⟨_,H.1 k _ (Array.getElem?_eq_getElem o_)⟩
 refine⟨?_,fun o=>?_,H.2.2.1,H.2.2.2.1,Zf H.2.2.2.2.1 hu.size,H.2.2.2.2.2.1,H.2.2.2.2.2.2⟩
 .intro k v hk;match k,hk with
  |0,hk=>(simp only[List.getElem?_toArray,Zw,ZD,Zi]at hk;subst hk;exact(ZO u7 (show 7≠0 by decide) (ZO u6 (show 6≠0 by decide) (ZO u5 (show 5≠0 by decide) (ZO u4 (show 4≠0 by decide) (ZO u3 (show 3≠0 by decide) (ZO u2 (show 2≠0 by decide) (ZO u1 (show 1≠0 by decide) (Oo u0 (H.1 0 _ (Array.getElem?_eq_getElem (i:=0) o_)))))))))))
  |1,hk=>(simp only[List.getElem?_toArray,Zw,ZD,Zi]at hk;subst hk;exact(ZO u7 (show 7≠1 by decide) (ZO u6 (show 6≠1 by decide) (ZO u5 (show 5≠1 by decide) (ZO u4 (show 4≠1 by decide) (ZO u3 (show 3≠1 by decide) (ZO u2 (show 2≠1 by decide) (Oo u1 (ZO u0 (show 0≠1 by decide) (H.1 1 _ (Array.getElem?_eq_getElem (i:=1) o_)))))))))))
  |2,hk=>(simp only[List.getElem?_toArray,Zw,ZD,Zi]at hk;subst hk;exact(ZO u7 (show 7≠2 by decide) (ZO u6 (show 6≠2 by decide) (ZO u5 (show 5≠2 by decide) (ZO u4 (show 4≠2 by decide) (ZO u3 (show 3≠2 by decide) (Oo u2 (ZO u1 (show 1≠2 by decide) (ZO u0 (show 0≠2 by decide) (H.1 2 _ (Array.getElem?_eq_getElem (i:=2) o_)))))))))))
  |3,hk=>(simp only[List.getElem?_toArray,Zw,ZD,Zi]at hk;subst hk;exact(ZO u7 (show 7≠3 by decide) (ZO u6 (show 6≠3 by decide) (ZO u5 (show 5≠3 by decide) (ZO u4 (show 4≠3 by decide) (Oo u3 (ZO u2 (show 2≠3 by decide) (ZO u1 (show 1≠3 by decide) (ZO u0 (show 0≠3 by decide) (H.1 3 _ (Array.getElem?_eq_getElem (i:=3) o_)))))))))))
  |4,hk=>(simp only[List.getElem?_toArray,Zw,ZD,Zi]at hk;subst hk;exact(ZO u7 (show 7≠4 by decide) (ZO u6 (show 6≠4 by decide) (ZO u5 (show 5≠4 by decide) (Oo u4 (ZO u3 (show 3≠4 by decide) (ZO u2 (show 2≠4 by decide) (ZO u1 (show 1≠4 by decide) (ZO u0 (show 0≠4 by decide) (H.1 4 _ (Array.getElem?_eq_getElem (i:=4) o_)))))))))))
  |5,hk=>(simp only[List.getElem?_toArray,Zw,ZD,Zi]at hk;subst hk;exact(ZO u7 (show 7≠5 by decide) (ZO u6 (show 6≠5 by decide) (Oo u5 (ZO u4 (show 4≠5 by decide) (ZO u3 (show 3≠5 by decide) (ZO u2 (show 2≠5 by decide) (ZO u1 (show 1≠5 by decide) (ZO u0 (show 0≠5 by decide) (H.1 5 _ (Array.getElem?_eq_getElem (i:=5) o_)))))))))))
  |6,hk=>(simp only[List.getElem?_toArray,Zw,ZD,Zi]at hk;subst hk;exact(ZO u7 (show 7≠6 by decide) (Oo u6 (ZO u5 (show 5≠6 by decide) (ZO u4 (show 4≠6 by decide) (ZO u3 (show 3≠6 by decide) (ZO u2 (show 2≠6 by decide) (ZO u1 (show 1≠6 by decide) (ZO u0 (show 0≠6 by decide) (H.1 6 _ (Array.getElem?_eq_getElem (i:=6) o_)))))))))))
  |7,hk=>(simp only[List.getElem?_toArray,Zw,ZD,Zi]at hk;subst hk;exact(Oo u7 (ZO u6 (show 6≠7 by decide) (ZO u5 (show 5≠7 by decide) (ZO u4 (show 4≠7 by decide) (ZO u3 (show 3≠7 by decide) (ZO u2 (show 2≠7 by decide) (ZO u1 (show 1≠7 by decide) (ZO u0 (show 0≠7 by decide) (H.1 7 _ (Array.getElem?_eq_getElem (i:=7) o_)))))))))))
  |k+8,hk=>simp at hk
 .have:=H.2.1 o;simpa using this
theorem RS.set1{w:World}{b:Nat}{A:Option Addr}{n c m g:Nat}{ps:List AX}{cl:Nat}{q:AX}{cs:Array Value}{wr:World}(h:RS W w b A n c m g off ca ps Al cl l ii jj p q cs (some z) wr)(k:Nat)(u:Value):RS W w b A n c m g off ca ps Al cl l ii jj p q (cs.setIfInBounds k u) (some z) (wr.setCell ⟨z,k,none⟩ u):=by
 have H:=h.box z rfl;have hg:=(h.st.at_.lt g rfl);have hu:Aw [z] wr (wr.setCell ⟨z,k,none⟩ u):=(Aw.refl [z] wr).AA s_ u;have B:∀ (o:Nat) {v:Value},wr.cell? ⟨g,o,none⟩=some v->(wr.setCell ⟨z,k,none⟩ u).cell? ⟨g,o,none⟩=some v:=fun o v hh=>(F5 hu g hg.2 (by have:=H.2.2.2.2.2.1;simpa using this) o).trans hh
 refine⟨h.st.D9 (p:=⟨z,k,none⟩) H.2.2.1 H.2.2.2.1 (fun e=>H.2.2.2.2.2.1 (Z7 e)) H.2.2.2.2.2.2 u,⟨B _ h.k.1,B _ h.k.2.1,B _ h.k.2.2.1,B _ h.k.2.2.2.1,B _ h.k.2.2.2.2.1,B _ h.k.2.2.2.2.2⟩,?_⟩;intro z' hz';cases hz';refine⟨?_,fun o=>?_,H.2.2.1,H.2.2.2.1,Zf H.2.2.2.2.1 hu.size,H.2.2.2.2.2.1,H.2.2.2.2.2.2⟩
 .intro j v hj;by_cases e:k=j
  .subst e;by_cases hk:k<cs.size
   .rw[Array.getElem?_setIfInBounds_self_of_lt hk]at hj;cases hj;exact Oo u (H.1 k _ (Array.getElem?_eq_getElem hk))
   .rw[Array.getElem?_eq_none AR]at hj;cases hj
  .rw[Array.getElem?_setIfInBounds_ne e]at hj;exact ZO u e (H.1 j v hj)
 .have:=H.2.1 o;simpa using this
theorem RS.Oq{w:World}{b:Nat}{A:Option Addr}{n c m g:Nat}{ps:List AX}{cl:Nat}{q:AX}{cs:Array Value}{wr:World}(h:RS W w b A n c m g off ca ps Al cl l ii jj p q cs none wr)(cs':Array Value):RS W w b A n c m g off ca ps Al cl l ii jj p q cs' none wr:=⟨h.st,h.k,fun z hz=>by cases hz⟩
theorem RS.same{w:World}{b:Nat}{A:Option Addr}{n c m g:Nat}{ps:List AX}{cl:Nat}{q:AX}{cs:Array Value}{fz:Option Nat}{wr:World}(h:RS W w b A n c m g off ca ps Al cl l ii jj p q cs fz wr)(hlt:b<w.heap.size)(hc:DK W wr' b A n c)(hu:Aw [b] wr wr'):RS W w b A n c m g off ca ps Al cl l ii jj p q cs fz wr' :=
 have h1:=h.st.at_.lt g rfl
 have B:∀ (o:Nat) {v:Value},wr.cell? ⟨g,o,none⟩=some v->wr'.cell? ⟨g,o,none⟩=some v:=fun o v hh=>(F5 hu g h1.2 AR o).trans hh
 ⟨h.st.same hlt hc hu,⟨B _ h.k.1,B _ h.k.2.1,B _ h.k.2.2.1,B _ h.k.2.2.2.1,B _ h.k.2.2.2.2.1,B _ h.k.2.2.2.2.2⟩,fun z hz =>
  have H:=h.box z hz
  have hzb:z ∉[b]:=by have:=H.2.2.1;simp;omega
  ⟨fun k v hk=>(F5 hu z H.2.2.2.2.1 hzb k).trans (H.1 k v hk),fun o=>(NB hu z H.2.2.2.2.1 hzb o).trans (H.2.1 o),H.2.2.1,H.2.2.2.1,Zf H.2.2.2.2.1 hu.size,H.2.2.2.2.2.1,H.2.2.2.2.2.2⟩⟩
theorem ZjC{w:World}{b:Nat}{A:Option Addr}{n c:Nat}(hy:Bytes W A n)(hn:n<=4194304)(h:DK W w b A n c):
    Calls prog 17 #[.pointer (some ⟨b,0,none⟩)] w fun e w'=>∃ (v:Sv) (l:List A7),e=.returned (.slice v.A v.n v.c)/\l.length<=8/\On l/\Own w' w.heap.size 35 8 v.A v.n v.c (l.map A7.cells)/\DK W w' b A n c/\Aw [b] w w':=by
  obtain⟨i0,hi,hz0,hz1,hz2⟩:=info_parts XT;obtain⟨j0,hj,hy0',rY,rZ⟩:=info_parts ZjX;have hlt:=h.lt;have sD:=Z5 h.hB;have sF:=Z5 h.hb;have hy':=Z5 hy;have HC:=Z5 h;clear h hy;go_enter func17,ntmps17;go_wp2_with fail;refine Zb (ZjD hy'.out hn HC.out) ?_;rintro e w1 ⟨t,x,y,rfl,hp,hc1,hu1⟩;have z1:w.heap.size<=w1.heap.size:=hu1.size;have VR:=Z5 (hc1.Aj (.cells #[.int .i64 t,.int .i64 x,.int .i64 y] 33));have HP:=Z5 hp;clear HC hc1 hp;go_wp2_with fail;refine ZQ fun R hR=>?_
  have hwb:R=w1.alloc (.cells #[.int .i64 t,.int .i64 x,.int .i64 y] 33):=hR;have g0:R.cell? ⟨w1.heap.size,0,none⟩=some (.int .i64 t):=by rw[hwb];exact Jk rfl
  have g1:R.cell? ⟨w1.heap.size,1,none⟩=some (.int .i64 x):=by rw[hwb];exact Jk rfl
  have g2:R.cell? ⟨w1.heap.size,2,none⟩=some (.int .i64 y):=by rw[hwb];exact Jk rfl
  have HCR:Hid (DK W R b A n c):=by rw[hwb];exact VR.out
  have hoa:Own R w.heap.size 33 3 (some ⟨w1.heap.size,0,none⟩) 1 1 [QN ⟨t,x,y⟩]:=by
    rw[hwb];exact(Own.box (cs:=QN ⟨t,x,y⟩) (heap_alloc_new w1 _) rfl).from_ (fun q hq=>by simp[AQ,ob]at hq;omega)
  have sG:Aw [b] w R:=by rw[hwb];exact hu1.Aj _
  clear hR hwb VR hu1
  go_region_held3 (fun w'=>w'.cell? ⟨w1.heap.size,0,none⟩=some (.int .i64 t)/\w'.cell? ⟨w1.heap.size,1,none⟩=some (.int .i64 x)/\w'.cell? ⟨w1.heap.size,2,none⟩=some (.int .i64 y))
    (first|go_keep|exact⟨(F5 hu3 w1.heap.size (Y6 g0) AR _).trans g0,(F5 hu3 w1.heap.size (Y6 g0) AR _).trans g1,(F5 hu3 w1.heap.size (Y6 g0) AR _).trans g2⟩)
    (first |(go_at_call 30;refine(Ys hy'.out hn (HCR.out.below (ZY (Below.refl _ _))) 9 o_ o_).mono ?_;rintro e w3 ⟨wt,rfl,hw0,hw1,hc3,hu3⟩;have jF:IntKind.i64.wrap (1+wt)=1+wt:=by rw[IntKind.wrap_i64];omega))
  have hwt:=Y8.2 (show 1<=1+wt/\1+wt<=9999 from⟨o_,o_⟩)
  have st0:Fg W w (w3.alloc (.cells #[.int .i64 1,.int .i64 1,.string ⟨#[]⟩,.string ⟨#[112,48]⟩,.int .i64 t,.int .i64 x,.int .i64 y,.int .i64 (1+wt)] 35)) b A n c 0 (some ⟨w1.heap.size,0,none⟩) 1 [⟨t,x,y⟩] (some ⟨w3.heap.size,0,none⟩) 1 [⟨1,1,⟨#[]⟩,⟨#[112,48]⟩,⟨t,x,y⟩,1+wt⟩]:=by
    have z3:R.heap.size<=w3.heap.size:=hu3.size;have z4:w1.heap.size<R.heap.size:=Y6 g0;refine⟨hc3.Aj _,(sG.DW.trans hu3).Aj _,?_,?_,?_,?_,?_⟩
    . exact(Own.upd hoa ((Aw.refl [b] R).DW.trans hu3) (fun q hq hm=>by simp[AQ,ob]at hq hm;omega)).Aj _
    . exact(Own.box (cs:=A7.cells ⟨1,1,⟨#[]⟩,⟨#[112,48]⟩,⟨t,x,y⟩,1+wt⟩) (heap_alloc_new w3 _) rfl).from_ (fun q hq=>by simp[AQ,ob]at hq;have:=sG.size;omega)
    . intro q hq hm
      simp[AQ,ob]at hq hm;omega
    . intro i p hp
      cases i with
      | zero=>simp at hp;subst hp;simpa using HP.out
      | succ i=>simp at hp
    . refine⟨s_,fun f hf=>?_,fun i f hf=>?_⟩
      . simp only[Zh]at hf
        subst hf;exact⟨Zid rfl (HP.out.F7 o_) hwt (by decide +kernel),.inl rfl,.inr (.inl ⟨0,o_,by rw[jA o_];rfl⟩)⟩
      . cases i with
        | zero=>simp at hf;subst hf;rfl
        | succ i=>simp at hf
  have HC3:=Z5 st0.cur;have ST0:=Z5 st0;clear hc3 hu3 st0 hoa g0 g1 g2 HCR sG jF z1;go_wp2_with fail;refine Zb (Ys hy'.out hn HC3.out 4 o_ o_) ?_;rintro e w4 ⟨y2,rfl,hn0,hn1,hc4,FK⟩;have PQ:=ST0.out.same hlt hc4 FK;clear ST0 HC3 hc4 FK;go_wp2_with fail;go_loopw [3,4,6] (fun a q i wr=>∃ (m:Nat) (Aa:Option Addr) (ca:Nat) (ps:List AX) (Al:Option Addr) (cl:Nat) (l:List A7),a=.slice Aa (m+1) ca/\q=.slice Al l.length cl/\i=.int .i64 ((m:Int)+1)/\l.length=m+1/\(m:Int)<=1+y2/\Fg W w wr b A n c m Aa ca ps Al cl l) (fun _ _ i _=>10-(intOf i).toNat)
  case atStart=>exact⟨0,_,_,_,_,_,_,rfl,rfl,rfl,rfl,o_,PQ⟩
  case round =>
    obtain⟨m,Aa,ca,ps,Al,cl,l,rfl,rfl,rfl,hlm,hmy,hst⟩:=hrel;have ST:=Z5 hst;have jG:=Z5 hst.cur;clear hst PQ;by_cases hlt2:(m:Int)+1<=1+y2
    . go_wp2_with fail
      refine Zb (Ys hy'.out hn jG.out 4 o_ o_) ?_;rintro e w5 ⟨st,rfl,ht0,ht1,UB,We⟩;have ST5:=Z5 (ST.out.same hlt UB We);have Wh:=Z5 UB;clear ST jG UB We;go_wp2_with fail;refine Zb (Ys hy'.out hn Wh.out 9 o_ o_) ?_;rintro e w6 ⟨sx,rfl,hx0,hx1,hc6,Wi⟩;have Ot:=Z5 (ST5.out.same hlt hc6 Wi);have Wl:=Z5 hc6;clear ST5 Wh hc6 Wi;go_wp2_with fail;refine Zb (Ys hy'.out hn Wl.out 5 o_ o_) ?_;rintro e w7 ⟨sy,rfl,hs0,hs1,Wm,Wn⟩;have NK:=Z5 (Ot.out.same hlt Wm Wn);clear Ot Wl Wm Wn;have z7:w.heap.size<=w7.heap.size:=NK.out.upd.size;obtain⟨pm,g,off,hpm,hA,hcl⟩:=Row.at_ (l:=ps) (c:=QN) NK.out.at_.row (Nat.lt_succ_self m);subst hA;have hgz:g<w7.heap.size:=(NK.out.at_.lt g rfl).2;have a0:=hcl 0 _ rfl;have a1:=hcl 1 _ rfl;have a2:=hcl 2 _ rfl;simp only[Nat.add_zero]at a0;have hnm:=NK.out.near m pm hpm.out;have LP:(m:Int)<=3:=by omega
      have hsn:Bw 8 st sx (sy-2):=⟨o_,o_,o_,o_,o_,o_⟩;have HNM:=Z5 hnm;have HSN:=Z5 hsn;clear hcl hnm hsn hpm;go_wp2_with fail;refine ZQ fun R hR=>?_
      have hRe:R=w7.alloc (.cells #[.int .i64 st,.int .i64 sx,.int .i64 (sy-2)] 33):=hR;have Ou:Hid (Fg W w R b A n c m (some ⟨g,off,none⟩) ca ps Al cl l):=by rw[hRe];exact NK.out.Aj _
      have s0:R.cell? ⟨w7.heap.size,0,none⟩=some (.int .i64 st):=by rw[hRe];exact Jk rfl
      have s1:R.cell? ⟨w7.heap.size,1,none⟩=some (.int .i64 sx):=by rw[hRe];exact Jk rfl
      have s2:R.cell? ⟨w7.heap.size,2,none⟩=some (.int .i64 (sy-2)):=by rw[hRe];exact Jk rfl
      have sf:∀ o,R.frozen? ⟨w7.heap.size,o,none⟩=false:=fun o=>by rw[hRe];exact rH _ _ _ _
      have b0:R.cell? ⟨g,off+m*3,none⟩=some (.int .i64 pm.turn):=by rw[hRe];exact Zm (Ze (Below.refl _ _) _) a0
      have b1:R.cell? ⟨g,off+m*3+1,none⟩=some (.int .i64 pm.x):=by rw[hRe];exact Zm (Ze (Below.refl _ _) _) a1
      have b2:R.cell? ⟨g,off+m*3+2,none⟩=some (.int .i64 pm.y):=by rw[hRe];exact Zm (Ze (Below.refl _ _) _) a2
      have sz:=Y6 s0;simp only at sz;have Wo:¬ ob (some (⟨g,off,none⟩:Addr))=some w7.heap.size:=by simp[ob];omega
      have jH:¬ ob Al=some w7.heap.size:=fun e=>by have:=(NK.out.fl.lt _ e).2;omega
      have hXw:w.heap.size<=w7.heap.size:=z7;clear hR hRe a0 a1 a2 NK;generalize w7.heap.size=X at *
      have hm0:(0:Int)<=(m:Int):=by omega
      have hmm:(m:Int)<((m+1:Nat):Int):=by omega
      have hmw:IntKind.i64.wrap ((m:Int)+1-1)=(m:Int):=by rw[IntKind.wrap_i64];omega
      have Z54:IntKind.i64.wrap (m:Int)=(m:Int):=by rw[IntKind.wrap_i64];omega
      have Z55:(m:Int)<(m:Int)+1:=by omega
      go_region_law (first
        |(refine YB rfl (.tmp 39) (.tmp 47) 92 rfl w.heap.size 33 3 24 j0 _ underlying92 hj hy0' rY rZ rfl o_ (some ⟨g,off,none⟩) (m+1) ca _ rfl (jJ.at_.Aj _) _ 1 1 [QN ⟨ct,cx,cy⟩] rfl (Yh _ _ _ 3 _ s_) (by simp[QN]) (by simp[QN,Value.oneCell']) (by simp only[maxLen];omega) o_ (by have:=jJ.upd.size;simp;omega) ?_;intro A9 c9 w9 Wp Sg Si)
        |(go_simp;go_at_call 39;refine(ZdJ (20+8 *(m:Int)) 8 _ _ _ _ _ _ HNM.out HSN.out o_ o_ _).mono ?_;rintro e w8 ⟨ct,cx,cy,rfl,hcp,Gh⟩;have jJ:=Ou.out.below (Zg (ZY (Below.refl _ _)) Gh);have t0:=Zm Gh (show R.drew.cell? _=_ from s0);have t1:=Zm Gh (show R.drew.cell? _=_ from s1);have t2:=Zm Gh (show R.drew.cell? _=_ from s2);have tf:∀ o,w8.frozen? ⟨X,o,none⟩=false:=(fun o=>(Q6 Gh X sz o).trans (sf o));have tz:X<w8.heap.size:=Y6 t0))
      all_goals
        have hnx:Bw (20+8 *((m+1:Nat):Int)) ct cx cy:=by
          have e:20+8 *((m+1:Nat):Int)=20+8 *(m:Int)+8:=by omega
          rw[e];exact hcp
        have sH:=Z5 (jJ.W9 (p:=⟨ct,cx,cy⟩) hlt sD.out sF.out Sg Wp Si hnx);have v0:=World.grownBy.cell Sg (Zm (Ze (Below.refl _ _) _) t0) (fun e=>Wo e.symm);have v1:=World.grownBy.cell Sg (Zm (Ze (Below.refl _ _) _) t1) (fun e=>Wo e.symm);have v2:=World.grownBy.cell Sg (Zm (Ze (Below.refl _ _) _) t2) (fun e=>Wo e.symm);have vf:∀ o,w9.frozen? ⟨X,o,none⟩=false:=fun o=>(NH Sg X AR (fun q hq e=>Wo (e▸hq)) o).trans (Zd9 tz (tf o))
        have vz:X<w9.heap.size:=Y6 v0
        have h9X:¬ ob A9=some X:=fun e=>by
          rcases Si with h1|h1
          . exact Wo (h1▸e)
          . rw[h1]at e;have:=Z7 e;simp at this;omega
        clear hnx Sg Wp t0 t1 t2 tf jJ hcp Gh s0 s1 s2 sf b0 b1 b2 sz Si;go_wp2_with fail
        go_region_law (first
          |(go_simp;go_at_call 30;refine(Ys hy'.out hn (sH.out.cur.below (ZY (Below.refl _ _))) 2 o_ o_).mono ?_;rintro e UC ⟨dx,rfl,hd0,hd1,Wq,KD⟩;have Ws:=sH.out.same hlt Wq ((Aw.refl [b] w9).DW.trans KD);have x0:=(F5 KD X vz AR 0).trans v0;have x1:=(F5 KD X vz AR 1).trans v1;have x2:=(F5 KD X vz AR 2).trans v2;have xf:∀ o,UC.frozen? ⟨X,o,none⟩=false:=(fun o=>(NB KD X vz AR o).trans (vf o));have hwx:IntKind.i64.wrap (sx+dx)=sx+dx:=(by rw[IntKind.wrap_i64];omega)))
        all_goals
          have Wt:=Z5 (Ws.D9 (p:=⟨X,1,none⟩) (Zf hlt hXw) hXw h9X jH (.int .i64 (sx+dx)));have Wu:=Y7 (n:=(m:Int)) o_ o_;have sI:=Y7 (n:=(m:Int)+1) o_ o_;have hcA:=fun W=>NG (a:=⟨#[112]⟩) (b:=Ya (m:Int)) (by show 1+_<=_;omega) W
          have hcB:=fun W=>NG (a:=⟨#[112]⟩) (b:=Ya ((m:Int)+1)) (by show 1+_<=_;omega) W
          rw[show(⟨#[112]⟩++Ya (m:Int))=Gg m from rfl]at hcA;rw[show(⟨#[112]⟩++Ya ((m:Int)+1))=Gg (m+1)from rfl]at hcB;have sJ:Yi st (sx+dx) (sy-2)=true:=Bw.F7 (M:=20) ⟨o_,o_,o_,o_,o_,o_⟩ o_;have HVX:=Z5 sJ;have sK:IntKind.i64.wrap ((m:Int)+1+1)=(m:Int)+1+1:=by rw[IntKind.wrap_i64];omega
          have e0:(UC.setCell ⟨X,1,none⟩ (.int .i64 (sx+dx))).cell? ⟨X,0,none⟩=some (.int .i64 st):=by go_simp
          have e1:(UC.setCell ⟨X,1,none⟩ (.int .i64 (sx+dx))).cell? ⟨X,1,none⟩=some (.int .i64 (sx+dx)):=by go_simp
          have e2:(UC.setCell ⟨X,1,none⟩ (.int .i64 (sx+dx))).cell? ⟨X,2,none⟩=some (.int .i64 (sy-2)):=by go_simp
          clear sJ x0 x1 x2 xf v0 v1 v2 vf vz hwx Wq KD Ws sH Wu sI;go_wp2_with fail;refine ZQ fun R2 hR2=>?_
          rw[<- hR2.out]at Wt e0 e1 e2;have ez:=Y6 e0;simp only at ez;generalize hP0:Gg m=P0 at hcA;generalize hP1:Gg (m+1)=P1 at hcB;clear hR2
          go_region_held3 (fun w'=>w'.cell? ⟨X,0,none⟩=some (.int .i64 st)/\w'.cell? ⟨X,1,none⟩=some (.int .i64 (sx+dx))/\w'.cell? ⟨X,2,none⟩=some (.int .i64 (sy-2)))
            (first|go_keep|exact⟨k0,k1,k2⟩)
            (first
              |(refine YB rfl (.tmp 55) (.tmp 71) 23 rfl w.heap.size 35 8 80 i0 _ underlying23 hi hz0 hz1 hz2 rfl o_ Al (m+1) cl _ rfl ((hlm▸Gs.fl).Aj _) _ 1 1 [A7.cells ⟨(m:Int)+1+1,2,P0,P1,⟨st,sx+dx,sy-2⟩,1+GN⟩] rfl (Yh _ _ _ 8 _ s_) (by simp[A7.cells]) (by simp[A7.cells,Value.oneCell']) (by simp only[maxLen];omega) o_ (by have:=Gs.upd.size;simp;omega) ?_;intro sM c14 w14 Ms H7 H8;have k0:=World.grownBy.cell H7 (Zm (Ze (Below.refl _ _) _) k0) (fun e=>jH e.symm);have k1:=World.grownBy.cell H7 (Zm (Ze (Below.refl _ _) _) k1) (fun e=>jH e.symm);have k2:=World.grownBy.cell H7 (Zm (Ze (Below.refl _ _) _) k2) (fun e=>jH e.symm))
              |(go_at_call 40;refine(Je _ _ o_ o_).mono ?_;rintro e wf ⟨rfl,hbf⟩;first |(have Gs:=Gs.below hbf;have k0:=Zm hbf k0;have k1:=Zm hbf k1;have k2:=Zm hbf k2)|(have Gs:=Wt.out.below (Zg (ZY (Below.refl _ _)) hbf);have k0:=Zm hbf (show R2.drew.cell? _=_ from e0);have k1:=Zm hbf (show R2.drew.cell? _=_ from e1);have k2:=Zm hbf (show R2.drew.cell? _=_ from e2)))
              |(go_at_call 30;refine(Ys hy'.out hn Gs.cur 9 o_ o_).mono ?_;rintro e jK ⟨GN,rfl,hq0,hq1,KE,Gt⟩;have Gs:=Gs.same hlt KE Gt;have k0:=(F5 Gt X (Y6 k0) AR 0).trans k0;have k1:=(F5 Gt X (Y6 k1) AR 1).trans k1;have k2:=(F5 Gt X (Y6 k2) AR 2).trans k2;have jF:IntKind.i64.wrap (1+GN)=1+GN:=(by rw[IntKind.wrap_i64];omega)))
          have Wv:Mr ⟨(m:Int)+1+1,2,P0,P1,⟨st,sx+dx,sy-2⟩,1+GN⟩:=by
            subst hP0;subst hP1;exact⟨Zic o_ (Y8.2 ⟨o_,o_⟩) HVX.out (Y8.2 ⟨o_,o_⟩) (VZ o_) (VZ o_) (ZiV o_ o_ o_),.inr (.inl ⟨m,o_,rfl⟩),.inr (.inl ⟨m+1,o_,rfl⟩)⟩
          have Sj:=Z5 (Gs.PP hlt sD.out sF.out H7 (by rw[hlm];exact Ms) H8 ⟨Wv,by rw[hlm];push_cast;rfl⟩);clear Wv H7 Ms H8 Gs KE Gt k0 k1 k2 e0 e1 e2;go_wp2_with fail;exact⟨⟨m+1,A9,c9,_,sM,c14,_,rfl,by simp[hlm],s_,by simp[hlm],AR,Sj.out⟩,by simp only[intOf];omega⟩
    . have hmN:(m:Int)=1+y2:=by omega
      go_wp2_with fail;refine Zb (Ys hy'.out hn jG.out 4 o_ o_) ?_;rintro e w5 ⟨y3,rfl,hk0,hk1,UB,We⟩;have Ip:=ST.out.same hlt UB We;clear ST jG UB We;go_wp2_with fail;go_loopw [4,8] (fun q i wr=>∃ (k:Nat) (Al:Option Addr) (cl:Nat) (l:List A7),q=.slice Al l.length cl/\i=.int .i64 (k:Int)/\l.length+k<=8/\Fg W w wr b A n c m Aa ca ps Al cl l) (fun _ i _=>(intOf i).toNat)
      case atStart=>exact⟨y3.toNat,Al,cl,l,by rw[hlm],AR,o_,Ip⟩
      case round =>
        obtain⟨k,Al,cl,l,rfl,rfl,hlk,hst⟩:=hrel;have Ot:=Z5 hst;have Wh:=Z5 hst.cur;clear hst Ip;by_cases hlt3:0<k
        . have hi1:(0:Int)<(k:Int):=by omega
          have hll:l.length<=7:=by omega
          have Z56:m<=4:=by omega
          go_wp2_with fail;refine Zb (Ys hy'.out hn Wh.out (1+y2+1) o_ o_) ?_;rintro e w6 ⟨iI,rfl,hi0,hiN,hc6,Wi⟩;have NK:=Z5 (Ot.out.same hlt hc6 Wi);have Wl:=Z5 hc6;clear Ot Wh hc6 Wi;go_wp2_with fail;refine Zb (Ys hy'.out hn Wl.out (1+y2+1) o_ o_) ?_;rintro e w7 ⟨jI,rfl,hj0,hjN,Wm,Wn⟩;have Ou:=Z5 (NK.out.same hlt Wm Wn);clear NK Wl Wm Wn;obtain⟨ii,rfl⟩:=Zl hi0;obtain⟨jj,rfl⟩:=Zl hj0;have hii:ii<m+1:=by omega
          have hjj:jj<m+1:=by omega
          obtain⟨pi,g,off,hpi,hA,hcl⟩:=Row.at_ (l:=ps) (c:=QN) Ou.out.at_.row hii;obtain⟨pj,g2,Sc,hpj,hA2,Ov⟩:=Row.at_ (l:=ps) (c:=QN) Ou.out.at_.row hjj;rw[hA]at hA2;simp only[Zi,Addr.mk.injEq,and_true]at hA2;obtain⟨rfl,rfl⟩:=hA2;subst hA;have hgz:g<w7.heap.size:=(Ou.out.at_.lt g rfl).2;have a0:=hcl 0 _ rfl;have a1:=hcl 1 _ rfl;have a2:=hcl 2 _ rfl;have a3:=Ov 0 _ rfl;have a4:=Ov 1 _ rfl;have a5:=Ov 2 _ rfl;simp only[Nat.add_zero]at a0 a3;have HNI:=Z5 (Ou.out.near ii pi hpi.out);have HNJ:=Z5 (Ou.out.near jj pj hpj.out);clear hcl Ov hpi hpj;go_wp2_with fail;refine ZQ fun R hR=>?_
          rw[<- hR.out]at Ou a0 a1 a2 a3 a4 a5;have hi2:(0:Int)<=(ii:Int):=by omega
          have hi3:(ii:Int)<((m+1:Nat):Int):=by omega
          have hi4:(ii:Int)<(m:Int)+1:=by omega
          have hj2:(0:Int)<=(jj:Int):=by omega
          have hj3:(jj:Int)<((m+1:Nat):Int):=by omega
          have hj4:(jj:Int)<(m:Int)+1:=by omega
          have hzi:=Y7 (n:=(ii:Int)) o_ o_;have hzj:=Y7 (n:=(jj:Int)) o_ o_;have hcI:=fun W=>NG (a:=⟨#[112]⟩) (b:=Ya (ii:Int)) (by show 1+_<=_;omega) W
          have hcJ:=fun W=>NG (a:=⟨#[112]⟩) (b:=Ya (jj:Int)) (by show 1+_<=_;omega) W
          rw[show(⟨#[112]⟩++Ya (ii:Int))=Gg ii from rfl]at hcI;rw[show(⟨#[112]⟩++Ya (jj:Int))=Gg jj from rfl]at hcJ;have sK:IntKind.i64.wrap ((l.length:Int)+1)=(l.length:Int)+1:=by rw[IntKind.wrap_i64];omega
          clear hR hzi hzj;generalize hPI:Gg ii=PI at hcI;generalize hPJ:Gg jj=PJ at hcJ;have sN:RS W w b A n c m g off ca ps Al cl l ii jj pi pj #[.int .i64 0,.int .i64 0,.string ⟨#[]⟩,.string ⟨#[]⟩,.int .i64 0,.int .i64 0,.int .i64 0,.int .i64 0] none R:=⟨Ou.out,⟨a0,a1,a2,a3,a4,a5⟩,fun z hz=>by cases hz⟩;have rs:=sN.below _ (ZY (Below.refl _ _));have gz:=(rs.st.at_.lt g rfl).2;have jL:¬ g=R.drew.heap.size:=o_;have hc8:(#[.int .i64 0,.int .i64 0,.string ⟨#[]⟩,.string ⟨#[]⟩,.int .i64 0,.int .i64 0,.int .i64 0,.int .i64 0]:Array Value).size=8:=rfl;have h9:=fun(wr:World) (h:DK W wr b A n c)=>Ys hy'.out hn h 9 o_ o_
          go_cut [11] (fun s wr=>∃ (z:Nat) (bt bx bY GN:Int),s=.pointer (some ⟨z,0,none⟩)/\0<=GN/\GN<9/\Bw (20+8 *(ii:Int)+(20+8 *(jj:Int))) bt bx bY/\RS W w b A n c m g off ca ps Al cl l ii jj pi pj #[.int .i64 ((l.length:Int)+1),.int .i64 4,.string PI,.string PJ,.int .i64 bt,.int .i64 bx,.int .i64 bY,.int .i64 (1+GN)] (some z) wr)
          case first =>
           go_region_held3 (fun w'=>w'.cell? ⟨g,off+ii*3,none⟩=some (.int .i64 pi.turn)/\w'.cell? ⟨g,off+ii*3+1,none⟩=some (.int .i64 pi.x)/\w'.cell? ⟨g,off+ii*3+2,none⟩=some (.int .i64 pi.y)/\w'.cell? ⟨g,off+jj*3,none⟩=some (.int .i64 pj.turn)/\w'.cell? ⟨g,off+jj*3+1,none⟩=some (.int .i64 pj.x)/\w'.cell? ⟨g,off+jj*3+2,none⟩=some (.int .i64 pj.y))
             (first |(with_reducible exact rs.k)|(with_reducible exact rs.Sf _)|(with_reducible exact(rs.Wd hc8 _ _ _ _ _ _ _ _).k)|(refine⟨?_,?_,?_,?_,?_,?_⟩<;> go_keep)| go_keep)
             (first
              |(go_at_call 41;refine(Zl3 (20+8 *(ii:Int)) (20+8 *(jj:Int)) _ _ _ _ _ _ HNI.out HNJ.out o_ o_ _).mono ?_;rintro e wb ⟨bt,bx,bY,rfl,hbp,hbb⟩;(first |(with_reducible have rs:=rs.below _ hbb)|(with_reducible have rs:=(RS.EA rs).below _ hbb));(first |(obtain⟨zz,zf,zb,zw,zl,zg,zA⟩:=rs.box _ rfl;have z0:=zz 0 _ rfl;have z1:=zz 1 _ rfl;have z2:=zz 2 _ rfl;have z3:=zz 3 _ rfl;have z4:=zz 4 _ rfl;have z5:=zz 5 _ rfl;have z6:=zz 6 _ rfl;have z7:=zz 7 _ rfl;clear zz)| skip);have gz:=(rs.st.at_.lt g rfl).2;have jL:¬ g=wb.heap.size:=o_)
              |(go_at_call 30;with_reducible refine(h9 _ rs.st.cur).mono ?_;rintro e jK ⟨GN,rfl,hq0,hq1,KE,Gt⟩;have jF:IntKind.i64.wrap (1+GN)=1+GN:=(by rw[IntKind.wrap_i64];omega);have rs:=rs.same hlt KE Gt;(first |(obtain⟨zz,zf,zb,zw,zl,zg,zA⟩:=rs.box _ rfl;have z0:=zz 0 _ rfl;have z1:=zz 1 _ rfl;have z2:=zz 2 _ rfl;have z3:=zz 3 _ rfl;have z4:=zz 4 _ rfl;have z5:=zz 5 _ rfl;have z6:=zz 6 _ rfl;have z7:=zz 7 _ rfl;clear zz)| skip);have gz:=(rs.st.at_.lt g rfl).2;have jL:¬ g=jK.heap.size:=o_)
              |(go_at_call 30;with_reducible refine(h9 _ (RS.EA rs).st.cur).mono ?_;rintro e jK ⟨GN,rfl,hq0,hq1,KE,Gt⟩;have jF:IntKind.i64.wrap (1+GN)=1+GN:=(by rw[IntKind.wrap_i64];omega);have rs:=(RS.EA rs).same hlt KE Gt;(first |(obtain⟨zz,zf,zb,zw,zl,zg,zA⟩:=rs.box _ rfl;have z0:=zz 0 _ rfl;have z1:=zz 1 _ rfl;have z2:=zz 2 _ rfl;have z3:=zz 3 _ rfl;have z4:=zz 4 _ rfl;have z5:=zz 5 _ rfl;have z6:=zz 6 _ rfl;have z7:=zz 7 _ rfl;clear zz)| skip);have gz:=(rs.st.at_.lt g rfl).2;have jL:¬ g=jK.heap.size:=o_)
              |(go_at_call 40;refine(Je _ _ o_ o_).mono ?_;rintro e wf ⟨rfl,hbf⟩;(first |(with_reducible have rs:=rs.below _ hbf)|(with_reducible have rs:=(RS.EA rs).below _ hbf)|(with_reducible have rs:=((RS.EA sN).below _ (ZY (Below.refl _ _))).below _ hbf)| fail);(first |(obtain⟨zz,zf,zb,zw,zl,zg,zA⟩:=rs.box _ rfl;have z0:=zz 0 _ rfl;have z1:=zz 1 _ rfl;have z2:=zz 2 _ rfl;have z3:=zz 3 _ rfl;have z4:=zz 4 _ rfl;have z5:=zz 5 _ rfl;have z6:=zz 6 _ rfl;have z7:=zz 7 _ rfl;clear zz)| skip);have gz:=(rs.st.at_.lt g rfl).2;have jL:¬ g=wf.heap.size:=o_))
           all_goals go_wp2_with fail
           all_goals go_meet
           all_goals (refine⟨_,_,_,_,_,rfl,hq0,hq1,hbp,?_⟩;first |(with_reducible exact rs.Wd hc8 _ _ _ _ _ _ _ _)|(with_reducible exact(rs.Oq _).EA))
          case rest =>
           obtain⟨z,bt,bx,bY,GN,rfl,hq0,hq1,hbp,rs⟩:=hcut;clear sN;have hii2:ii<=4:=by omega
           have hjj2:jj<=4:=by omega
           have LQ:∀ o,wc.frozen? ⟨z,o,none⟩=false:=(rs.box z rfl).2.1;have z0:wc.cell? ⟨z,0,none⟩=some (.int .i64 ((l.length:Int)+1)):=(rs.box z rfl).1 0 _ rfl;have z1:wc.cell? ⟨z,1,none⟩=some (.int .i64 4):=(rs.box z rfl).1 1 _ rfl;have z2:wc.cell? ⟨z,2,none⟩=some (.string PI):=(rs.box z rfl).1 2 _ rfl;have z3:wc.cell? ⟨z,3,none⟩=some (.string PJ):=(rs.box z rfl).1 3 _ rfl;have z4:wc.cell? ⟨z,4,none⟩=some (.int .i64 bt):=(rs.box z rfl).1 4 _ rfl;have z5:wc.cell? ⟨z,5,none⟩=some (.int .i64 bx):=(rs.box z rfl).1 5 _ rfl;have z6:wc.cell? ⟨z,6,none⟩=some (.int .i64 bY):=(rs.box z rfl).1 6 _ rfl;have z7:wc.cell? ⟨z,7,none⟩=some (.int .i64 (1+GN)):=(rs.box z rfl).1 7 _ rfl;go_upto_if 111 with(fail);go_cut [11] (fun s wr=>∃ f:A7,rX l f/\s=.pointer (some ⟨z,0,none⟩)/\RS W w b A n c m g off ca ps Al cl l ii jj pi pj f.cells.toArray (some z) wr)
           case first =>
             by_cases hij:ii=jj
             . subst hij
               have HR:=Z5 (rs.set1 1 (.int .i64 3));have Wu:=Y7 (n:=(ii:Int) % 2) o_ o_;have hcM:=fun W=>NG (a:=⟨#[109]⟩) (b:=Ya ((ii:Int) % 2)) (by show 1+_<=_;omega) W
               rw[show(⟨#[109]⟩++Ya ((ii:Int) % 2))=PO (ii % 2)from congrArg (fun q=>(⟨#[109]⟩:ByteArray)++Ya q) (show(ii:Int) % 2=((ii % 2:Nat):Int)by omega)]at hcM;generalize hPM:PO (ii % 2)=PM at hcM;clear rs Wu;go_wp2_with fail;have hFI:=fun wr=>Je ((ii:Int) % 2) wr o_ o_
               with_reducible refine Zb (hFI _) ?_;rintro e sO ⟨rfl,Ww⟩;with_reducible have HR1:=HR.out.below _ Ww;have y3:=(HR1.box z rfl).1 3 _ rfl;have yf:=(HR1.box z rfl).2.1;have HR2:=Z5 (HR1.set1 3 (.string PM));clear HR HR1 Ww;go_wp2_with fail;refine Zb (Ys hy'.out hn HR2.out.st.cur 9 o_ o_) ?_;rintro e w21 ⟨xx,rfl,hx0,hx1,hc21,hu21⟩;have HR3:=Z5 (HR2.out.same hlt hc21 hu21);clear HR2 hc21 hu21;go_wp2_with fail;refine Zb (Ys hy'.out hn HR3.out.st.cur 9 o_ o_) ?_;rintro e w22 ⟨yy,rfl,hy0,hy1,hc22,Mt⟩;have HR4:=HR3.out.same hlt hc22 Mt;have x4:=(HR4.box z rfl).1 4 _ rfl;have x5:=(HR4.box z rfl).1 5 _ rfl;have x6:=(HR4.box z rfl).1 6 _ rfl;have xf:=(HR4.box z rfl).2.1;have sP:=Z5 (((HR4.set1 4 (.int .i64 0)).set1 5 (.int .i64 xx)).set1 6 (.int .i64 yy));clear HR3 HR4 hc22 Mt;go_wp2_with fail;go_meet
               case rel =>
                 subst hPI;subst hPM;exact⟨⟨(l.length:Int)+1,3,Gg ii,PO (ii % 2),⟨0,xx,yy⟩,1+GN⟩,⟨⟨Zla (Y8.2 ⟨o_,o_⟩) (Bw.F7 (M:=9) ⟨o_,o_,o_,o_,o_,o_⟩ o_) (Y8.2 ⟨o_,o_⟩) (VZ o_) (by rw[ZqV o_];exact Zm2 ⟨ii % 2,o_⟩),.inr (.inl ⟨ii,o_,rfl⟩),.inr (.inr ⟨ii % 2,o_,rfl⟩)⟩,rfl⟩,rfl,sP.out⟩
             . have hij2:¬(ii:Int)=(jj:Int):=by omega
               have hfB:∀ (X T:Int),0<=T->T<=3->-150<=X->X<=150->Mr ⟨(l.length:Int)+1,4,PI,PJ,⟨T,X,bY⟩,1+GN⟩:=fun X T h1 h2 h3 h4=>by
                 obtain⟨q1,q2,q3,q4,q5,q6⟩:=hbp;subst hPI;subst hPJ;exact⟨Zic o_ (Y8.2 ⟨o_,o_⟩) (Bw.F7 (M:=150) ⟨h1,h2,h3,h4,o_,o_⟩ o_) (Y8.2 ⟨o_,o_⟩) (VZ o_) (VZ o_) (ZiV o_ o_ o_),.inr (.inl ⟨ii,o_,rfl⟩),.inr (.inl ⟨jj,o_,rfl⟩)⟩
               have HF:=Z5 hfB;have HR:=Z5 rs;clear hfB rs;go_wp2_with fail;refine Zb (ZcW hy'.out hn HR.out.st.cur 3 o_ o_) ?_;rintro e sO ⟨o,rfl,Wx,Wy⟩;have HR2:=Z5 (HR.out.same hlt Wx Wy);clear HR Wx Wy;cases o with
               | true =>
                 have sQ:=hbp;obtain⟨q1,q2,q3,q4,q5,q6⟩:=sQ;have hw7:IntKind.i64.wrap (bx+7)=bx+7:=by rw[IntKind.wrap_i64];omega
                 have y5:=(HR2.out.box z rfl).1 5 _ rfl;have yz:z<sO.heap.size:=(HR2.out.box z rfl).2.2.2.2.1;have yb:¬ z=b:=by have:=(HR2.out.box z rfl).2.2.1;omega
                 go_wp2_with fail
                 go_region_law (first
                   |(go_simp;go_at_call 30;refine(Ys hy'.out hn (HR2.out.st.cur.below (ZY (Below.refl _ _))) 9 o_ o_).mono ?_;rintro e w21 ⟨dx,rfl,hd0,hd1,hc21,hu21⟩;have jM:=HR2.out.same hlt hc21 ((Aw.refl [b] sO).DW.trans hu21);have x5:=(jM.box z rfl).1 5 _ rfl;have xf:=(jM.box z rfl).2.1;have hwx:IntKind.i64.wrap (bx+7+dx)=bx+7+dx:=(by rw[IntKind.wrap_i64];omega)))
                 all_goals
                   have HR3:=Z5 (jM.set1 5 (.int .i64 (bx+7+dx)));clear jM HR2 hc21 hu21;go_wp2_with fail;go_meet
                   case rel=>exact⟨_,⟨HF.out (bx+7+dx) bt hbp.1 hbp.2.1 o_ o_,rfl⟩,rfl,HR3.out⟩
               | false =>
                 go_wp2_with fail;refine Zb (ZcW hy'.out hn HR2.out.st.cur 4 o_ o_) ?_;rintro e w21 ⟨o,rfl,hc21,hu21⟩;have HR3:=Z5 (HR2.out.same hlt hc21 hu21);clear HR2 hc21 hu21;cases o with
                 | true =>
                   go_wp2_with fail;refine Zb (Ys hy'.out hn HR3.out.st.cur 4 o_ o_) ?_;rintro e w22 ⟨tt,rfl,ht0,ht1,hc22,Mt⟩;have HR4:=Z5 (HR3.out.same hlt hc22 Mt);clear HR3 hc22 Mt;have sP:=Z5 (HR4.out.set1 4 (.int .i64 tt));obtain⟨zz,zf,-⟩:=HR4.out.box z rfl;have z4:=zz 4 _ rfl;clear zz HR4;go_wp2_with fail;go_meet
                   case rel=>exact⟨_,⟨HF.out bx tt ht0 o_ (by obtain⟨q1,q2,q3,q4,q5,q6⟩:=hbp;omega) (by obtain⟨q1,q2,q3,q4,q5,q6⟩:=hbp;omega),rfl⟩,rfl,sP.out⟩
                 | false =>
                   go_wp2_with fail;go_meet
                   case rel=>exact⟨_,⟨HF.out bx bt hbp.1 hbp.2.1 (by obtain⟨q1,q2,q3,q4,q5,q6⟩:=hbp;omega) (by obtain⟨q1,q2,q3,q4,q5,q6⟩:=hbp;omega),rfl⟩,rfl,HR3.out⟩
           case rest =>
             obtain⟨f,hf,rfl,rs⟩:=hcut;obtain⟨zz,zf,zb,zw,zl,zg,zA⟩:=rs.box z rfl;have z0:wc.cell? ⟨z,0,none⟩=some (.int .i64 f.id):=zz 0 _ rfl;have z1:wc.cell? ⟨z,1,none⟩=some (.int .i64 f.kind):=zz 1 _ rfl;have z2:wc.cell? ⟨z,2,none⟩=some (.string f.AL):=zz 2 _ rfl;have z3:wc.cell? ⟨z,3,none⟩=some (.string f.Z00):=zz 3 _ rfl;have z4:wc.cell? ⟨z,4,none⟩=some (.int .i64 f.Af.turn):=zz 4 _ rfl;have z5:wc.cell? ⟨z,5,none⟩=some (.int .i64 f.Af.x):=zz 5 _ rfl;have z6:wc.cell? ⟨z,6,none⟩=some (.int .i64 f.Af.y):=zz 6 _ rfl;have z7:wc.cell? ⟨z,7,none⟩=some (.int .i64 f.Ao):=zz 7 _ rfl;clear zz;have NL:IntKind.i64.wrap ((k:Int)-1)=((k-1:Nat):Int):=by rw[IntKind.wrap_i64];omega
             have sS:=Z5 rs;clear rs;have Z3Q:=sS.out.st.upd.size;go_wp2_with (at_builtin;refine ZX rfl (.tmp 141) (.tmp 143) 23 rfl w.heap.size 35 8 80 i0 _ underlying23 hi hz0 hz1 hz2 rfl o_ Al l.length cl _ rfl (sS.out.st.fl.Aj _) _ 1 1 [f.cells] rfl (Yh _ _ _ 8 _ (by first|rfl|simp)) (by simp[A7.cells]) (by simp[A7.cells,Value.oneCell']) (by simp only[maxLen];omega) o_ AR ?_;intro sM c14 w14 Ms H7 H8);have Sj:=Z5 (sS.out.st.PP hlt sD.out sF.out H7 Ms H8 hf);clear H7 Ms H8;go_wp2_with fail;exact⟨⟨k-1,sM,c14,l++[f],s_,s_,AR,Sj.out⟩,by simp only[intOf];omega⟩
        . have hkz:k=0:=by omega
          subst hkz;go_wp2_with fail;refine bodyPost_ret (v:=.slice Al l.length cl) (by simp[*,results,results17,go_sem]) rfl ?_;exact⟨⟨Al,l.length,cl⟩,l,rfl,o_,Ot.out.ok,Ot.out.fl,Ot.out.cur,Ot.out.upd⟩
end Go.Proofs.YtcnbphnnfmphlaaGreatDoor
