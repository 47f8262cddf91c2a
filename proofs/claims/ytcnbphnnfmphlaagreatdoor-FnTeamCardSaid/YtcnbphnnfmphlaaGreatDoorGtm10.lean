/- Texts of this proof. -/
import Derived.Test.YtcnbphnnfmphlaaGreatDoorGtm9
namespace Go.Proofs.YtcnbphnnfmphlaaGreatDoor
open Go.Lib renaming hid → Z5
open Go.RowKit
set_option linter.unusedVariables false
set_option linter.unusedSimpArgs false
set_option maxHeartbeats 1000000
set_option maxRecDepth 100000
variable{l:List A7}
def jN:List (List UInt8):=[(Gg 0).toList,(Gg 1).toList,(Gg 2).toList,(Gg 3).toList,(Gg 4).toList,(PO 0).toList,(PO 1).toList]
theorem Om.in7{s:ByteArray}(h:Om s):s.toList=[]∨s.toList∈jN:=by
 rcases h with rfl |⟨j,hj,rfl⟩|⟨j,hj,rfl⟩
 .exact .inl (by decide +kernel)
 .right;match j,hj with
  |0,_|1,_|2,_|3,_|4,_=>simp[jN]
  |j+5,hj=>omega
 .right;match j,hj with
  |0,_|1,_=>simp[jN]
  |j+2,hj=>omega
theorem ZdI(h:∀ f∈l,Mr f):(Yk l).length<=7:=ZlZ (S:=jN) fun f hf=>⟨(h f hf).2.1.in7,(h f hf).2.2.in7⟩
theorem ZbZ{W w:World}{A:Option Addr}{n c:Nat}(hB:Below W.heap.size W w)(hy:Bytes W A n)(hn:n<=4194304):
  Calls Tryz.prog 4 #[.slice A n c] w fun e w'=>∃ (v:Sv) (l:List A7),e=.returned (.slice v.A v.n v.c)/\l.length<=8/\On l/\BR w' v l/\Ag w.heap.size w' (Ea v)/\Below w.heap.size w w':=by
 have HB:=Z5 hB;have hy':=Z5 hy;clear hB hy;go_enter Tryz.func4,Tryz.ntmps4;go_wp2_with fail;refine Calls.mono (ZfI (c:=c) HB.out hy'.out hn) ?_;rintro e w1 ⟨b,rfl,hb,hc1,hb1⟩;have HC:=Z5 hc1;have hs:=hb1.size;have B1:=Z5 hb1;clear hc1 hb1;go_wp2_with fail;refine Calls.mono (ZjC hy'.out hn HC.out) ?_;rintro e w2 ⟨v,l,rfl,hlen,Wz,ho,hc2,hu2⟩;have FL:=Z5 Wz;have B2:=Z5 (PK (W:=w) B1.out hu2 hb);clear Wz hc2 hu2;go_wp2_with fail;go_ret;exact⟨v,l,rfl,hlen,FL.out,ho.zero,Ag.Ay (YC ho) hs,B2.out⟩
theorem ZsT(h:On l)(h8:l.length<=8):∀ g∈l,g.id<77:=by
 intro g hg;obtain⟨i,hi⟩:=List.getElem?_of_mem hg;have:=h.2.2 i g hi;have:=(List.getElem?_eq_some_iff.1 hi).1;omega
theorem Zgj:∀ (l:List A7) (i:Int) (p:Option Int),(∀ f∈l,Zy f=true)->(∀ (k:Nat) (f:A7),l[k]? = some f->f.id=i+(k:Int))->(∀ q,p=some q->q<i)->JW l p=true
 |[],_,_,_,_,_=>rfl
 |f::l,i,p,hv,hi,hp=>by
  have h0:=hi 0 f rfl
  have ih:=Zgj l (i+1) (some f.id) (fun g hg=>hv g (by simp[hg])) (fun k g hg=>by
   have:=hi (k+1) g (by simpa using hg)
   push_cast at this
   omega) (fun q hq=>by
   injection hq with hq
   omega)
  cases p with
  |none=>simp only[JW,hv f s_,ih,Bool.and_true]
  |some q =>
   have:=hp q rfl
   have hd:decide (q<f.id)=true:=decide_eq_true o_
   simp only[JW,hv f s_,ih,hd,Bool.and_true]
theorem On.fl(h:On l)(h8:l.length<=8):YW l=true:=by
 unfold YW;have h1:=ZdI h.2.1;have h2:=Zgj l 1 none (fun f hf=>(h.2.1 f hf).1) (fun k f hf=>by have:=h.2.2 k f hf;omega) s_;simp only[Bool.and_eq_true,decide_eq_true_eq];exact⟨o_,h2,o_⟩

end Go.Proofs.YtcnbphnnfmphlaaGreatDoor
