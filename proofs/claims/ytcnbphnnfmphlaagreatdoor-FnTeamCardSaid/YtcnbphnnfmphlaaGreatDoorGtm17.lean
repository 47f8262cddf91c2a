/- Texts of this proof. -/
import Derived.Lib.SmallJoins
import Derived.Test.YtcnbphnnfmphlaaGreatDoorGtm16
namespace Go.Proofs.YtcnbphnnfmphlaaGreatDoor
open Go.Calls renaming mono → Zb
open Go.Lib renaming hid → Z5
open Int renaming eq_ofNat_of_zero_le → Zl
open Nat renaming le_refl → Zd
open Option.some renaming injEq → Zi
open Go.Proofs.Tryz
open Go.RowKit
set_option linter.unusedVariables false
set_option linter.unusedSimpArgs false
set_option maxHeartbeats 4000000
set_option maxRecDepth 100000
variable{w1 w4 w5:ByteArray}{L:List ByteArray}{w':World}
theorem ZmN{w:World}{cs:Array Value}{t:TypeId}{k:Nat}{v:Value}(h:cs[k]? = some v):(w.alloc (.cells cs t)).cell? ⟨w.heap.size,k,none⟩=some v:=by
 have e:(w.alloc (.cells cs t)).heap[w.heap.size]? = some (.cells cs t):=heap_alloc_new w _;unfold World.cell?;rw[e];simpa using h
structure Bx(w:World)(b:Nat)(cs:List Value):Prop where
 cells:∀ (j:Nat) (u:Value),cs[j]? = some u->w.cell? ⟨b,j,none⟩=some u
 Bf:∀ o:Nat,w.frozen? ⟨b,o,none⟩=false
 lt:b<w.heap.size
theorem Bx.new(w:World)(cs:List Value)(t:TypeId)(b:Nat)(hb:b=w.heap.size):Bx (w.alloc (.cells cs.toArray t)) b cs:=by
 subst hb;refine⟨fun j u h=>ZmN (by simpa using h),fun o=>?_,s_⟩;have e:(w.alloc (.cells cs.toArray t)).heap[w.heap.size]? = some (.cells cs.toArray t):=heap_alloc_new w _;unfold World.frozen?;rw[e];simp
theorem Bx.below{w:World}{b:Nat}{cs:List Value}(h:Bx w b cs)(hb:Below w.heap.size w w'):Bx w' b cs :=
 ⟨fun j u hj=>Zm hb (h.cells j u hj),fun o=>(Q6 hb b h.lt o).trans (h.Bf o),Nat.lt_of_lt_of_le h.lt hb.size⟩
theorem b3{a w:World}(h:Below a.heap.size a w){b:Nat}(hb:a.heap.size<=b)(u0 u1 u2:Value):Below a.heap.size a (((w.setCell ⟨b,0,none⟩ u0).setCell ⟨b,1,none⟩ u1).setCell ⟨b,2,none⟩ u2):=Dp (Dp (Dp h hb u0) hb u1) hb u2
theorem kR(n:Int):OL (some n)=.tuple #[.int .i64 n,.bool true]:=rfl
theorem kU :OL none=.tuple #[.int .i64 0,.bool false]:=rfl
def Bk(w:World)(b:Nat)(t:TypeId)(cs:List Value):Prop:=w.heap[b]? = some (.cells cs.toArray t (0,0))
theorem Bk.new(w:World)(cs:List Value)(t:TypeId)(b:Nat)(hb:b=w.heap.size):Bk (w.alloc (.cells cs.toArray t)) b t cs:=by subst hb;exact heap_alloc_new w _
theorem Bk.lt{w:World}{b:Nat}{t:TypeId}{cs:List Value}(h:Bk w b t cs):b<w.heap.size:=by
 rcases Nat.lt_or_ge b w.heap.size with hlt|hge
 .exact hlt
 .unfold Bk at h;rw[Array.getElem?_eq_none hge]at h;cases h
theorem Bk.bx{w:World}{b:Nat}{t:TypeId}{cs:List Value}(h:Bk w b t cs):Bx w b cs:=by
 refine⟨fun j u hj=>?_,fun o=>?_,h.lt⟩
 .unfold World.cell?;rw[show w.heap[b]? = _ from h];simpa using hj
 .unfold World.frozen?;rw[show w.heap[b]? = _ from h];simp
theorem Bk.below{w:World}{b:Nat}{t:TypeId}{cs:List Value}(h:Bk w b t cs)(hb:Below w.heap.size w w'):Bk w' b t cs:=(hb.block b h.lt).trans h
theorem Bk.set{w:World}{b:Nat}{t:TypeId}{cs:List Value}(h:Bk w b t cs)(j:Nat)(u:Value):Bk (w.setCell ⟨b,j,none⟩ u) b t (cs.set j u):=by
 have e:=Go.Joins.block_setCell (w:=w) (g:=b) (i:=j) (show w.heap[b]? = _ from h) u;unfold Bk;rw[e];simp
theorem UQ(o:Option Int):OL o=.tuple #[.int .i64 (o.getD 0),.bool o.isSome]:=by cases o<;>rfl
theorem wG(p:UInt8->Bool):∀ (l cur:List UInt8),∀ x∈Yq p cur l,x.length<=cur.length+l.length
 |[],cur,x,hx=>by simp[Yq]at hx;subst hx;simp
 |b::l,cur,x,hx=>by
  rw[Yq]at hx
  split at hx
  .rcases List.mem_cons.1 hx with rfl|hx
   .simp
   .have:=wG p l [] x hx
    simp at this ⊢;omega
  .have:=wG p l (cur++[b]) x hx
   simp at this ⊢;omega
theorem wH{s:ByteArray}{c:UInt8}(hL:L.map (fun x=>x.data.toList)=Yq (Cc c) [] s.data.toList):∀ x∈L,x.size<=s.size:=by
 intro x hx;have h1:x.data.toList∈Yq (Cc c) [] s.data.toList:=by rw[<- hL];exact List.mem_map.2 ⟨x,hx,rfl⟩
 have:=wG _ _ _ _ h1;simpa using this
def kV(o:Option AX):Value:=match o with|some p=>.tuple #[Qv p.turn p.x p.y,.bool true]| none=>.tuple #[Qv 0 0 0,.bool false]
theorem Zbe{s:ByteArray}(hL:L.map (fun x=>x.data.toList)=Yq (Cc 44) [] s.data.toList)(h:L.length≠3):J7 s=none:=by
 refine wD fun p hp=>?_
 obtain⟨a,b,c,rfl,_⟩:=aF hp hL;exact h rfl
theorem Z88{s:ByteArray}{a b c:ByteArray}(hL:[a,b,c].map (fun x=>x.data.toList)=Yq (Cc 44) [] s.data.toList)(h:Ck a=none∨Ck b=none):J7 s=none:=by
 refine wD fun p hp=>?_
 obtain⟨a',b',c',e,hx,hy,_⟩:=aF hp hL;simp only[List.cons.injEq,and_true]at e;obtain⟨rfl,rfl,rfl⟩:=e;rw[hx,hy]at h;rcases h with h|h<;>cases h
theorem Zbf{s:ByteArray}{a b c:ByteArray}{x y:Int}(hL:[a,b,c].map (fun x=>x.data.toList)=Yq (Cc 44) [] s.data.toList)(hx:Ck a=none∨Ck a=some x)(hy:Ck b=none∨Ck b=some y)(h:∀ j:Nat,j<4->¬ KR s ⟨j,x,y⟩):J7 s=none:=by
 refine wD fun p hp=>?_
 obtain⟨a',b',c',e,gx,gy,_⟩:=aF hp hL;simp only[List.cons.injEq,and_true]at e;obtain⟨rfl,rfl,rfl⟩:=e;rw[gx]at hx;rw[gy]at hy;obtain⟨⟨t0,t1⟩,_,_⟩:=SG hp.1;obtain⟨t,px,py⟩:=p;simp only[reduceCtorEq,Zi,false_or]at hx hy t0 t1;subst hx hy;obtain⟨u,rfl⟩:=Zl t0;exact h u o_ hp
theorem Zs7{α:Type}{L:List α}(h:L.length=3):∃ a b c,L=[a,b,c]:=by
 rcases L with _ |⟨a,_ |⟨b,_ |⟨c,_ |⟨d,L⟩⟩⟩⟩
 all_goals first|exact⟨_,_,_,rfl⟩|(simp at h)
theorem Zkc{s:ByteArray}{t x y:Int}(hv:Yi t x y=true):((Yn t x y).toList == s.toList)=true↔KR s ⟨t,x,y⟩:=by
 rw[Zh1];constructor
 .intro h;exact⟨hv,kL (eq_of_beq h)⟩
 .intro h;rw[h.2];simp
theorem Z1s(s:ByteArray)(w:World)(hs:s.size<=4194304)(hT:EX w):Calls prog 111 #[.string s] w fun e w'=>e=.returned (kV (J7 s))/\Below w.heap.size w w':=by
 have HT:=Z5 hT;clear hT;go_enter func111,ntmps111;go_wp2_with fail;refine Zb (JP s 44 _ hs) ?_;rintro e w1 ⟨v,L,rfl,ho,hL,hb1⟩;have bx1:=(Bx.new w [.int .i64 0,.int .i64 0,.int .i64 0] 33 _ rfl).below hb1;have B1:Below w.heap.size w w1:=Zg (Ze (Below.refl _ _) _) hb1;have HL:=Z5 hL;have hlen:L.length=v.n:=by have:=ho.lens;simpa [Hid]using this
 have hrow:D7 w1 v.A v.n L:=ho.row;have hws:=wH hL;clear hb1 ho hL;obtain⟨A,n,c⟩:=v;simp only at hlen hrow;by_cases h3:n=3
 .subst h3;obtain⟨a,b,d,rfl⟩:=Zs7 hlen;have ha:=hws a s_;have hb:=hws b s_;obtain⟨f0,g,off,hf0,hA,c0⟩:=D7.at_ hrow (k:=0) o_;obtain⟨f1,g1,Z6n,hf1,hA1,c1⟩:=D7.at_ hrow (k:=1) o_;subst hA;simp only[Zi,Addr.mk.injEq,and_true]at hA1;obtain⟨rfl,rfl⟩:=hA1;obtain rfl:a=f0:=by have:=hf0.out;simpa using this
  obtain rfl:b=f1:=by have:=hf1.out;simpa using this
  simp only[Nat.add_zero]at c0;have HT1:=Z5 (HT.out.below B1);clear hrow hf0 hf1 HT hws;cases hx:Ck a with
  |none =>
   have HN:=Z5 (Z88 HL.out (.inl hx));cases hy:Ck b with
   |none =>
    go_wp2_with fail;refine Zb (Yj a _ o_ HT1.out) ?_;rintro e w2 ⟨rfl,hb2⟩;rw[hx,kU];have c1':=Zm hb2 c1;have Cw:=bx1.below hb2;have B2:=Zg B1 hb2;have HT2:=Z5 (HT1.out.below hb2);clear hb2 c1 c0 hx;go_wp2_with fail;refine Zb (Yj b _ o_ HT2.out) ?_;rintro e w3 ⟨rfl,hb3⟩;rw[hy,kU];have C4:=Cw.below hb3;have B3:=Zg B2 hb3;have HT3:=Z5 (HT2.out.below hb3);clear hb3 c1' hy bx1 Cw B1 B2;have r0:=C4.cells 0 _ rfl;have r1:=C4.cells 1 _ rfl;have r2:=C4.cells 2 _ rfl;have rf:=C4.Bf;have rz:=C4.lt;go_wp2_with fail;refine bodyPost_ret (v:=.tuple #[Qv 0 0 0,.bool false]) (by simp[*,results,results111,go_sem]) rfl ⟨by rw[HN.out];rfl,?_⟩;exact b3 B3 (Zd _) _ _ _
   |some y =>
    go_wp2_with fail;refine Zb (Yj a _ o_ HT1.out) ?_;rintro e w2 ⟨rfl,hb2⟩;rw[hx,kU];have c1':=Zm hb2 c1;have Cw:=bx1.below hb2;have B2:=Zg B1 hb2;have HT2:=Z5 (HT1.out.below hb2);clear hb2 c1 c0 hx;go_wp2_with fail;refine Zb (Yj b _ o_ HT2.out) ?_;rintro e w3 ⟨rfl,hb3⟩;rw[hy,kR];have C4:=Cw.below hb3;have B3:=Zg B2 hb3;have HT3:=Z5 (HT2.out.below hb3);clear hb3 c1' hy bx1 Cw B1 B2;have r0:=C4.cells 0 _ rfl;have r1:=C4.cells 1 _ rfl;have r2:=C4.cells 2 _ rfl;have rf:=C4.Bf;have rz:=C4.lt;go_wp2_with fail;refine bodyPost_ret (v:=.tuple #[Qv 0 0 0,.bool false]) (by simp[*,results,results111,go_sem]) rfl ⟨by rw[HN.out];rfl,?_⟩;exact b3 B3 (Zd _) _ _ _
  |some x =>
   cases hy:Ck b with
   |none =>
    have HN:=Z5 (Z88 HL.out (.inr hy));go_wp2_with fail;refine Zb (Yj a _ o_ HT1.out) ?_;rintro e w2 ⟨rfl,hb2⟩;rw[hx,kR];have c1':=Zm hb2 c1;have Cw:=bx1.below hb2;have B2:=Zg B1 hb2;have HT2:=Z5 (HT1.out.below hb2);clear hb2 c1 c0 hx;go_wp2_with fail;refine Zb (Yj b _ o_ HT2.out) ?_;rintro e w3 ⟨rfl,hb3⟩;rw[hy,kU];have C4:=Cw.below hb3;have B3:=Zg B2 hb3;have HT3:=Z5 (HT2.out.below hb3);clear hb3 c1' hy bx1 Cw B1 B2;have r0:=C4.cells 0 _ rfl;have r1:=C4.cells 1 _ rfl;have r2:=C4.cells 2 _ rfl;have rf:=C4.Bf;have rz:=C4.lt;go_wp2_with fail;refine bodyPost_ret (v:=.tuple #[Qv 0 0 0,.bool false]) (by simp[*,results,results111,go_sem]) rfl ⟨by rw[HN.out];rfl,?_⟩;exact b3 B3 (Zd _) _ _ _
   |some y =>
    have IA:=Z5 (Zbf (x:=x) (y:=y) HL.out (.inr hx) (.inr hy));go_wp2_with fail;refine Zb (Yj a _ o_ HT1.out) ?_;rintro e w2 ⟨rfl,hb2⟩;rw[hx,kR];have c1':=Zm hb2 c1;have Cw:=bx1.below hb2;have B2:=Zg B1 hb2;have HT2:=Z5 (HT1.out.below hb2);clear hb2 c1 c0 hx;go_wp2_with fail;refine Zb (Yj b _ o_ HT2.out) ?_;rintro e w3 ⟨rfl,hb3⟩;rw[hy,kR];have C4:=Cw.below hb3;have B3:=Zg B2 hb3;have HT3:=Z5 (HT2.out.below hb3);clear hb3 c1' hy bx1 Cw B1 B2;go_wp2_with fail;go_loopw [9,10] (fun tn _ wr=>∃ k:Nat,k<=4/\tn=.int .i64 (k:Int)/\(∀ j:Nat,j<k->¬ KR s ⟨j,x,y⟩)/\Below w3.heap.size w3 wr) (fun tn _ _=>4-(intOf tn).toNat)
    case atStart=>exact⟨0,o_,rfl,fun j hj=>by omega,Below.refl _ _⟩
    case round =>
     obtain⟨k,hk,rfl,hno,hbr⟩:=hrel;have Fu:=Z5 hno;clear hno;by_cases hlt:k<4
     .cases hv:Yi (k:Int) x y with
      |false =>
       have IC:=Z5 (show ∀ j:Nat,j<k+1->¬ KR s ⟨j,x,y⟩from fun j hj hp=>by
        by_cases e:j=k
        .subst e;rw[hp.1]at hv;cases hv
        .exact Fu.out j o_ hp)
       have HV:=Z5 hv;clear hv;go_wp2_with (go_at_call 98;refine(Ym _ _ _ _).mono ?_;rw[HV.out];rintro e w4 ⟨rfl,hb4⟩;have EY:=Zg (Ze hbr _) hb4);exact⟨⟨k+1,o_,s_,IC.out,EY⟩,by simp only[intOf];omega⟩
      |true =>
       have HV:=Z5 hv;cases he:((Yn (k:Int) x y).toList == s.toList)with
       |true =>
        have HP:=Z5 (wC ((Zkc hv).1 he));clear hv;go_wp2_with (first |(go_at_call 98;refine(Ym _ _ _ _).mono ?_;rw[HV.out];rintro e w4 ⟨rfl,hb4⟩;have EY:=Zg (Ze hbr _) hb4;have px:=(Bx.new wr [.int .i64 (k:Int),.int .i64 x,.int .i64 y] _ _ rfl).below hb4;have q0:=px.cells 0 _ rfl;have q1:=px.cells 1 _ rfl;have q2:=px.cells 2 _ rfl)|(go_at_call 73;refine(Qa _ _ _ _ (HT3.out.tab.below EY)).mono ?_;rintro e w5 ⟨rfl,hb5⟩;have Dl:=Zg EY hb5;have wI:=px.below hb5;have s0:=wI.cells 0 _ rfl;have s1:=wI.cells 1 _ rfl;have s2:=wI.cells 2 _ rfl;have NT:=C4.below Dl;have r0:=NT.cells 0 _ rfl;have r1:=NT.cells 1 _ rfl;have r2:=NT.cells 2 _ rfl;have rf:=NT.Bf;have rz:=NT.lt));refine bodyPost_ret (v:=.tuple #[Qv (k:Int) x y,.bool true]) (by simp[*,results,results111,go_sem]) rfl ⟨by rw[HP.out];rfl,?_⟩;exact b3 (Zg B3 Dl) (Zd _) _ _ _
       |false =>
        have IC:=Z5 (show ∀ j:Nat,j<k+1->¬ KR s ⟨j,x,y⟩from fun j hj hp=>by
         by_cases e:j=k
         .subst e;rw[(Zkc hv).2 hp]at he;cases he
         .exact Fu.out j o_ hp)
        clear hv;go_wp2_with (first |(go_at_call 98;refine(Ym _ _ _ _).mono ?_;rw[HV.out];rintro e w4 ⟨rfl,hb4⟩;have EY:=Zg (Ze hbr _) hb4;have px:=(Bx.new wr [.int .i64 (k:Int),.int .i64 x,.int .i64 y] _ _ rfl).below hb4;have q0:=px.cells 0 _ rfl;have q1:=px.cells 1 _ rfl;have q2:=px.cells 2 _ rfl)|(go_at_call 73;refine(Qa _ _ _ _ (HT3.out.tab.below EY)).mono ?_;rintro e w5 ⟨rfl,hb5⟩;have Dl:=Zg EY hb5));exact⟨⟨k+1,o_,s_,IC.out,Dl⟩,by simp only[intOf];omega⟩
     .obtain rfl:k=4:=by omega
      have HN:=Z5 (IA.out Fu.out);have Ci:=C4.below hbr;have r0:=Ci.cells 0 _ rfl;have r1:=Ci.cells 1 _ rfl;have r2:=Ci.cells 2 _ rfl;have rf:=Ci.Bf;have rz:=Ci.lt;go_wp2_with fail;refine bodyPost_ret (v:=.tuple #[Qv 0 0 0,.bool false]) (by simp[*,results,results111,go_sem]) rfl ⟨by rw[HN.out];rfl,?_⟩;exact b3 (Zg B3 hbr) (Zd _) _ _ _
 .have HN:=Z5 (Zbe HL.out o_);have r0:=bx1.cells 0 _ rfl;have r1:=bx1.cells 1 _ rfl;have r2:=bx1.cells 2 _ rfl;have rf:=bx1.Bf;have rz:=bx1.lt;go_wp2_with fail;refine bodyPost_ret (v:=.tuple #[Qv 0 0 0,.bool false]) (by simp[*,results,results111,go_sem]) rfl ⟨by rw[HN.out];rfl,?_⟩;exact b3 B1 (Zd _) _ _ _
theorem Jq{s:ByteArray}{b:Int}(h:Xe s b=true):s.size<=8:=by
 unfold Xe FH at h;simp only[Bool.and_eq_true,decide_eq_true_eq]at h;omega
theorem wJ{s:ByteArray}{b:Int}(h:Xe s b=true):s.toList.isEmpty=false:=by
 unfold Xe FH at h;simp only[Bool.and_eq_true,decide_eq_true_eq]at h;rw[ByteArray.toList_eq];have h1:1<=s.data.size:=h.1.1.1;cases hd:s.data.toList with
 |nil=>rw[<- Array.length_toList,hd]at h1;simp at h1
 |cons a l=>rfl
theorem kZ{t x y:Int}(h:Yi t x y=true):(Yn t x y).data.toList=Jp t x y:=by simp[Yn,h]
theorem lC{t x y:Int}(h:Yi t x y=true):(Yn t x y).size<=45:=by
 simp only[Yn,h,if_true];rw[Sb];exact Zft h
def aI(o:Option A7):Value:=match o with|some f=>.tuple #[Yx f.id f.kind f.AL f.Z00 f.Af.turn f.Af.x f.Af.y f.Ao,.bool true]| none=>.tuple #[Yx 0 0 ⟨#[]⟩ ⟨#[]⟩ 0 0 0 0,.bool false]
theorem Zdc{s:ByteArray}(hL:L.map (fun x=>x.data.toList)=Yq (Cc 32) [] s.data.toList)(h:L.length≠5)(h6:L.length≠6):Jf s=none:=by
 refine wE fun f hf=>?_
 rcases(aG hf hL).1 with⟨h1,_⟩|⟨h1,_⟩<;> omega
theorem Zal{s:ByteArray}(hL:L.map (fun x=>x.data.toList)=Yq (Cc 32) [] s.data.toList)(h1:L[1]? = some w1)(h4:L[L.length-2]? = some w4)(h5:L[L.length-1]? = some w5)(h:¬((Ck w1).isSome=true/\(J7 w4).isSome=true/\(Ck w5).isSome=true)):Jf s=none:=by
 refine wE fun f hf=>h ?_
 obtain⟨_,_,⟨v1,e1,g1⟩,_,⟨v4,e4,g4⟩,v5,e5,g5⟩:=aG hf hL;rw[h1]at e1;rw[h4]at e4;rw[h5]at e5;simp only[Zi]at e1 e4 e5;subst e1 e4 e5;rw[g1,g4,g5];exact⟨rfl,rfl,rfl⟩
theorem Z6f{s:ByteArray}{w3 fr:ByteArray}(hL:L.map (fun x=>x.data.toList)=Yq (Cc 32) [] s.data.toList)(h1:L[1]? = some w1)(h3:L[L.length-3]? = some w3)(h4:L[L.length-2]? = some w4)(h5:L[L.length-1]? = some w5) 
  (hfr:(L.length=6->L[2]? = some fr)/\(L.length≠6->fr=⟨#[]⟩)) (h:∀ j:Nat,1<=j->j<5->¬ Ie s ⟨(Ck w1).getD 0,j,fr,w3,(J7 w4).getD ⟨0,0,0⟩,(Ck w5).getD 0⟩):Jf s=none:=by
 refine wE fun f hf=>?_
 obtain⟨g0,_,⟨v1,e1,g1⟩,e3,⟨v4,e4,g4⟩,v5,e5,g5⟩:=aG hf hL;rw[h1]at e1;rw[h3]at e3;rw[h4]at e4;rw[h5]at e5;simp only[Zi]at e1 e3 e4 e5;subst e1 e4 e5;rw[g1,g4,g5]at h;have hk:=(Q1 hf.1).2.2.2.1
 have aJ:fr=f.AL:=by
  rcases g0 with⟨n1,_,r1⟩|⟨n1,_,r1⟩
  .rw[r1];exact hfr.2 o_
  .have:=hfr.1 n1;rw[r1]at this;simpa using this.symm
 obtain⟨fi,fk,ff,ft,fp,fw⟩:=f;simp only at hk aJ e3;subst aJ e3;simp only[Option.getD_some]at h;obtain⟨u,rfl⟩:=Zl (show 0<=fk by omega);exact h u o_ o_ hf
theorem lD{s:ByteArray}{f:A7}(hv:Zy f=true):((YM f).toList == s.toList)=true↔Ie s f:=by
 rw[Zdd];constructor
 .intro h;exact⟨hv,kL (eq_of_beq h)⟩
 .intro h;rw[h.2];simp
theorem Zc4(o:Option AX):kV o=.tuple #[Qv (o.getD ⟨0,0,0⟩).turn (o.getD ⟨0,0,0⟩).x (o.getD ⟨0,0,0⟩).y,.bool o.isSome]:=by cases o<;>rfl
theorem b8{a w:World}(h:Below a.heap.size a w){b:Nat}(hb:a.heap.size<=b)(u0 u1 u2 u3 u4 u5 u6 u7:Value):Below a.heap.size a ((((((((w.setCell ⟨b,0,none⟩ u0).setCell ⟨b,1,none⟩ u1).setCell ⟨b,2,none⟩ u2).setCell ⟨b,3,none⟩ u3).setCell ⟨b,4,none⟩ u4).setCell ⟨b,5,none⟩ u5).setCell ⟨b,6,none⟩ u6).setCell ⟨b,7,none⟩ u7):=Dp (Dp (Dp (Dp (Dp (Dp (Dp (Dp h hb u0) hb u1) hb u2) hb u3) hb u4) hb u5) hb u6) hb u7
theorem Bk.Aj{w:World}{b:Nat}{t:TypeId}{cs:List Value}(h:Bk w b t cs)(o:Obj):Bk (w.alloc o) b t cs:=h.below (Ze (Below.refl _ _) o)
theorem XJ{w:World}{g off n:Nat}(h:D7 w (some ⟨g,off,none⟩) n L){k:Nat}{f:ByteArray}(hk:L[k]? = some f):w.cell? ⟨g,off+k,none⟩=some (.string f):=by
 have hl:L.length=n:=h.len.out;have hkn:=(List.getElem?_eq_some_iff.1 hk).1;obtain⟨f',g',off',hf,hA,hc⟩:=D7.at_ h (k:=k) o_;simp only[Zi,Addr.mk.injEq,and_true]at hA;obtain⟨rfl,rfl⟩:=hA;rw[hk]at hf;have:=hf.out;simp only[Zi]at this;rw[this];exact hc
theorem D7.some_{w:World}{A:Option Addr}{n:Nat}(h:D7 w A n L)(hn:0<n):∃ g off,A=some ⟨g,off,none⟩:=by
 obtain⟨f',g',off',hf,hA,hc⟩:=D7.at_ h (k:=0) hn;exact⟨g',off',hA⟩
theorem UR{α:Type}{L:List α}{k:Nat}(h:k<L.length):∃ x,L[k]? = some x:=⟨L[k],by simp[h]⟩
end Go.Proofs.YtcnbphnnfmphlaaGreatDoor
