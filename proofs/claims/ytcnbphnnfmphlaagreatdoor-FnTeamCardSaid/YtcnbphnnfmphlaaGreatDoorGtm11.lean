/- Texts of this proof. -/
import Derived.Test.YtcnbphnnfmphlaaGreatDoorGtm10
namespace Go.Proofs.YtcnbphnnfmphlaaGreatDoor
open Bool renaming and_eq_true → Zc
open Go.Calls renaming mono → Zb,regrown_of → Zx
open Go.Lib renaming hid → Z5
open List renaming mem_of_getElem? → Z6,length_map → Zo,length_take → ZC,eq_nil_of_length_eq_zero → ZN
open Option.some renaming injEq → Zi
open Go.Proofs.Tryz
open Go.RowKit
set_option linter.unusedVariables false
set_option linter.unusedSimpArgs false
set_option maxHeartbeats 4000000
set_option maxRecDepth 100000
variable{f:A7}{l:List A7}{B:Nat}
def CR(l:List A7)(k:Nat):Prop:=JW l none=JW (l.drop k) (NA l k)
theorem CR.step{k:Nat}(h:CR l k)(hf:Hid (l[k]? = some f)):
  JW l none=(Zy f && ((match NA l k with|none=>true|some p=>decide (p<f.id)) && JW (l.drop (k+1)) (NA l (k+1)))):=by
 unfold CR at h;rw[h,QP hf,iM hf]
 rfl
theorem CR.done{k n:Nat}(h:CR l k)(hl:Hid (l.length=n))(hk:¬ k<n):Hid (JW l none=true):=by
 unfold CR at h;rw[Hid,h,QK hl hk];rfl
theorem CR.no{X Z b:Bool}(h:Hid (JW l none=(X && (Z && b))))(hx:X=false∨Z=false):Hid (YW l=false):=by
 rw[Hid,YW,h.out];rcases hx with rfl|rfl<;>simp
set_option maxHeartbeats 8000000 in
theorem Yb(A:Option Addr)(n c:Nat)(l:List A7)(w:World)(hn:n<=4194304)(hr:Cy w A n l)(hs:∀ f∈l,f.AL.size<=4194304/\f.Z00.size<=4194304):
  Calls prog 44 #[.slice A n c] w fun e w'=>e=QM (YW l)/\Below w.heap.size w w':=by
 have hl:=hr.len;by_cases h40:40<n
 .have hfin:Hid (YW l=false):=by
   have:¬ l.length<=40:=by rw[hl.out];omega
   simp[Hid,YW,this]
  go_enter func44,ntmps44;go_wp2;go_ret;exact⟨by rw[hfin.out];rfl,Below.refl _ _⟩
 have sU:n<=40:=by omega
 go_enter func44,ntmps44;go_wp2_with fail;go_loopw [10,3] (fun i j wr=>∃ (k:Nat),k<=n/\i=.int .i64 k/\CR l k/\Below w.heap.size w wr) (fun i _ _=>n-(intOf i).toNat)
 case atStart=>exact⟨0,o_,rfl,rfl,Below.refl _ _⟩
 case round =>
  obtain⟨k,hk,rfl,hi,hb⟩:=hrel;by_cases hlt:k<n
  .obtain⟨f,g,off,hf,rfl,g0,g1,g2,g3,g4,g5,g6,g7⟩:=Cy.at_ (hr.below hb) hlt;have hst:=hi.step hf;have hsz:=hs f (Z6 hf.out);generalize hv:Zy f=bv at hst;have HV:=Z5 hv;have HS:=Z5 hst;clear hv hst hi;cases bv
   .have hfin:=CR.no HS (.inl rfl);go_wp2_with fail;refine ZQ fun W hW=>?_
    have hwb:Below wr.heap.size wr W:=by rw[hW.out];exact Ze (Below.refl _ _) _
    have c0:=cell_regrown (show W.cell? ⟨wr.heap.size,0,none⟩=some (.int .i64 f.id)by rw[hW.out];simp);have c1:=cell_regrown (show W.cell? ⟨wr.heap.size,1,none⟩=some (.int .i64 f.kind)by rw[hW.out];simp);have c2:=cell_regrown (show W.cell? ⟨wr.heap.size,2,none⟩=some (.string f.AL)by rw[hW.out];simp);have c3:=cell_regrown (show W.cell? ⟨wr.heap.size,3,none⟩=some (.string f.Z00)by rw[hW.out];simp);have c4:=cell_regrown (show W.cell? ⟨wr.heap.size,4,none⟩=some (.int .i64 f.Af.turn)by rw[hW.out];simp);have c5:=cell_regrown (show W.cell? ⟨wr.heap.size,5,none⟩=some (.int .i64 f.Af.x)by rw[hW.out];simp);have c6:=cell_regrown (show W.cell? ⟨wr.heap.size,6,none⟩=some (.int .i64 f.Af.y)by rw[hW.out];simp);have c7:=cell_regrown (show W.cell? ⟨wr.heap.size,7,none⟩=some (.int .i64 f.Ao)by rw[hW.out];simp);have cV:∀ d os,Calls prog 66 #[Yx f.id f.kind f.AL f.Z00 f.Af.turn f.Af.x f.Af.y f.Ao] (Go.Sort.grow (redrawn W d) os) fun e w2=>e=.returned (.bool false)/\∃ p:Regrown,w2=Go.Sort.grow (redrawn W p.d) p.os:=fun d os=>Zx ((ZE f.id f.kind f.AL f.Z00 f.Af.turn f.Af.x f.Af.y f.Ao _ hsz.1 hsz.2).mono (fun _ _ h=>⟨h.1.trans (congrArg QM HV.out),h.2⟩))
    clear hW;refine wp_region_quiet_below BC BC ?_;repeat(go_big_quiet_step (first|exact cV _ _))
    refine wpQuiet_nil ?_;intro _ hw;obtain⟨⟨dq,osq⟩,hw⟩:=hw;subst hw;have hbq:=Zg hwb (below_regrown W dq osq);clear c0 c1 c2 c3 c4 c5 c6 c7 cV;go_wp2;go_ret;exact⟨by rw[hfin.out];rfl,Zg hb hbq⟩
   .by_cases hk0:k=0
    .have hkz:¬ 0<k:=by omega
     have hnx:CR l (k+1):=by
      have:=HS.out;subst hk0;simpa [CR,NA]using this
     clear hk0;go_wp2_with fail;refine ZQ fun W hW=>?_
     have hwb:Below wr.heap.size wr W:=by rw[hW.out];exact Ze (Below.refl _ _) _
     have c0:=cell_regrown (show W.cell? ⟨wr.heap.size,0,none⟩=some (.int .i64 f.id)by rw[hW.out];simp);have c1:=cell_regrown (show W.cell? ⟨wr.heap.size,1,none⟩=some (.int .i64 f.kind)by rw[hW.out];simp);have c2:=cell_regrown (show W.cell? ⟨wr.heap.size,2,none⟩=some (.string f.AL)by rw[hW.out];simp);have c3:=cell_regrown (show W.cell? ⟨wr.heap.size,3,none⟩=some (.string f.Z00)by rw[hW.out];simp);have c4:=cell_regrown (show W.cell? ⟨wr.heap.size,4,none⟩=some (.int .i64 f.Af.turn)by rw[hW.out];simp);have c5:=cell_regrown (show W.cell? ⟨wr.heap.size,5,none⟩=some (.int .i64 f.Af.x)by rw[hW.out];simp);have c6:=cell_regrown (show W.cell? ⟨wr.heap.size,6,none⟩=some (.int .i64 f.Af.y)by rw[hW.out];simp);have c7:=cell_regrown (show W.cell? ⟨wr.heap.size,7,none⟩=some (.int .i64 f.Ao)by rw[hW.out];simp);have cV:∀ d os,Calls prog 66 #[Yx f.id f.kind f.AL f.Z00 f.Af.turn f.Af.x f.Af.y f.Ao] (Go.Sort.grow (redrawn W d) os) fun e w2=>e=.returned (.bool true)/\∃ p:Regrown,w2=Go.Sort.grow (redrawn W p.d) p.os:=fun d os=>Zx ((ZE f.id f.kind f.AL f.Z00 f.Af.turn f.Af.x f.Af.y f.Ao _ hsz.1 hsz.2).mono (fun _ _ h=>⟨h.1.trans (congrArg QM HV.out),h.2⟩))
     clear hW;refine wp_region_quiet_below BC BC ?_;repeat(go_big_quiet_step (first|exact cV _ _))
     refine wpQuiet_nil ?_;intro _ hw;obtain⟨⟨dq,osq⟩,hw⟩:=hw;subst hw;have hbq:=Zg hwb (below_regrown W dq osq);clear c0 c1 c2 c3 c4 c5 c6 c7 cV;go_wp2;exact⟨⟨k+1,o_,s_,hnx,Zg hb hbq⟩,by simp only[intOf];omega⟩
    .obtain⟨m,rfl⟩:∃ m,k=m+1:=⟨k-1,o_⟩;obtain⟨p,g',off',hp,hA,p0,-⟩:=Cy.at_ (hr.below hb) (show m<n by omega);obtain⟨rfl,rfl⟩:g=g'/\off=off':=by simpa using hA
     clear hA hk0;have hpe:=Z5 (iM hp);by_cases Ey:p.id<f.id
     .have qG:¬ f.id<=p.id:=by omega
      have hnx:CR l (m+1+1):=by
       have:=HS.out;rw[hpe.out]at this;simpa [CR,Ey]using this
      clear Ey;go_wp2_with fail;refine ZQ fun W hW=>?_
      have hwb:Below wr.heap.size wr W:=by rw[hW.out];exact Ze (Below.refl _ _) _
      have c0:=cell_regrown (show W.cell? ⟨wr.heap.size,0,none⟩=some (.int .i64 f.id)by rw[hW.out];simp);have c1:=cell_regrown (show W.cell? ⟨wr.heap.size,1,none⟩=some (.int .i64 f.kind)by rw[hW.out];simp);have c2:=cell_regrown (show W.cell? ⟨wr.heap.size,2,none⟩=some (.string f.AL)by rw[hW.out];simp);have c3:=cell_regrown (show W.cell? ⟨wr.heap.size,3,none⟩=some (.string f.Z00)by rw[hW.out];simp);have c4:=cell_regrown (show W.cell? ⟨wr.heap.size,4,none⟩=some (.int .i64 f.Af.turn)by rw[hW.out];simp);have c5:=cell_regrown (show W.cell? ⟨wr.heap.size,5,none⟩=some (.int .i64 f.Af.x)by rw[hW.out];simp);have c6:=cell_regrown (show W.cell? ⟨wr.heap.size,6,none⟩=some (.int .i64 f.Af.y)by rw[hW.out];simp);have c7:=cell_regrown (show W.cell? ⟨wr.heap.size,7,none⟩=some (.int .i64 f.Ao)by rw[hW.out];simp);have cV:∀ d os,Calls prog 66 #[Yx f.id f.kind f.AL f.Z00 f.Af.turn f.Af.x f.Af.y f.Ao] (Go.Sort.grow (redrawn W d) os) fun e w2=>e=.returned (.bool true)/\∃ p:Regrown,w2=Go.Sort.grow (redrawn W p.d) p.os:=fun d os=>Zx ((ZE f.id f.kind f.AL f.Z00 f.Af.turn f.Af.x f.Af.y f.Ao _ hsz.1 hsz.2).mono (fun _ _ h=>⟨h.1.trans (congrArg QM HV.out),h.2⟩))
      have e0:=cell_regrown (Zm hwb p0);clear hW;refine wp_region_quiet_below BC BC ?_;repeat(go_big_quiet_step (first|exact cV _ _))
      refine wpQuiet_nil ?_;intro _ hw;obtain⟨⟨dq,osq⟩,hw⟩:=hw;subst hw;have hbq:=Zg hwb (below_regrown W dq osq);clear c0 c1 c2 c3 c4 c5 c6 c7 cV e0;go_wp2;exact⟨⟨m+1+1,o_,s_,hnx,Zg hb hbq⟩,by simp only[intOf];omega⟩
     .have qG:f.id<=p.id:=by omega
      have hfin:=CR.no HS (.inr (by rw[hpe.out];simpa using Ey));clear Ey;go_wp2_with fail;refine ZQ fun W hW=>?_
      have hwb:Below wr.heap.size wr W:=by rw[hW.out];exact Ze (Below.refl _ _) _
      have c0:=cell_regrown (show W.cell? ⟨wr.heap.size,0,none⟩=some (.int .i64 f.id)by rw[hW.out];simp);have c1:=cell_regrown (show W.cell? ⟨wr.heap.size,1,none⟩=some (.int .i64 f.kind)by rw[hW.out];simp);have c2:=cell_regrown (show W.cell? ⟨wr.heap.size,2,none⟩=some (.string f.AL)by rw[hW.out];simp);have c3:=cell_regrown (show W.cell? ⟨wr.heap.size,3,none⟩=some (.string f.Z00)by rw[hW.out];simp);have c4:=cell_regrown (show W.cell? ⟨wr.heap.size,4,none⟩=some (.int .i64 f.Af.turn)by rw[hW.out];simp);have c5:=cell_regrown (show W.cell? ⟨wr.heap.size,5,none⟩=some (.int .i64 f.Af.x)by rw[hW.out];simp);have c6:=cell_regrown (show W.cell? ⟨wr.heap.size,6,none⟩=some (.int .i64 f.Af.y)by rw[hW.out];simp);have c7:=cell_regrown (show W.cell? ⟨wr.heap.size,7,none⟩=some (.int .i64 f.Ao)by rw[hW.out];simp);have cV:∀ d os,Calls prog 66 #[Yx f.id f.kind f.AL f.Z00 f.Af.turn f.Af.x f.Af.y f.Ao] (Go.Sort.grow (redrawn W d) os) fun e w2=>e=.returned (.bool true)/\∃ p:Regrown,w2=Go.Sort.grow (redrawn W p.d) p.os:=fun d os=>Zx ((ZE f.id f.kind f.AL f.Z00 f.Af.turn f.Af.x f.Af.y f.Ao _ hsz.1 hsz.2).mono (fun _ _ h=>⟨h.1.trans (congrArg QM HV.out),h.2⟩))
      have e0:=cell_regrown (Zm hwb p0);clear hW;refine wp_region_quiet_below BC BC ?_;repeat(go_big_quiet_step (first|exact cV _ _))
      refine wpQuiet_nil ?_;intro _ hw;obtain⟨⟨dq,osq⟩,hw⟩:=hw;subst hw;have hbq:=Zg hwb (below_regrown W dq osq);clear c0 c1 c2 c3 c4 c5 c6 c7 cV e0;go_wp2;go_ret;exact⟨by rw[hfin.out];rfl,Zg hb hbq⟩
  .have hd:=hi.done hl hlt;go_wp2_with fail;refine Zb (Z34 A n c l _ o_ (hr.below hb)) ?_;rintro e w2 ⟨v2,rfl,ho2,hb2,hn2⟩;have hL:=Z5 ho2.len;go_wp2_with fail;go_ret;refine⟨PE ?_,Zg hb hb2⟩;have h1:=hL.out;have h2:l.length<=40:=by rw[hl.out];exact sU
   simp only[Zo]at h1;simp[YW,hd.out,h1,h2];omega
def ZrU(w:World)(v:Sv)(l:List A7)(w':World):Prop:=BR w' v l/\Ag w.heap.size w' (Ea v)/\Below w.heap.size w w'
theorem ZqJ  :∀ cs∈(l:List A7).map A7.cells,cs.length=8:=fun cs h=>by obtain⟨f,_,rfl⟩:=List.mem_map.1 h;rfl
theorem ZnY  :∀ cs∈(l:List A7).map A7.cells,∀ u∈cs,u.oneCell'=true:=fun cs h=>by obtain⟨f,_,rfl⟩:=List.mem_map.1 h;exact QZ rfl
theorem Ag.grown{e sz n c:Nat}{w w':World}{A A':Option Addr}{css:List (List Value)}(h:Own w' B e sz A' n c css):Ag B w' (AQ A'):=YC h
theorem Yz(v:Sv)(l:List A7)(w:World)(hm:El l)(hr:EQ w v l):
  Calls prog 36 #[.slice v.A v.n v.c] w fun e w'=>∃ v':Sv,e=.returned (.slice v'.A v'.n v'.c)/\ZrU w v' l w':=by
 obtain⟨i0,hii,hq0,hq1,hq2⟩:=info_parts XT;have hl:=hr.len;have hm1:v.n<=4194304:=by have:=hl.out;unfold El at hm;omega
 go_enter func36,ntmps36;go_wp2_with (at_builtin;refine ZX rfl (.tmp 3) (.tmp 4) 23 rfl w.heap.size 35 8 80 i0 _ underlying23 hii hq0 hq1 hq2 rfl o_ (some ⟨w.heap.size,0,none⟩) 0 0 [] rfl (JV w _ 8 (Nat.le_refl _)) v.A v.n v.c (l.map A7.cells) rfl (Row.below hr (Ze (Below.refl _ _) _)) ZqJ ZnY (by simp only[maxLen];omega) o_ s_ ?_;intro A3 c3 w3 ho3 hg3 GY);have hB:=Qn (Ze (Below.refl w.heap.size w) _) hg3 (fun q hq=>by simp[ob]at hq;omega);go_ret;simp only[Nat.zero_add,List.nil_append]at ho3;exact⟨⟨A3,v.n,c3⟩,s_,ho3.zero,YC ho3,hB⟩
def KF(v:Sv):Prop:=(v.A=none/\v.n=0/\v.c=0)∨∃ g off,v.A=some ⟨g,off,none⟩/\v.n<=v.c/\v.c<=maxLen
theorem KF.nc{v:Sv}(h:KF v):v.n<=v.c/\v.c<=maxLen:=by
 rcases h with⟨_,h1,h2⟩|⟨_,_,_,h1,h2⟩
 .rw[h1,h2];exact⟨Nat.le_refl _,Nat.zero_le _⟩
 .exact⟨h1,h2⟩
theorem sV{w:World}{e sz:Nat}{v:Sv}{css:List (List Value)}(h:Own w B e sz v.A v.n v.c css):KF v:=by
 rcases h.cases with⟨h1,h2,h3,_⟩|⟨g,h1,_,_,h2,h3⟩
 .exact .inl ⟨h1,h2,h3⟩
 .exact .inr ⟨g,0,h1,h2,h3⟩
theorem sW(w:World)(A:Option Addr)(sz:Nat):Row w A 0 sz []:=⟨rfl,fun i cs h=>by simp at h⟩
theorem Row.GV{α:Type}{w:World}{g off n sz:Nat}{l:List α}{c:α->List Value}(h:Row w (some ⟨g,off,none⟩) n sz (l.map c)){k:Nat}(hk:k<=n):Row w (some ⟨g,off+k*sz,none⟩) (n-k) sz ((l.drop k).map c):=by
 have hl:l.length=n:=h.len;refine⟨by simp[hl],fun i cs hi=>⟨g,off+k*sz,rfl,fun j v hj=>?_⟩⟩;have h1:(l.map c)[k+i]? = some cs:=by rw[<- hi,List.map_drop,List.getElem?_drop]
 obtain⟨g',off',hA,hc⟩:=h.2 (k+i) cs h1;simp only[Zi,Addr.mk.injEq,and_true]at hA;obtain⟨rfl,rfl⟩:=hA;have:=hc j v hj;rw[Nat.add_mul]at this;rw[<- this];congr 2;omega
def Co(l:List A7)(f:A7)(k:Nat):Prop:=JN l f=k+JN (l.drop k) f
theorem ZdH(l:List A7)(f:A7):Co l f 0:=by simp[Co]
theorem Co.step{g:A7}{k:Nat}(h:Co l f k)(hg:Hid (l[k]? = some g))(hlt:g.id<f.id):Co l f (k+1):=by
 unfold Co at *
 rw[h,QP hg,JN,List.takeWhile_cons_of_pos (by simp[below,hlt])];simp only[List.length_cons,JN];omega
theorem Co.stop{g:A7}{k:Nat}(h:Co l f k)(hg:Hid (l[k]? = some g))(hlt:¬ g.id<f.id):Hid (JN l f=k):=by
 unfold Co at h;rw[Hid,h,QP hg,JN,List.takeWhile_cons_of_neg (by simp[below,hlt])]
 rfl
theorem Co.done{k n:Nat}(h:Co l f k)(hl:Hid (l.length=n))(hk:¬ k<n):Hid (JN l f=k):=by
 unfold Co at h;rw[Hid,h,QK hl hk];rfl
def Qq(l:List A7):Prop:=∀ f∈l,f.AL.size<=4194304/\f.Z00.size<=4194304
theorem WA(hs:Qq l)(hf:f.AL.size<=4194304/\f.Z00.size<=4194304):Qq (J0 l f):=by
 intro g hg;unfold J0 at hg;rcases List.mem_append.1 hg with h|h
 .exact hs g (List.mem_of_mem_take h)
 .rcases List.mem_cons.1 h with rfl|h
  .exact hf
  .exact hs g (List.mem_of_mem_drop h)
theorem ZhC{id:Int}  :(0<=Xh l id 0)↔ XL l id=true:=by
 have:=Zaj l id 0 o_;cases h:XL l id
 .rw[h]at this;simp at this;simp;omega
 .rw[h]at this;simp at this;simp;omega
theorem Jj(v:Sv)(l:List A7)(f:A7)(w:World)(hm:El l)(hs:Qq l)(hfs:f.AL.size<=4194304/\f.Z00.size<=4194304)(hsl:KF v)(hr:EQ w v l):
  Calls prog 25 #[.slice v.A v.n v.c,Yx f.id f.kind f.AL f.Z00 f.Af.turn f.Af.x f.Af.y f.Ao] w fun e w'=>∃ v':Sv,e=.returned (.tuple #[.slice v'.A v'.n v'.c,.bool (Qt l f).2])/\ZrU w v' (Qt l f).1 w':=by
 obtain⟨A,n,c⟩:=v;have hnc:=hsl.nc;dsimp only[KF]at hnc hsl ⊢;obtain⟨Ow,Sk⟩:=hnc;have hl:=hr.len;have hm1:n<=4194304:=by have:=hl.out;unfold El at hm;simp only at this;omega
 generalize hb1:YW l=b1;have HB1:=Z5 hb1;clear hb1;cases b1
 .have E:=Z5 (ZpT (f:=f) HB1.out);go_enter func25,ntmps25;go_wp2_with fail;refine Zb (Yb A n c l _ hm1 (Row.below hr (Ze (Below.refl _ _) _)) hs) ?_;rintro e w1 ⟨rfl,hk1⟩;rw[HB1.out];have H:=Zg (Ze (Below.refl _ _) _) hk1;go_wp2_with fail;refine Zb (Yz ⟨A,n,c⟩ l _ hm (Row.below hr H)) ?_;rintro e w2 ⟨v2,rfl,ho2,hf2,hk2⟩;have hs1:=H.size;have H:=Zg H hk2;go_wp2_with fail;go_ret2;rw[E.out];exact⟨v2,rfl,ho2,hf2.Ay hs1,H⟩
 generalize hb2:XL l f.id=b2;have HB2:=Z5 hb2;clear hb2;have hfl:=Zda l f.id 0 o_;have Gf:=ZhC (l:=l) (id:=f.id);rw[HB2.out]at Gf;cases b2;rotate_left
 .have E:=Z5 (qK (f:=f) HB1.out HB2.out);have hge:0<=Xh l f.id 0:=Gf.2 rfl;have hdc:decide (0<=Xh l f.id 0)=true:=by simpa using hge
  clear Gf hfl;go_enter func25,ntmps25;go_wp2_with fail;refine Zb (Yb A n c l _ hm1 (Row.below hr (Ze (Below.refl _ _) _)) hs) ?_;rintro e w1 ⟨rfl,hk1⟩;rw[HB1.out];have H:=Zg (Ze (Below.refl _ _) _) hk1;have k1:=JT hk1 w.heap.size s_;have z1:=LC hk1;go_wp2_with fail;refine Zb (Z6e A n c l f.id _ hm1 (Row.below hr H)) ?_;rintro e w3 ⟨rfl,hk3⟩;have H:=Zg H hk3;go_wp2_with fail;refine Zb (Yz ⟨A,n,c⟩ l _ hm (Row.below hr H)) ?_;rintro e w2 ⟨v2,rfl,ho2,hf2,hk2⟩;have hs1:=H.size;have H:=Zg H hk2;go_wp2_with fail;go_ret2;rw[E.out];exact⟨v2,rfl,ho2,hf2.Ay hs1,H⟩
 have hge:¬ 0<=Xh l f.id 0:=fun h=>by have:=Gf.1 h;cases this
 have hdc:decide (0<=Xh l f.id 0)=false:=by simpa using hge
 clear Gf hfl;go_enter func25,ntmps25;go_wp2_with fail;refine Zb (Yb A n c l _ hm1 (Row.below hr (Ze (Below.refl _ _) _)) hs) ?_;rintro e w1 ⟨rfl,hk1⟩;rw[HB1.out];have H:=Zg (Ze (Below.refl _ _) _) hk1;have k1:=JT hk1 w.heap.size s_;have z1:=LC hk1;go_wp2_with fail;refine Zb (Z6e A n c l f.id _ hm1 (Row.below hr H)) ?_;rintro e w2 ⟨rfl,hk2⟩;have k2:=JT hk2 w.heap.size o_;have z2:w.heap.size+1<=w2.heap.size:=by have:=hk2.size;omega
 have H:=Zg H hk2;go_wp2_with fail
 -- behind this row by program
 obtain⟨i0,hii,hq0,hq1,hq2⟩:=info_parts XT;go_loopw [6] (fun i wr=>∃ (k:Nat),k<=n/\i=.int .i64 k/\Co l f k/\Below w2.heap.size w2 wr) (fun i _=>n-(intOf i).toNat)
 case atStart=>exact⟨0,o_,rfl,ZdH l f,Below.refl _ _⟩
 case round =>
  obtain⟨k,hk,rfl,hi,hbr⟩:=hrel;have kr:=JT hbr w.heap.size o_;have zr:w.heap.size+1<=wr.heap.size:=by have:=hbr.size;omega
  by_cases hlt:k<n
  .obtain⟨p,g,off,hf,rfl,g0,-⟩:=Cy.at_ (Row.below hr (Zg H hbr)) hlt;have h0:(0:Int)<=(k:Int):=by omega
   have h1:(k:Int)<(n:Int):=by omega
   by_cases hid:p.id<f.id
   .have hnx:=hi.step hf hid;clear hi;go_wp2_with fail;go_quiet (fail);go_wp2_with fail;go_roundw
    case rel=>exact⟨k+1,o_,by go_num,hnx,Qh hbr _⟩
    case measure=>simp[intOf];omega
   .have hat:=hi.stop hf hid;clear hi;go_wp2_with fail;go_quiet (fail);have hkc:(k:Int)<=(c:Int):=by omega
    have Sl:(0:Int)<=(k:Int):=by omega
    go_wp2_with fail;refine ZQ fun W hW=>?_
    have Cq:Below wr.heap.size wr W:=by rw[hW.out];exact JD
    have kW:=JT Cq w.heap.size o_;have zW:w.heap.size+1<=W.heap.size:=by have:=Cq.size;omega
    clear hW;have sZ:W.cell? ⟨w.heap.size,0,none⟩=some (.int .i64 f.id):=by rw[kW,kr,k2,k1];simp
    have tC:W.cell? ⟨w.heap.size,1,none⟩=some (.int .i64 f.kind):=by rw[kW,kr,k2,k1];simp
    have Gi:W.cell? ⟨w.heap.size,2,none⟩=some (.string f.AL):=by rw[kW,kr,k2,k1];simp
    have tF:W.cell? ⟨w.heap.size,3,none⟩=some (.string f.Z00):=by rw[kW,kr,k2,k1];simp
    have tH:W.cell? ⟨w.heap.size,4,none⟩=some (.int .i64 f.Af.turn):=by rw[kW,kr,k2,k1];simp
    have tJ:W.cell? ⟨w.heap.size,5,none⟩=some (.int .i64 f.Af.x):=by rw[kW,kr,k2,k1];simp
    have tK:W.cell? ⟨w.heap.size,6,none⟩=some (.int .i64 f.Af.y):=by rw[kW,kr,k2,k1];simp
    have tL:W.cell? ⟨w.heap.size,7,none⟩=some (.int .i64 f.Ao):=by rw[kW,kr,k2,k1];simp
    clear kW kr k2 k1;have HW:=Zg (Zg H hbr) Cq;have Sm:=Row.below hr HW;have Sn:EQ W ⟨some ⟨g,off,none⟩,k,c⟩ (l.take k):=iY Sm hk;have LQ:El (l.take k):=by unfold El at *;rw[ZC];omega
    go_region_held3 (fun w'=>w'.cell? ⟨w.heap.size,0,none⟩=some (.int .i64 f.id)/\w'.cell? ⟨w.heap.size,1,none⟩=some (.int .i64 f.kind)/\w'.cell? ⟨w.heap.size,2,none⟩=some (.string f.AL)/\w'.cell? ⟨w.heap.size,3,none⟩=some (.string f.Z00)/\w'.cell? ⟨w.heap.size,4,none⟩=some (.int .i64 f.Af.turn)/\w'.cell? ⟨w.heap.size,5,none⟩=some (.int .i64 f.Af.x)/\w'.cell? ⟨w.heap.size,6,none⟩=some (.int .i64 f.Af.y)/\w'.cell? ⟨w.heap.size,7,none⟩=some (.int .i64 f.Ao)) (first|go_keep |(go_split_ands;(repeat' apply And.intro)<;>(first|exact Zm hk3 (by assumption)| exact World.grownBy.cell hg4 (by assumption) (fun e=>by have h9:=hf3.lo _ (ZR.2 e.symm);(try simp at h9);omega)))) ((first |(go_at_call 36;refine Zb (Yz ⟨some ⟨g,off,none⟩,k,c⟩ (l.take k) _ LQ ?_) ?_;exact Row.below Sn JD;rintro e w3 ⟨v3,rfl,ho3,hf3,hk3⟩)|((refine YB rfl (.tmp 39) (.tmp 41) 23 rfl w.heap.size 35 8 80 i0 _ underlying23 hii hq0 hq1 hq2 rfl o_ v3.A v3.n v3.c _ rfl (Own.from_ (BR.own ho3) (fun g hg=>by have h9:=hf3.lo g hg;(try simp at h9);omega)) _ 1 1 [f.cells] rfl (Row.below (Row.below (Yh _ _ f.cells 8 _ s_) (ZY (Below.refl _ _))) hk3) (by simp[A7.cells]) (by simp[A7.cells,Value.oneCell']) (by have h9:=(BR.own ho3).len;simp at h9;simp only[maxLen];omega) (by have h9:=(BR.own ho3).len;simp at h9;omega) (by have h9:=hk3.size;(try simp at h9);(try simp);omega) ?_;intro A4 c4 w4 C9 hg4 E5))|((refine YB rfl (.tmp 39) (.tmp 41) 23 rfl w.heap.size 35 8 80 i0 _ underlying23 hii hq0 hq1 hq2 rfl o_ v3.A v3.n v3.c _ rfl ((Own.from_ (BR.own ho3) (fun g hg=>by have h9:=hf3.lo g hg;(try simp at h9);omega)).Aj _) _ 1 1 [f.cells] rfl (Yh _ _ f.cells 8 _ s_) (by simp[A7.cells]) (by simp[A7.cells,Value.oneCell']) (by have h9:=(BR.own ho3).len;simp at h9;simp only[maxLen];omega) (by have h9:=(BR.own ho3).len;simp at h9;omega) (by have h9:=hk3.size;(try simp at h9);(try simp);omega) ?_;intro A4 c4 w4 C9 hg4 E5))))
    all_goals
     have H3:=Zg (show Below w.heap.size w _ from by repeat(first|with_reducible exact HW|with_reducible refine Ze ?_ _|with_reducible refine ZY ?_|with_reducible refine Qh ?_ _)) hk3;have H4:=Qn (show Below w.heap.size w _ from by repeat(first|with_reducible exact H3|with_reducible refine Ze ?_ _|with_reducible refine ZY ?_|with_reducible refine Qh ?_ _)) hg4 (fun q hq=>by have h9:=hf3.lo q (ZR.2 hq);(try simp at h9);omega);have L3:=(BR.own ho3).len;simp only[Zo,ZC]at L3;have L9:l.length=n:=hl.out;go_wp2_with (at_builtin;(refine ZX rfl (.tmp 43) (.tmp 46) 23 rfl w.heap.size 35 8 80 i0 _ underlying23 hii hq0 hq1 hq2 rfl o_ A4 (v3.n+1) c4 _ rfl C9 (some ⟨g,off+k*8,none⟩) (n-k) (c-k) ((l.drop k).map A7.cells) rfl (Row.GV (Row.below hr H4) hk) ZqJ ZnY (by simp only[maxLen];omega) o_ H4.size ?_;intro A5 c5 w5 Cn hg5 Eo));have H5:=Qn H4 hg5 (fun q hq=>(C9.lt q hq).1);have e6:((l.take k).map A7.cells++[f.cells]++(l.drop k).map A7.cells)=(J0 l f).map A7.cells:=by rw[J0,hat.out];simp
     rw[e6]at Cn;have tN:=Qo HB1.out;have hsm:Qq (J0 l f):=WA hs hfs;generalize hb3:YW (J0 l f)=b3;have HB3:=Z5 hb3;clear hb3;go_wp2_with fail;refine Zb (Yb A5 _ c5 (J0 l f) _ ?_ Cn.row hsm) ?_
     .omega
     rintro e w6 ⟨rfl,Mv⟩;rw[HB3.out];have H6:=Zg H5 Mv;have Iq:=Cn.below Mv;cases b3
     .have E:=Z5 (Us HB3.out);go_wp2_with fail;refine Zb (Yz ⟨some ⟨g,off,none⟩,n,c⟩ l _ hm (Row.below hr H6)) ?_;rintro e w7 ⟨v7,rfl,KG,Sr,Ss⟩;have hs6:=H6.size;go_wp2_with fail;go_ret2;rw[E.out];exact⟨v7,rfl,KG,Sr.Ay hs6,Zg H6 Ss⟩
     .have E:=Z5 (Ur HB1.out HB3.out);go_wp2_with fail;go_ret2;rw[E.out];exact⟨⟨A5,_,c5⟩,rfl,Iq.zero,YC Iq,H6⟩
  .have hat:=hi.done hl hlt;clear hi;have h1:¬(k:Int)<(n:Int):=by omega
   obtain rfl:k=n:=by omega
   rcases hsl with⟨rfl,h00,hc0⟩|⟨g,off,rfl,Ow,Sk⟩
   .subst h00;subst hc0;go_wp2_with fail;go_quiet (fail);have hkc:((0:Nat):Int)<=((0:Nat):Int):=by omega
    have Sl:(0:Int)<=((0:Nat):Int):=by omega
    go_wp2_with fail;refine ZQ fun W hW=>?_
    have Cq:Below wr.heap.size wr W:=by rw[hW.out];exact JD
    have kW:=JT Cq w.heap.size o_;have zW:w.heap.size+1<=W.heap.size:=by have:=Cq.size;omega
    clear hW;have sZ:W.cell? ⟨w.heap.size,0,none⟩=some (.int .i64 f.id):=by rw[kW,kr,k2,k1];simp
    have tC:W.cell? ⟨w.heap.size,1,none⟩=some (.int .i64 f.kind):=by rw[kW,kr,k2,k1];simp
    have Gi:W.cell? ⟨w.heap.size,2,none⟩=some (.string f.AL):=by rw[kW,kr,k2,k1];simp
    have tF:W.cell? ⟨w.heap.size,3,none⟩=some (.string f.Z00):=by rw[kW,kr,k2,k1];simp
    have tH:W.cell? ⟨w.heap.size,4,none⟩=some (.int .i64 f.Af.turn):=by rw[kW,kr,k2,k1];simp
    have tJ:W.cell? ⟨w.heap.size,5,none⟩=some (.int .i64 f.Af.x):=by rw[kW,kr,k2,k1];simp
    have tK:W.cell? ⟨w.heap.size,6,none⟩=some (.int .i64 f.Af.y):=by rw[kW,kr,k2,k1];simp
    have tL:W.cell? ⟨w.heap.size,7,none⟩=some (.int .i64 f.Ao):=by rw[kW,kr,k2,k1];simp
    clear kW kr k2 k1;have HW:=Zg (Zg H hbr) Cq;have Sm:=Row.below hr HW;have Sn:EQ W ⟨none,0,0⟩ (l.take 0):=iY Sm hk;have LQ:El (l.take 0):=by unfold El at *;rw[ZC];omega
    go_region_held3 (fun w'=>w'.cell? ⟨w.heap.size,0,none⟩=some (.int .i64 f.id)/\w'.cell? ⟨w.heap.size,1,none⟩=some (.int .i64 f.kind)/\w'.cell? ⟨w.heap.size,2,none⟩=some (.string f.AL)/\w'.cell? ⟨w.heap.size,3,none⟩=some (.string f.Z00)/\w'.cell? ⟨w.heap.size,4,none⟩=some (.int .i64 f.Af.turn)/\w'.cell? ⟨w.heap.size,5,none⟩=some (.int .i64 f.Af.x)/\w'.cell? ⟨w.heap.size,6,none⟩=some (.int .i64 f.Af.y)/\w'.cell? ⟨w.heap.size,7,none⟩=some (.int .i64 f.Ao)) (first|go_keep |(go_split_ands;(repeat' apply And.intro)<;>(first|exact Zm hk3 (by assumption)| exact World.grownBy.cell hg4 (by assumption) (fun e=>by have h9:=hf3.lo _ (ZR.2 e.symm);(try simp at h9);omega)))) ((first |(go_at_call 36;refine Zb (Yz ⟨none,0,0⟩ (l.take 0) _ LQ ?_) ?_;exact Row.below Sn JD;rintro e w3 ⟨v3,rfl,ho3,hf3,hk3⟩)|((refine YB rfl (.tmp 39) (.tmp 41) 23 rfl w.heap.size 35 8 80 i0 _ underlying23 hii hq0 hq1 hq2 rfl o_ v3.A v3.n v3.c _ rfl (Own.from_ (BR.own ho3) (fun g hg=>by have h9:=hf3.lo g hg;(try simp at h9);omega)) _ 1 1 [f.cells] rfl (Row.below (Row.below (Yh _ _ f.cells 8 _ s_) (ZY (Below.refl _ _))) hk3) (by simp[A7.cells]) (by simp[A7.cells,Value.oneCell']) (by have h9:=(BR.own ho3).len;simp at h9;simp only[maxLen];omega) (by have h9:=(BR.own ho3).len;simp at h9;omega) (by have h9:=hk3.size;(try simp at h9);(try simp);omega) ?_;intro A4 c4 w4 C9 hg4 E5))|((refine YB rfl (.tmp 39) (.tmp 41) 23 rfl w.heap.size 35 8 80 i0 _ underlying23 hii hq0 hq1 hq2 rfl o_ v3.A v3.n v3.c _ rfl ((Own.from_ (BR.own ho3) (fun g hg=>by have h9:=hf3.lo g hg;(try simp at h9);omega)).Aj _) _ 1 1 [f.cells] rfl (Yh _ _ f.cells 8 _ s_) (by simp[A7.cells]) (by simp[A7.cells,Value.oneCell']) (by have h9:=(BR.own ho3).len;simp at h9;simp only[maxLen];omega) (by have h9:=(BR.own ho3).len;simp at h9;omega) (by have h9:=hk3.size;(try simp at h9);(try simp);omega) ?_;intro A4 c4 w4 C9 hg4 E5))))
    all_goals
     have H3:=Zg (show Below w.heap.size w _ from by repeat(first|with_reducible exact HW|with_reducible refine Ze ?_ _|with_reducible refine ZY ?_|with_reducible refine Qh ?_ _)) hk3;have H4:=Qn (show Below w.heap.size w _ from by repeat(first|with_reducible exact H3|with_reducible refine Ze ?_ _|with_reducible refine ZY ?_|with_reducible refine Qh ?_ _)) hg4 (fun q hq=>by have h9:=hf3.lo q (ZR.2 hq);(try simp at h9);omega);have L3:=(BR.own ho3).len;simp only[Zo,ZC]at L3;have L9:l.length=0:=hl.out;go_wp2_with (at_builtin;(refine ZX rfl (.tmp 43) (.tmp 46) 23 rfl w.heap.size 35 8 80 i0 _ underlying23 hii hq0 hq1 hq2 rfl o_ A4 (v3.n+1) c4 _ rfl C9 _ 0 _ [] rfl (sW _ _ _) s_ s_ (by simp only[maxLen];omega) o_ H4.size ?_;intro A5 c5 w5 Cn hg5 Eo));have H5:=Qn H4 hg5 (fun q hq=>(C9.lt q hq).1);have e6:((l.take 0).map A7.cells++[f.cells]++[])=(J0 l f).map A7.cells:=by rw[J0,hat.out];simp;first|omega|exact ZN L9 |(rw[ZN L9];rfl)
     rw[e6]at Cn;have tN:=Qo HB1.out;have hsm:Qq (J0 l f):=WA hs hfs;generalize hb3:YW (J0 l f)=b3;have HB3:=Z5 hb3;clear hb3;go_wp2_with fail;refine Zb (Yb A5 _ c5 (J0 l f) _ ?_ Cn.row hsm) ?_
     .omega
     rintro e w6 ⟨rfl,Mv⟩;rw[HB3.out];have H6:=Zg H5 Mv;have Iq:=Cn.below Mv;cases b3
     .have E:=Z5 (Us HB3.out);go_wp2_with fail;refine Zb (Yz ⟨none,0,0⟩ l _ hm (Row.below hr H6)) ?_;rintro e w7 ⟨v7,rfl,KG,Sr,Ss⟩;have hs6:=H6.size;go_wp2_with fail;go_ret2;rw[E.out];exact⟨v7,rfl,KG,Sr.Ay hs6,Zg H6 Ss⟩
     .have E:=Z5 (Ur HB1.out HB3.out);go_wp2_with fail;go_ret2;rw[E.out];exact⟨⟨A5,_,c5⟩,rfl,Iq.zero,YC Iq,H6⟩
   .by_cases WC:k=c
    .subst WC;go_wp2_with fail;go_quiet (fail);have hkc:(k:Int)<=(k:Int):=by omega
     have Sl:(0:Int)<=(k:Int):=by omega
     go_wp2_with fail;refine ZQ fun W hW=>?_
     have Cq:Below wr.heap.size wr W:=by rw[hW.out];exact JD
     have kW:=JT Cq w.heap.size o_;have zW:w.heap.size+1<=W.heap.size:=by have:=Cq.size;omega
     clear hW;have sZ:W.cell? ⟨w.heap.size,0,none⟩=some (.int .i64 f.id):=by rw[kW,kr,k2,k1];simp
     have tC:W.cell? ⟨w.heap.size,1,none⟩=some (.int .i64 f.kind):=by rw[kW,kr,k2,k1];simp
     have Gi:W.cell? ⟨w.heap.size,2,none⟩=some (.string f.AL):=by rw[kW,kr,k2,k1];simp
     have tF:W.cell? ⟨w.heap.size,3,none⟩=some (.string f.Z00):=by rw[kW,kr,k2,k1];simp
     have tH:W.cell? ⟨w.heap.size,4,none⟩=some (.int .i64 f.Af.turn):=by rw[kW,kr,k2,k1];simp
     have tJ:W.cell? ⟨w.heap.size,5,none⟩=some (.int .i64 f.Af.x):=by rw[kW,kr,k2,k1];simp
     have tK:W.cell? ⟨w.heap.size,6,none⟩=some (.int .i64 f.Af.y):=by rw[kW,kr,k2,k1];simp
     have tL:W.cell? ⟨w.heap.size,7,none⟩=some (.int .i64 f.Ao):=by rw[kW,kr,k2,k1];simp
     clear kW kr k2 k1;have HW:=Zg (Zg H hbr) Cq;have Sm:=Row.below hr HW;have Sn:EQ W ⟨some ⟨g,off,none⟩,k,k⟩ (l.take k):=iY Sm hk;have LQ:El (l.take k):=by unfold El at *;rw[ZC];omega
     go_region_held3 (fun w'=>w'.cell? ⟨w.heap.size,0,none⟩=some (.int .i64 f.id)/\w'.cell? ⟨w.heap.size,1,none⟩=some (.int .i64 f.kind)/\w'.cell? ⟨w.heap.size,2,none⟩=some (.string f.AL)/\w'.cell? ⟨w.heap.size,3,none⟩=some (.string f.Z00)/\w'.cell? ⟨w.heap.size,4,none⟩=some (.int .i64 f.Af.turn)/\w'.cell? ⟨w.heap.size,5,none⟩=some (.int .i64 f.Af.x)/\w'.cell? ⟨w.heap.size,6,none⟩=some (.int .i64 f.Af.y)/\w'.cell? ⟨w.heap.size,7,none⟩=some (.int .i64 f.Ao)) (first|go_keep |(go_split_ands;(repeat' apply And.intro)<;>(first|exact Zm hk3 (by assumption)| exact World.grownBy.cell hg4 (by assumption) (fun e=>by have h9:=hf3.lo _ (ZR.2 e.symm);(try simp at h9);omega)))) ((first |(go_at_call 36;refine Zb (Yz ⟨some ⟨g,off,none⟩,k,k⟩ (l.take k) _ LQ ?_) ?_;exact Row.below Sn JD;rintro e w3 ⟨v3,rfl,ho3,hf3,hk3⟩)|((refine YB rfl (.tmp 39) (.tmp 41) 23 rfl w.heap.size 35 8 80 i0 _ underlying23 hii hq0 hq1 hq2 rfl o_ v3.A v3.n v3.c _ rfl (Own.from_ (BR.own ho3) (fun g hg=>by have h9:=hf3.lo g hg;(try simp at h9);omega)) _ 1 1 [f.cells] rfl (Row.below (Row.below (Yh _ _ f.cells 8 _ s_) (ZY (Below.refl _ _))) hk3) (by simp[A7.cells]) (by simp[A7.cells,Value.oneCell']) (by have h9:=(BR.own ho3).len;simp at h9;simp only[maxLen];omega) (by have h9:=(BR.own ho3).len;simp at h9;omega) (by have h9:=hk3.size;(try simp at h9);(try simp);omega) ?_;intro A4 c4 w4 C9 hg4 E5))|((refine YB rfl (.tmp 39) (.tmp 41) 23 rfl w.heap.size 35 8 80 i0 _ underlying23 hii hq0 hq1 hq2 rfl o_ v3.A v3.n v3.c _ rfl ((Own.from_ (BR.own ho3) (fun g hg=>by have h9:=hf3.lo g hg;(try simp at h9);omega)).Aj _) _ 1 1 [f.cells] rfl (Yh _ _ f.cells 8 _ s_) (by simp[A7.cells]) (by simp[A7.cells,Value.oneCell']) (by have h9:=(BR.own ho3).len;simp at h9;simp only[maxLen];omega) (by have h9:=(BR.own ho3).len;simp at h9;omega) (by have h9:=hk3.size;(try simp at h9);(try simp);omega) ?_;intro A4 c4 w4 C9 hg4 E5))))
     all_goals
      have H3:=Zg (show Below w.heap.size w _ from by repeat(first|with_reducible exact HW|with_reducible refine Ze ?_ _|with_reducible refine ZY ?_|with_reducible refine Qh ?_ _)) hk3;have H4:=Qn (show Below w.heap.size w _ from by repeat(first|with_reducible exact H3|with_reducible refine Ze ?_ _|with_reducible refine ZY ?_|with_reducible refine Qh ?_ _)) hg4 (fun q hq=>by have h9:=hf3.lo q (ZR.2 hq);(try simp at h9);omega);have L3:=(BR.own ho3).len;simp only[Zo,ZC]at L3;have L9:l.length=k:=hl.out;go_wp2_with (at_builtin;(refine ZX rfl (.tmp 43) (.tmp 46) 23 rfl w.heap.size 35 8 80 i0 _ underlying23 hii hq0 hq1 hq2 rfl o_ A4 (v3.n+1) c4 _ rfl C9 _ 0 _ [] rfl (sW _ _ _) s_ s_ (by simp only[maxLen];omega) o_ H4.size ?_;intro A5 c5 w5 Cn hg5 Eo));have H5:=Qn H4 hg5 (fun q hq=>(C9.lt q hq).1);have e6:((l.take k).map A7.cells++[f.cells]++[])=(J0 l f).map A7.cells:=by rw[J0,hat.out];simp;first|omega|exact ZN L9 |(rw[ZN L9];rfl)
      rw[e6]at Cn;have tN:=Qo HB1.out;have hsm:Qq (J0 l f):=WA hs hfs;generalize hb3:YW (J0 l f)=b3;have HB3:=Z5 hb3;clear hb3;go_wp2_with fail;refine Zb (Yb A5 _ c5 (J0 l f) _ ?_ Cn.row hsm) ?_
      .omega
      rintro e w6 ⟨rfl,Mv⟩;rw[HB3.out];have H6:=Zg H5 Mv;have Iq:=Cn.below Mv;cases b3
      .have E:=Z5 (Us HB3.out);go_wp2_with fail;refine Zb (Yz ⟨some ⟨g,off,none⟩,k,k⟩ l _ hm (Row.below hr H6)) ?_;rintro e w7 ⟨v7,rfl,KG,Sr,Ss⟩;have hs6:=H6.size;go_wp2_with fail;go_ret2;rw[E.out];exact⟨v7,rfl,KG,Sr.Ay hs6,Zg H6 Ss⟩
      .have E:=Z5 (Ur HB1.out HB3.out);go_wp2_with fail;go_ret2;rw[E.out];exact⟨⟨A5,_,c5⟩,rfl,Iq.zero,YC Iq,H6⟩
    .have tO:k<c:=by omega
     go_wp2_with fail;go_quiet (fail);have hkc:(k:Int)<=(c:Int):=by omega
     have Sl:(0:Int)<=(k:Int):=by omega
     go_wp2_with fail;refine ZQ fun W hW=>?_
     have Cq:Below wr.heap.size wr W:=by rw[hW.out];exact JD
     have kW:=JT Cq w.heap.size o_;have zW:w.heap.size+1<=W.heap.size:=by have:=Cq.size;omega
     clear hW;have sZ:W.cell? ⟨w.heap.size,0,none⟩=some (.int .i64 f.id):=by rw[kW,kr,k2,k1];simp
     have tC:W.cell? ⟨w.heap.size,1,none⟩=some (.int .i64 f.kind):=by rw[kW,kr,k2,k1];simp
     have Gi:W.cell? ⟨w.heap.size,2,none⟩=some (.string f.AL):=by rw[kW,kr,k2,k1];simp
     have tF:W.cell? ⟨w.heap.size,3,none⟩=some (.string f.Z00):=by rw[kW,kr,k2,k1];simp
     have tH:W.cell? ⟨w.heap.size,4,none⟩=some (.int .i64 f.Af.turn):=by rw[kW,kr,k2,k1];simp
     have tJ:W.cell? ⟨w.heap.size,5,none⟩=some (.int .i64 f.Af.x):=by rw[kW,kr,k2,k1];simp
     have tK:W.cell? ⟨w.heap.size,6,none⟩=some (.int .i64 f.Af.y):=by rw[kW,kr,k2,k1];simp
     have tL:W.cell? ⟨w.heap.size,7,none⟩=some (.int .i64 f.Ao):=by rw[kW,kr,k2,k1];simp
     clear kW kr k2 k1;have HW:=Zg (Zg H hbr) Cq;have Sm:=Row.below hr HW;have Sn:EQ W ⟨some ⟨g,off,none⟩,k,c⟩ (l.take k):=iY Sm hk;have LQ:El (l.take k):=by unfold El at *;rw[ZC];omega
     go_region_held3 (fun w'=>w'.cell? ⟨w.heap.size,0,none⟩=some (.int .i64 f.id)/\w'.cell? ⟨w.heap.size,1,none⟩=some (.int .i64 f.kind)/\w'.cell? ⟨w.heap.size,2,none⟩=some (.string f.AL)/\w'.cell? ⟨w.heap.size,3,none⟩=some (.string f.Z00)/\w'.cell? ⟨w.heap.size,4,none⟩=some (.int .i64 f.Af.turn)/\w'.cell? ⟨w.heap.size,5,none⟩=some (.int .i64 f.Af.x)/\w'.cell? ⟨w.heap.size,6,none⟩=some (.int .i64 f.Af.y)/\w'.cell? ⟨w.heap.size,7,none⟩=some (.int .i64 f.Ao)) (first|go_keep |(go_split_ands;(repeat' apply And.intro)<;>(first|exact Zm hk3 (by assumption)| exact World.grownBy.cell hg4 (by assumption) (fun e=>by have h9:=hf3.lo _ (ZR.2 e.symm);(try simp at h9);omega)))) ((first |(go_at_call 36;refine Zb (Yz ⟨some ⟨g,off,none⟩,k,c⟩ (l.take k) _ LQ ?_) ?_;exact Row.below Sn JD;rintro e w3 ⟨v3,rfl,ho3,hf3,hk3⟩)|((refine YB rfl (.tmp 39) (.tmp 41) 23 rfl w.heap.size 35 8 80 i0 _ underlying23 hii hq0 hq1 hq2 rfl o_ v3.A v3.n v3.c _ rfl (Own.from_ (BR.own ho3) (fun g hg=>by have h9:=hf3.lo g hg;(try simp at h9);omega)) _ 1 1 [f.cells] rfl (Row.below (Row.below (Yh _ _ f.cells 8 _ s_) (ZY (Below.refl _ _))) hk3) (by simp[A7.cells]) (by simp[A7.cells,Value.oneCell']) (by have h9:=(BR.own ho3).len;simp at h9;simp only[maxLen];omega) (by have h9:=(BR.own ho3).len;simp at h9;omega) (by have h9:=hk3.size;(try simp at h9);(try simp);omega) ?_;intro A4 c4 w4 C9 hg4 E5))|((refine YB rfl (.tmp 39) (.tmp 41) 23 rfl w.heap.size 35 8 80 i0 _ underlying23 hii hq0 hq1 hq2 rfl o_ v3.A v3.n v3.c _ rfl ((Own.from_ (BR.own ho3) (fun g hg=>by have h9:=hf3.lo g hg;(try simp at h9);omega)).Aj _) _ 1 1 [f.cells] rfl (Yh _ _ f.cells 8 _ s_) (by simp[A7.cells]) (by simp[A7.cells,Value.oneCell']) (by have h9:=(BR.own ho3).len;simp at h9;simp only[maxLen];omega) (by have h9:=(BR.own ho3).len;simp at h9;omega) (by have h9:=hk3.size;(try simp at h9);(try simp);omega) ?_;intro A4 c4 w4 C9 hg4 E5))))
     all_goals
      have H3:=Zg (show Below w.heap.size w _ from by repeat(first|with_reducible exact HW|with_reducible refine Ze ?_ _|with_reducible refine ZY ?_|with_reducible refine Qh ?_ _)) hk3;have H4:=Qn (show Below w.heap.size w _ from by repeat(first|with_reducible exact H3|with_reducible refine Ze ?_ _|with_reducible refine ZY ?_|with_reducible refine Qh ?_ _)) hg4 (fun q hq=>by have h9:=hf3.lo q (ZR.2 hq);(try simp at h9);omega);have L3:=(BR.own ho3).len;simp only[Zo,ZC]at L3;have L9:l.length=k:=hl.out;go_wp2_with (at_builtin;(refine ZX rfl (.tmp 43) (.tmp 46) 23 rfl w.heap.size 35 8 80 i0 _ underlying23 hii hq0 hq1 hq2 rfl o_ A4 (v3.n+1) c4 _ rfl C9 _ 0 _ [] rfl (sW _ _ _) s_ s_ (by simp only[maxLen];omega) o_ H4.size ?_;intro A5 c5 w5 Cn hg5 Eo));have H5:=Qn H4 hg5 (fun q hq=>(C9.lt q hq).1);have e6:((l.take k).map A7.cells++[f.cells]++[])=(J0 l f).map A7.cells:=by rw[J0,hat.out];simp;first|omega|exact ZN L9 |(rw[ZN L9];rfl)
      rw[e6]at Cn;have tN:=Qo HB1.out;have hsm:Qq (J0 l f):=WA hs hfs;generalize hb3:YW (J0 l f)=b3;have HB3:=Z5 hb3;clear hb3;go_wp2_with fail;refine Zb (Yb A5 _ c5 (J0 l f) _ ?_ Cn.row hsm) ?_
      .omega
      rintro e w6 ⟨rfl,Mv⟩;rw[HB3.out];have H6:=Zg H5 Mv;have Iq:=Cn.below Mv;cases b3
      .have E:=Z5 (Us HB3.out);go_wp2_with fail;refine Zb (Yz ⟨some ⟨g,off,none⟩,k,c⟩ l _ hm (Row.below hr H6)) ?_;rintro e w7 ⟨v7,rfl,KG,Sr,Ss⟩;have hs6:=H6.size;go_wp2_with fail;go_ret2;rw[E.out];exact⟨v7,rfl,KG,Sr.Ay hs6,Zg H6 Ss⟩
      .have E:=Z5 (Ur HB1.out HB3.out);go_wp2_with fail;go_ret2;rw[E.out];exact⟨⟨A5,_,c5⟩,rfl,Iq.zero,YC Iq,H6⟩
theorem tQ:∀ (l:List A7) (p:Int),JW l (some p)=true->∀ g∈l,p<g.id
 |[],p,_,g,hg=>by simp at hg
 |a::l,p,h,g,hg=>by
  simp only[JW,Zc,decide_eq_true_eq]at h
  rcases List.mem_cons.1 hg with rfl|hg
  .exact h.2.1
  .have:=tQ l a.id h.2.2 g hg;omega
theorem jO{a:A7}{p:Option Int}(h:JW (a::l) p=true):JW l (some a.id)=true:=by
 simp only[JW,Zc]at h;exact h.2.2
def Mw(n:Nat):List Am->List (List Chan)->Bool
 |r::rs,row::rows=>YW r.Ab && (decide (row.length=n) && (row.all YQ && Mw n rs rows))
 |_,_=>true
theorem Zf6(n:Nat):∀ (rs:List Am) (rows:List (List Chan)),rows.length=rs.length->Mw n rs rows=((rs.all fun r=>YW r.Ab) && (rows.all fun row=>decide (row.length=n) && row.all YQ))
 |[],[],_=>rfl
 |r::rs,row::rows,h=>by
  rw[Mw,Zf6 n rs rows (by simpa using h)]
  simp only[List.all_cons]
  cases YW r.Ab<;>cases decide (row.length=n)<;> cases row.all YQ<;>simp
theorem ZjP{t:Ak}{nr nc:Nat}(hr:Hid (t.Ad.length=nr))(hc:Hid (t.channels.length=nc)):Hid (YG t=(Be nr 1 3 && (decide (nc=nr) && Mw nr t.Ad t.channels))):=by
 have h1:t.Ad.length=nr:=hr;have h2:t.channels.length=nc:=hc;rw[Hid,YG,h1,h2];by_cases h:nc=nr
 .rw[Zf6 nr _ _ o_]
 .simp[h]
def Gu(n:Nat)(rs:List Am)(rows:List (List Chan))(k:Nat):Prop:=Mw n rs rows=Mw n (rs.drop k) (rows.drop k)
theorem Gu.step{n k:Nat}{rs:List Am}{rows:List (List Chan)}{r:Am}{row:List Chan}(h:Gu n rs rows k)(hr:Hid (rs[k]? = some r))(hw:Hid (rows[k]? = some row)):
  Mw n rs rows=(YW r.Ab && (decide (row.length=n) && (row.all YQ && Mw n (rs.drop (k+1)) (rows.drop (k+1))))):=by
 unfold Gu at h;rw[h,QP hr,QP hw,Mw]
theorem Gu.done{n k m:Nat}{rs:List Am}{rows:List (List Chan)}(h:Gu n rs rows k)(hl:Hid (rs.length=m))(hk:¬ k<m):Hid (Mw n rs rows=true):=by
 unfold Gu at h;rw[Hid,h,QK hl hk];rfl
def ET{α:Type}(p:α->Bool)(l:List α)(k:Nat):Prop:=l.all p=(l.drop k).all p
theorem ET.step{α:Type}{p:α->Bool}{l:List α}{k:Nat}{x:α}(h:ET p l k)(hx:Hid (l[k]? = some x)):l.all p=(p x && (l.drop (k+1)).all p):=by
 unfold ET at h;rw[h,QP hx,List.all_cons]
theorem ET.done{α:Type}{p:α->Bool}{l:List α}{k n:Nat}(h:ET p l k)(hl:Hid (l.length=n))(hk:¬ k<n):Hid (l.all p=true):=by
 unfold ET at h;rw[Hid,h,QK hl hk];rfl
theorem tT{t:Ak}(hm:Xk t<=4194304):∀ r∈t.Ad,r.Ab.length<=4194304/\Qq r.Ab/\Ib r.Ab<=4194304:=fun r hr=>by
 have h1:=XY (c:=Am.bulk) hr
 unfold Xk at hm
 have h3:r.bulk=Ib r.Ab+r.Av.size:=rfl
 have h2:Ib r.Ab<=4194304:=by omega
 exact⟨by unfold Ib at h2;omega,iW h2,h2⟩
theorem Zlq{t:Ak}(hm:Xk t<=4194304):∀ l∈t.channels,∀ c∈l,EP c:=fun l hl c hc=>by
 have h1:=XY (c:=NE) hl
 have h2:=XY (c:=Xb) hc
 unfold Xk at hm
 have h3:NE l=l.length+Y9 Xb l:=rfl
 exact Uv o_
theorem Xz(v:TV)(t:Ak)(w:World)(hm:Xk t<=4194304)(hok:Mq t)(hr:Kc w v t):
  Calls prog 22 #[QL v] w fun e w'=>e=QM (YG t)/\Below w.heap.size w w':=by
 obtain⟨⟨Ar,nr,cr⟩,⟨Ac,nc,cc⟩,fr,fc⟩:=v;obtain⟨r0,r1⟩:=hr;dsimp only at r0 r1;have lr:=r0.len;have lc:=r1.len;have E:=ZjP lr lc;have SR:=Z5 (tT hm);have SC:=Z5 (Zlq hm);have OK:=Z5 hok;have NR:=Z5 (show nr<=4194304 by have:=lr.out;unfold Xk at hm;omega);clear hm hok;by_cases hin:1<=nr/\nr<=3;rotate_left
 .have hi0:Hid (Be (nr:Int) 1 3=false):=by
   rw[Hid,Bool.eq_false_iff];intro h;have:=Y8.1 h;omega
  have hfin:Hid (YG t=false):=by rw[Hid,E.out,hi0.out,Bool.false_and]
  have tV:=NR.out;have hd:nr<1∨3<nr:=by omega
  clear hin hi0;rcases hd with hd|hd
  .obtain rfl:nr=0:=by omega
   go_enter func22,ntmps22;go_wp2_with fail;go_ret;exact⟨by rw[hfin.out];rfl,Ze (Below.refl _ _) _⟩
  .have hd1:¬(nr:Int)< 1:=by omega
   have hd2:(3:Int)<(nr:Int):=by omega
   go_enter func22,ntmps22;go_wp2_with fail;go_ret;exact⟨by rw[hfin.out];rfl,Ze (Below.refl _ _) _⟩
 have hi0:Hid (Be (nr:Int) 1 3=true):=Y8.2 o_;obtain⟨hin1,hin2⟩:=hin;have tV:=NR.out;have ni1:¬(nr:Int)< 1:=by omega
 have ni2:¬(3:Int)<(nr:Int):=by omega
 by_cases hcn:nc=nr;rotate_left
 .have hfin:Hid (YG t=false):=by rw[Hid,E.out];simp[hcn]
  have hcI:¬(nc:Int)=(nr:Int):=by omega
  go_enter func22,ntmps22;go_wp2_with fail
  all_goals first
   |(exfalso;omega)
   |(go_ret;exact⟨by rw[hfin.out];rfl,Ze (Below.refl _ _) _⟩)
 subst hcn;have E2:Hid (YG t=Mw nc t.Ad t.channels):=by rw[Hid,E.out,hi0.out];simp
 clear E;go_enter func22,ntmps22;go_wp2_with fail;go_loopw [27,4] (fun i j wr=>∃ (k:Nat),k<=nc/\i=.int .i64 k/\Gu nc t.Ad t.channels k/\Below w.heap.size w wr/\wr.cell? ⟨w.heap.size,0,none⟩=some (.slice Ar nc cr)/\wr.cell? ⟨w.heap.size,1,none⟩=some (.slice Ac nc cc)) (fun i _ _=>nc-(intOf i).toNat)
 case atStart=>exact⟨0,o_,rfl,rfl,Ze (Below.refl _ _) _,s_,s_⟩
 case round =>
  obtain⟨k,hk,rfl,hi,hb,t0,t1⟩:=hrel;obtain⟨wo,rfl⟩:∃ wo:World,wo=wr:=⟨_,rfl⟩;have hz:=Y6 t0;dsimp only at hz;by_cases hlt:k<nc
  .obtain⟨x,cs,g,off,hx,rfl,hR,hc⟩:=BQ.at_ (BQ.below (R:=D8) D8.below r0 hb) hlt;obtain⟨vx,rfl,F8,hLn⟩:=hR;have g0:wo.cell? ⟨g,off+k*2,none⟩=some (.slice vx.A vx.n vx.c):=hc 0 _ rfl;have g1:wo.cell? ⟨g,off+k*2+1,none⟩=some (.string x.Av):=hc 1 _ rfl;obtain⟨row,cs2,gc,tX,hrow,rfl,hR2,hc2⟩:=BQ.at_ (BQ.below (R:=ES) ES.below r1 hb) hlt;obtain⟨vr,rfl,WE,WG⟩:=hR2;have k0:wo.cell? ⟨gc,tX+k,none⟩=some (.slice vr.A vr.n vr.c):=by simpa using hc2 0 _ rfl
   clear hc hc2;have hst:=hi.step hx hrow;have WH:=WE.len;rw[WH.out]at hst;obtain⟨hs1,hs2,_⟩:=SR.out x (Z6 hx.out);have hs3:vx.n<=4194304:=by have:=F8.len.out;omega
   have hs4:vr.n<=9223372036854775807:=WG;have HS4:=Z5 hs4;have HC:=Z5 (SC.out row (Z6 hrow.out));have HO:=Z5 (OK.out.2 row (Z6 hrow.out));have z0:(0:Int)<=(k:Int):=by omega
   have z1:(k:Int)<(nc:Int):=by omega
   generalize hv:YW x.Ab=bf at hst;generalize ha:row.all YQ=ba at hst;have HV:=Z5 hv;have HA:=Z5 ha;have HS:=Z5 hst;have HS2:=Z5 hs2;clear hv ha hst hi hs1 hs2 WG hs4;cases bf
   .have hfin:Hid (YG t=false):=by rw[Hid,E2.out,HS.out,Bool.false_and]
    go_wp2_with fail;refine Zb (Yb vx.A vx.n vx.c x.Ab _ hs3 ?_ HS2.out) ?_
    .exact EQ.below F8 (Ze (Below.refl _ _) _)
    rintro e w1 ⟨he,hb1⟩;rw[HV.out]at he;subst he;have hbq:=Zg (Ze (Below.refl wo.heap.size wo) _) hb1;have jP:=Zm hbq t0;have jQ:=Zm hbq t1;have tY:=Zm hbq k0;go_wp2_with fail;go_ret;exact⟨by rw[hfin.out];rfl,Zg hb hbq⟩
   by_cases hrn:vr.n=nc;rotate_left
   .have hfin:Hid (YG t=false):=by rw[Hid,E2.out,HS.out];simp[hrn]
    go_wp2_with fail;refine Zb (Yb vx.A vx.n vx.c x.Ab _ hs3 ?_ HS2.out) ?_
    .exact EQ.below F8 (Ze (Below.refl _ _) _)
    rintro e w1 ⟨he,hb1⟩;rw[HV.out]at he;subst he;have hbq:=Zg (Ze (Below.refl wo.heap.size wo) _) hb1;have jP:=Zm hbq t0;have jQ:=Zm hbq t1;have tY:=Zm hbq k0;go_wp2_with fail
    all_goals first
     |(exfalso;omega)
     |(go_ret;exact⟨by rw[hfin.out];rfl,Zg hb hbq⟩)
   have Z57:(vr.n:Int)=(nc:Int):=by omega
   go_wp2_with fail;refine Zb (Yb vx.A vx.n vx.c x.Ab _ hs3 ?_ HS2.out) ?_
   .exact EQ.below F8 (Ze (Below.refl _ _) _)
   rintro e w1 ⟨he,hb1⟩;rw[HV.out]at he;subst he;have hbq:=Zg (Ze (Below.refl wo.heap.size wo) _) hb1;have jP:=Zm hbq t0;have jQ:=Zm hbq t1;have tY:=Zm hbq k0;obtain⟨wq,hwq⟩:∃ wq:World,w1=wq:=⟨_,rfl⟩;rw[hwq]at hbq jP jQ tY ⊢;have HW:=Z5 hwq;clear hwq;go_wp2_with fail;go_loopw [52] (fun i ww=>∃ (j:Nat),j<=vr.n/\i=.int .i64 j/\ET YQ row j/\Below wq.heap.size wq ww) (fun i _=>vr.n-(intOf i).toNat)
   case atStart=>exact⟨0,o_,rfl,rfl,Below.refl _ _⟩
   case round =>
    obtain⟨j,hj,rfl,hai,hb2⟩:=hrel;have HB2:=Zg hbq hb2;by_cases hjl:j<vr.n
    .obtain⟨ch,cs3,g3,Ep,hch,hA3,hR3,hc3⟩:=BQ.at_ (BQ.below (R:=ER) ER.below WE HB2) hjl;obtain⟨vc,rfl,tZ,Z58⟩:=hR3;have q0:wr.cell? ⟨g3,Ep+j*6,none⟩=some (.slice vc.q.A vc.q.n vc.q.c):=hc3 0 _ rfl;have q1:wr.cell? ⟨g3,Ep+j*6+1,none⟩=some (.int .i64 ch.base):=hc3 1 _ rfl;have q2:wr.cell? ⟨g3,Ep+j*6+2,none⟩=some (.int .i64 ch.expected):=hc3 2 _ rfl;have q3:wr.cell? ⟨g3,Ep+j*6+3,none⟩=some (.slice vc.i.A vc.i.n vc.i.c):=hc3 3 _ rfl;have q4:wr.cell? ⟨g3,Ep+j*6+4,none⟩=some (.slice vc.n.A vc.n.n vc.n.c):=hc3 4 _ rfl;have q5:wr.cell? ⟨g3,Ep+j*6+5,none⟩=some (.slice vc.a.A vc.a.n vc.a.c):=hc3 5 _ rfl;clear hc3;rw[hA3];have hst:=hai.step hch;have hwb:=(HO.out ch (Z6 hch.out)).2.2.2.2.1;have Ox:=HC.out ch (Z6 hch.out);generalize hbc:YQ ch=bc at hst;have HBC:=Z5 hbc;have HST:=Z5 hst;have HWB:=Z5 hwb;have uB:=Z5 Ox;clear hst hai hbc hwb Ox;have y0:(0:Int)<=(j:Int):=by omega
     have y1:(j:Int)<(vr.n:Int):=by omega
     go_wp2_with fail;have hwb:=HWB.out;have Ox:=uB.out;refine Zb (QE vc ch _ hwb ?_) ?_
     .exact tZ.below (Ze (Below.refl _ _) _)
     rintro e w5 ⟨he,hb5⟩;rw[HBC.out]at he;subst he;clear hwb Ox;have jR:=Zg (Ze hb2 _) hb5;cases bc
     .have hfin:Hid (YG t=false):=by
       have h1:ba=false:=by rw[<- HA.out,HST.out,Bool.false_and]
       rw[Hid,E2.out,HS.out,h1];simp
      go_wp2_with fail;go_ret;exact⟨by rw[hfin.out];rfl,Zg (Zg hb hbq) jR⟩
     .have hnx:ET YQ row (j+1):=by rw[ET,HST.out,Bool.true_and]
      go_wp2_with fail;go_roundw
      case rel=>exact⟨j+1,o_,by go_num,hnx,jR⟩
      case measure=>simp[intOf];omega
    .have WI:Hid (ba=true):=by have:=hai.done WH hjl;rw[Hid,<- HA.out];exact this.out
     have hnx:Gu nc t.Ad t.channels (k+1):=by rw[Gu,HS.out,WI.out];simp[hrn]
     have t0r:=Zm hb2 jP;have t1r:=Zm hb2 jQ;go_wp2_with fail;go_roundw
     case rel=>exact⟨k+1,o_,by go_num,hnx,Zg (Zg hb hbq) hb2,t0r,t1r⟩
     case measure=>simp[intOf];omega
  .have hfin:=hi.done lr hlt;go_wp2_with fail;go_ret;exact⟨by rw[E2.out,hfin.out];rfl,hb⟩
theorem uC{t:Ak}(h:YG t=true):1<=t.Ad.length/\t.Ad.length<=3:=by
 unfold YG at h;simp only[Zc]at h;have:=Y8.1 h.1;omega
theorem Zer{t:Ak}{r0:Am}(h:YG t=true)(h0:t.Ad[0]? = some r0):Js t=t.Ad.all fun r=>Gc r.Ab r0.Ab:=by
 unfold Js;rw[h,Bool.true_and];cases hr:t.Ad with
 |nil=>rw[hr]at h0;cases h0
 |cons a l=>rw[hr]at h0;simp only[List.getElem?_cons_zero,Zi]at h0;subst h0;rfl
theorem Zeq{t:Ak}(h:YG t=false):Js t=false:=by simp[Js,h]
theorem Z8A(v:TV)(t:Ak)(w:World)(hm:Xk t<=4194304)(hok:Mq t)(hr:Kc w v t):
  Calls prog 11 #[QL v] w fun e w'=>e=QM (Js t)/\Below w.heap.size w w':=by
 have SR:=Z5 (tT hm);have HM:=Z5 hm;have OK:=Z5 hok;have WJ:=hr;obtain⟨⟨Ar,nr,cr⟩,⟨Ac,nc,cc⟩,fr,fc⟩:=v;obtain⟨r0,r1⟩:=hr;dsimp only at r0 r1;have lr:=r0.len;have NR:=Z5 (show nr<=4194304 by have:=lr.out;unfold Xk at hm;omega);generalize hbt:YG t=bt;have HT:=Z5 hbt;clear hbt hm hok;go_enter func11,ntmps11;go_wp2_with fail;refine Zb (Xz ⟨⟨Ar,nr,cr⟩,⟨Ac,nc,cc⟩,fr,fc⟩ t _ HM.out OK.out ?_) ?_
 .exact Kc.below WJ (Ze (Below.refl _ _) _)
 rintro e w1 ⟨he,hb1⟩;rw[HT.out]at he;subst he;have H:=Zg (Ze (Below.refl w.heap.size w) _) hb1;have k1:=JT hb1 w.heap.size s_;cases bt
 .have hfin:Hid (Js t=false):=Zeq HT.out;go_wp2_with fail;go_ret;exact⟨by rw[hfin.out];rfl,H⟩
 have hpos:=uC HT.out;have hn1:1<=nr:=by have:=lr.out;omega
 have t0:w1.cell? ⟨w.heap.size,0,none⟩=some (.slice Ar nr cr):=by rw[k1];simp
 obtain⟨x0,cs0,g0,H9,hx0,Ir,hR0,hc0⟩:=BQ.at_ (BQ.below (R:=D8) D8.below r0 H) (show 0<nr by omega);obtain⟨v0,rfl,Oy,uD⟩:=hR0;have p0:w1.cell? ⟨g0,H9,none⟩=some (.slice v0.A v0.n v0.c):=by simpa using hc0 0 _ rfl
 have hfn:=Z5 (Zer HT.out hx0.out);have hs0:v0.n<=4194304:=by have:=Oy.len.out;have:=(SR.out x0 (Z6 hx0.out)).1;omega
 subst Ir;have hNI:(0:Int)<(nr:Int):=by omega
 have hNN:0<nr:=by omega
 have hNE:nr≠0:=by omega
 have tV:=NR.out;clear hc0 hpos;go_wp2_with fail;go_loopw [11] (fun i wr=>∃ (k:Nat),k<=nr/\i=.int .i64 k/\ET (fun r=>Gc r.Ab x0.Ab) t.Ad k/\Below w1.heap.size w1 wr) (fun i _=>nr-(intOf i).toNat)
 case atStart=>exact⟨0,o_,rfl,rfl,Below.refl _ _⟩
 case round =>
  obtain⟨k,hk,rfl,hi,hb⟩:=hrel;have t0:=Zm hb t0;have p0:=Zm hb p0;have HB:=Zg H hb;by_cases hlt:k<nr
  .obtain⟨x,cs,g,off,hx,hA,hR,hc⟩:=BQ.at_ (BQ.below (R:=D8) D8.below r0 HB) hlt;simp only[Zi,Addr.mk.injEq,and_true]at hA;obtain⟨rfl,rfl⟩:=hA;obtain⟨vx,rfl,F8,hLn⟩:=hR;have q0:wr.cell? ⟨g0,H9+k*2,none⟩=some (.slice vx.A vx.n vx.c):=hc 0 _ rfl;have q1:wr.cell? ⟨g0,H9+k*2+1,none⟩=some (.string x.Av):=hc 1 _ rfl;clear hc;have hst:=hi.step hx;have hs1:vx.n<=4194304:=by have:=F8.len.out;have:=(SR.out x (Z6 hx.out)).1;omega
   generalize hv:Gc x.Ab x0.Ab=bs at hst;have HV:=Z5 hv;have HS:=Z5 hst;clear hv hst hi;have hz:=Y6 t0;dsimp only at hz;have z0:(0:Int)<=(k:Int):=by omega
   have z1:(k:Int)<(nr:Int):=by omega
   have WK:=EQ.below Oy hb;go_wp2_with fail;refine ZQ fun R hR=>?_
   have hwb:Below wr.heap.size wr R:=by rw[hR.out];exact Ze (Below.refl _ _) _
   have c0:R.cell? ⟨wr.heap.size,0,none⟩=some (.slice vx.A vx.n vx.c):=by rw[hR.out];simp
   have c1:=Zm hwb t0;have c2:=Zm hwb p0;clear hR
   go_region_held3 (fun w'=>w'.cell? ⟨wr.heap.size,0,none⟩=some (.slice vx.A vx.n vx.c)/\w'.cell? ⟨w.heap.size,0,none⟩=some (.slice (some ⟨g0,H9,none⟩) nr cr)/\w'.cell? ⟨g0,H9,none⟩=some (.slice v0.A v0.n v0.c))
    (first|go_keep |((repeat' apply And.intro)<;> exact Zm hb5 (by assumption))) ((go_at_call 13;refine(Xw vx.A v0.A vx.n v0.n vx.c v0.c x.Ab x0.Ab _ hs1 hs0 (F8.below (ZY hwb)) (WK.below (ZY hwb))).mono ?_;rw[HV.out];rintro e w5 ⟨rfl,hb5⟩))
   have hbq:=Zg (ZY hwb) hb5;cases bs
   .have hfin:Hid (Js t=false):=by rw[Hid,hfn.out,HS.out,Bool.false_and]
    go_wp2_with fail;go_ret;exact⟨by rw[hfin.out];rfl,Zg HB hbq⟩
   .have hnx:ET (fun r=>Gc r.Ab x0.Ab) t.Ad (k+1):=by rw[ET,HS.out,Bool.true_and]
    go_wp2_with fail;go_roundw
    case rel=>exact⟨k+1,o_,by go_num,hnx,Zg hb hbq⟩
    case measure=>simp[intOf];omega
  .have hfin:=hi.done lr hlt;go_wp2_with fail;go_ret;exact⟨by rw[hfn.out,hfin.out];rfl,HB⟩
theorem Z6O(v:CV)(c:Chan)(w:World)(hfw:EP c)(hr:FI w v c):
  Calls prog 54 #[YA v c.base c.expected] w fun e w'=>Zn9 w c e w':=by
 go_enter func54,ntmps54;go_wp2_with fail;refine Zb (Yp v c _ hfw ?_) ?_
 .exact hr.below (Ze (Ze (Below.refl _ _) _) _)
 rintro e w1 ⟨v1,rfl,ho,hf,hb1⟩;have H:=Zg (Ze (Ze (Below.refl w.heap.size w) _) _) hb1;have hz1:w.heap.size+2<=w1.heap.size:=RX hb1;have q0:w.heap.size<w1.heap.size:=by omega
 have q1:w.heap.size+1<w1.heap.size:=by omega
 have rO:=JT hb1 (w.heap.size) (by first |(simp;done)|(simp;omega));have rP:=Q6 hb1 (w.heap.size) (by first |(simp;done)|(simp;omega));have rQ:=JT hb1 (w.heap.size+1) (by first |(simp;done)|(simp;omega));have rR:=Q6 hb1 (w.heap.size+1) (by first |(simp;done)|(simp;omega));have hf':Ag (w.heap.size+2) w1 (AP v1):=hf.Ay s_;have hbx:=Own.box (sz:=6) ((hb1.block w.heap.size AR).trans (NI w _ _)) rfl;have tok:True:=trivial;go_wp2_with (have _t:=tok;refine ZS rfl 77 (.tmp 1) (.tmp 6) rfl 0 77 6 1 1 w.heap.size 0 0 rfl _ rfl _ (Ql v1 c.base c.expected) rfl rfl rfl (QZ rfl) QG hbx o_ ?_;clear tok _t hbx;intro w2 hbx hg2;have u2:=rM hg2;have hz2:=hg2.size;have q2:w.heap.size+1<w2.heap.size:=o_;have c0:=hbx.BG 0 _ rfl;have c1:=hbx.BG 1 _ rfl;have c2:=hbx.BG 2 _ rfl;have c3:=hbx.BG 3 _ rfl;have c4:=hbx.BG 4 _ rfl;have c5:=hbx.BG 5 _ rfl;have fz:=hbx.frozen rfl;have rT:=F5 u2 (w.heap.size+1) o_ s_;have rU:=NB u2 (w.heap.size+1) o_ s_);refine bodyPost_ret (v:=.tuple #[YA { v1 with i:=Uy } (Xi c).base (Xi c).expected,.slice v1.i.A v1.i.n v1.i.c]) (by simp[*,Xi,Uy,results,results54,go_sem]) rfl ⟨_,_,rfl,?_⟩;exact Zlg [w.heap.size,w.heap.size+1] H ho hf' o_ ((u2.mono s_).trans (by repeat(first|with_reducible exact Aw.refl _ _|with_reducible refine Aw.Aj ?_ _ |((with_reducible refine Aw.AA ?_ ?_ _);rotate_left;simp)))) s_
end Go.Proofs.YtcnbphnnfmphlaaGreatDoor
