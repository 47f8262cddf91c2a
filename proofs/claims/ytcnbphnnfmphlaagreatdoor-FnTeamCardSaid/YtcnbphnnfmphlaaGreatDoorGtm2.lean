/- Texts of this proof. -/
import Derived.Lib.QuietBelow
import Derived.Test.YtcnbphnnfmphlaaGreatDoorGtm1
namespace Go.Proofs.YtcnbphnnfmphlaaGreatDoor
open Bool renaming and_eq_true → Zc
open Go.Calls renaming regrown_of → Zx
open List renaming getElem?_eq_getElem → Z4,mem_of_getElem? → Z6,mem_append → Z9,replicate → Zk,mem_cons → Zn,getElem?_cons_zero → Zw,nodup_append → ZA,getElem?_cons_succ → ZD,flatten_cons → ZL
open Nat renaming lt_of_lt_of_le → Zf,le_trans → Zj
open Option.some renaming injEq → Zi
open Go.Proofs.Tryz
open Go.RowKit
set_option linter.unusedVariables false
set_option linter.unusedSimpArgs false
set_option maxHeartbeats 1600000
set_option maxRecDepth 100000
variable{p:Addr}{f:A7}{l:List A7}{fs gs:List Nat}{B B' B2:Nat}{w':World}
abbrev Xn(r:Int)(A:Option Addr)(n c:Nat):Value:=.agg #[.int .i64 r,.slice A n c]
def Yo(id:Int):Int:=if Be id 0 2999 then id / 1000 else -1
theorem Ze8{id:Int}(h:0<=id/\id<=2999):Hid (Yo id=id / 1000):=by
 have:Be id 0 2999=true:=Y8.2 h;simp[Hid,Yo,this]
theorem ZgX{id:Int}(h:¬(0<=id/\id<=2999)):Hid (Yo id = -1):=by
 have:Be id 0 2999=false:=by simpa [Be]using h
 simp[Hid,Yo,this]
theorem X3(id:Int)(w:World)(hid:MI id):Calls prog 24 #[.int .i64 id] w fun e w'=>e=LA (Yo id)/\w=w':=by
 by_cases h:0<=id/\id<=2999
 .have hv:=Ze8 h;obtain⟨h0,h1⟩:=h;have h3:id / 1000<3:=by omega
  go_enter func24,ntmps24;go_wp2;go_ret;exact⟨by rw[hv.out];rfl,rfl⟩
 .have hv:=ZgX h;by_cases h0:id<0
  .go_enter func24,ntmps24;go_wp2;go_ret;exact⟨by rw[hv.out];rfl,rfl⟩
  .have h1:0<=id:=by omega
   have h3:3<=id / 1000:=by omega
   have h4:wrap64 (id.tdiv 1000)=id / 1000:=by
    rw[Int.tdiv_eq_ediv_of_nonneg o_];unfold MI at hid;exact IntWalk.wrap64_in _ ⟨o_,o_⟩
   clear h;go_enter func24,ntmps24;go_wp2;go_ret;exact⟨by rw[hv.out];rfl,rfl⟩
def Ka(r:Int):List A7->Option Int->Bool
 |[],_=>true
 |f::l,prev=>Zy f && ((Yo f.id == r) && ((match prev with|none=>true|some p=>decide (p<f.id)) && Ka r l (some f.id)))
def Yg(r:Int)(l:List A7):Bool:=Be r 0 2 && (Be l.length 1 4 && Ka r l none)
def NA(l:List A7)(k:Nat):Option Int:=if k=0 then none else (l[k-1]?).map (·.id)
def BX(r:Int)(l:List A7)(k:Nat):Prop:=Ka r l none=Ka r (l.drop k) (NA l k)
theorem iM{k:Nat}(hf:Hid (l[k]? = some f)):NA l (k+1)=some f.id:=by
 have h:l[k]? = some f:=hf;simp[NA,h]
theorem BX.step{r:Int}{k:Nat}(h:BX r l k)(hf:Hid (l[k]? = some f)):
  Ka r l none=(Zy f && ((Yo f.id == r) && ((match NA l k with|none=>true|some p=>decide (p<f.id)) && Ka r (l.drop (k+1)) (NA l (k+1))))):=by
 unfold BX at h;rw[h,QP hf,iM hf]
 rfl
theorem BX.done{r:Int}{k n:Nat}(h:BX r l k)(hl:Hid (l.length=n))(hk:¬ k<n):Hid (Ka r l none=true):=by
 unfold BX at h;rw[Hid,h,QK hl hk];rfl
theorem BX.no{r:Int}{X Y Z b:Bool}(h:Hid (Ka r l none=(X && (Y && (Z && b)))))(hx:X=false∨Y=false∨Z=false):Hid (Yg r l=false):=by
 rw[Hid,Yg,h.out];rcases hx with rfl|rfl|rfl<;>simp
theorem Zqa(h:Zy f=true):0<=f.id/\f.id<=99999:=by
 unfold Zy Mi at h;simp only[Zc]at h;exact Y8.1 h.1
set_option maxHeartbeats 8000000 in
theorem YP(r:Int)(A:Option Addr)(n c:Nat)(l:List A7)(w:World)(hn:n<=4194304)(hr:Cy w A n l)(hs:∀ f∈l,f.AL.size<=4194304/\f.Z00.size<=4194304):
  Calls prog 50 #[Xn r A n c] w fun e w'=>e=QM (Yg r l)/\Below w.heap.size w w':=by
 have hl:=hr.len;go_enter func50,ntmps50;by_cases x0:r<0
 .have E:Hid (Yg r l=false):=by
   have:Be r 0 2=false:=by
    have:¬(0<=r/\r<=2):=by omega
    simpa [Be]using this
   rw[Hid,Yg,this];rfl
  go_wp2;go_ret;exact⟨by rw[E.out];rfl,Ze (Below.refl _ _) _⟩
 by_cases x1:3<=r
 .have E:Hid (Yg r l=false):=by
   have:Be r 0 2=false:=by
    have:¬(0<=r/\r<=2):=by omega
    simpa [Be]using this
   rw[Hid,Yg,this];rfl
  go_wp2;go_ret;exact⟨by rw[E.out];rfl,Ze (Below.refl _ _) _⟩
 have X:Be r 0 2=true:=Y8.2 o_;by_cases y0:(n:Int)< 1
 .have E:Hid (Yg r l=false):=by
   have:Be l.length 1 4=false:=by
    have:¬(1<=(l.length:Int)/\(l.length:Int)<=4):=by rw[hl.out];omega
    simpa [Be]using this
   rw[Hid,Yg,this];simp
  have y2:n<1:=by omega
  clear X;go_wp2;go_ret;exact⟨by rw[E.out];rfl,Ze (Below.refl _ _) _⟩
 by_cases y1:4 <(n:Int)
 .have E:Hid (Yg r l=false):=by
   have:Be l.length 1 4=false:=by
    have:¬(1<=(l.length:Int)/\(l.length:Int)<=4):=by rw[hl.out];omega
    simpa [Be]using this
   rw[Hid,Yg,this];simp
  have y2:4<n:=by omega
  clear X;go_wp2;go_ret;exact⟨by rw[E.out];rfl,Ze (Below.refl _ _) _⟩
 have Y:Be l.length 1 4=true:=Y8.2 (by rw[hl.out];omega);have Il:Hid (Yg r l=Ka r l none):=by rw[Hid,Yg,X,Y];rfl
 clear X Y;have y2:¬ n<1:=by omega
 have y3:¬ 4<n:=by omega
 go_wp2;go_loopw [28,3] (fun i j wr=>∃ (k:Nat),k<=n/\i=.int .i64 k/\BX r l k/\Below w.heap.size w wr/\Below (w.heap.size+1) (w.alloc (.cells #[.int .i64 r,.slice A n c] 73)) wr) (fun i _ _=>n-(intOf i).toNat)
 case atStart=>exact⟨0,o_,rfl,rfl,Ze (Below.refl _ _) _,Below.refl _ _⟩
 case round =>
  obtain⟨k,hk,rfl,hi,hb,hbx⟩:=hrel;have kb:∀ o,wr.cell? ⟨w.heap.size,o,none⟩=(w.alloc (.cells #[.int .i64 r,.slice A n c] 73)).cell? ⟨w.heap.size,o,none⟩:=fun o=>hbx.cell (p:=⟨w.heap.size,o,none⟩) s_
  have b0:wr.cell? ⟨w.heap.size,0,none⟩=some (.int .i64 r):=by rw[kb];simp
  have b1:wr.cell? ⟨w.heap.size,1,none⟩=some (.slice A n c):=by rw[kb];simp
  clear kb;have hwl:w.heap.size<wr.heap.size:=Y6 b0;by_cases hlt:k<n
  .obtain⟨f,g,off,hf,rfl,g0,g1,g2,g3,g4,g5,g6,g7⟩:=Cy.at_ (hr.below hb) hlt;have hst:=hi.step hf;have hsz:=hs f (Z6 hf.out);generalize hv:Zy f=bv at hst;have HV:=Lib.hid hv;have HS:=Lib.hid hst;clear hv hst;cases bv
   .have hfin:=BX.no HS (.inl rfl);go_wp2_with fail;refine ZQ fun W hW=>?_
    have hwb:Below wr.heap.size wr W:=by rw[hW.out];exact Ze (Below.refl _ _) _
    have c0:=cell_regrown (show W.cell? ⟨wr.heap.size,0,none⟩=some (.int .i64 f.id)by rw[hW.out];simp);have c1:=cell_regrown (show W.cell? ⟨wr.heap.size,1,none⟩=some (.int .i64 f.kind)by rw[hW.out];simp);have c2:=cell_regrown (show W.cell? ⟨wr.heap.size,2,none⟩=some (.string f.AL)by rw[hW.out];simp);have c3:=cell_regrown (show W.cell? ⟨wr.heap.size,3,none⟩=some (.string f.Z00)by rw[hW.out];simp);have c4:=cell_regrown (show W.cell? ⟨wr.heap.size,4,none⟩=some (.int .i64 f.Af.turn)by rw[hW.out];simp);have c5:=cell_regrown (show W.cell? ⟨wr.heap.size,5,none⟩=some (.int .i64 f.Af.x)by rw[hW.out];simp);have c6:=cell_regrown (show W.cell? ⟨wr.heap.size,6,none⟩=some (.int .i64 f.Af.y)by rw[hW.out];simp);have c7:=cell_regrown (show W.cell? ⟨wr.heap.size,7,none⟩=some (.int .i64 f.Ao)by rw[hW.out];simp);have d0:=cell_regrown (Zm hwb b0);have d1:=cell_regrown (Zm hwb b1);have cV:∀ d os,Calls prog 66 #[Yx f.id f.kind f.AL f.Z00 f.Af.turn f.Af.x f.Af.y f.Ao] (Go.Sort.grow (redrawn W d) os) fun e w2=>e=.returned (.bool false)/\∃ p:Regrown,w2=Go.Sort.grow (redrawn W p.d) p.os:=fun d os=>Zx ((ZE f.id f.kind f.AL f.Z00 f.Af.turn f.Af.x f.Af.y f.Ao _ hsz.1 hsz.2).mono (fun _ _ h=>⟨h.1.trans (congrArg QM HV.out),h.2⟩))
    clear hW;refine wp_region_quiet_below BC BC ?_;repeat(go_big_quiet_step (first|exact cV _ _))
    refine wpQuiet_nil ?_;intro _ hw;obtain⟨⟨dq,osq⟩,hw⟩:=hw;subst hw;have hbq:=Zg hwb (below_regrown W dq osq);clear c0 c1 c2 c3 c4 c5 c6 c7 d0 d1 cV;go_wp2;go_ret;exact⟨by rw[hfin.out];rfl,Zg hb hbq⟩
   .obtain⟨Z3R,Z3S⟩:=Zqa HV.out;have Uq:MI f.id:=ZsQ o_;generalize hro:Yo f.id=ro at HS;have HR:=Lib.hid hro;clear hro;by_cases hre:ro=r
    .subst hre;by_cases hk0:k=0
     .have hkz:¬ 0<k:=by omega
      have hnx:BX ro l (k+1):=by
       have:=HS.out;subst hk0;simpa [BX,NA]using this
      clear hk0;go_wp2_with fail;refine ZQ fun W hW=>?_
      have hwb:Below wr.heap.size wr W:=by rw[hW.out];exact Ze (Below.refl _ _) _
      have c0:=cell_regrown (show W.cell? ⟨wr.heap.size,0,none⟩=some (.int .i64 f.id)by rw[hW.out];simp);have c1:=cell_regrown (show W.cell? ⟨wr.heap.size,1,none⟩=some (.int .i64 f.kind)by rw[hW.out];simp);have c2:=cell_regrown (show W.cell? ⟨wr.heap.size,2,none⟩=some (.string f.AL)by rw[hW.out];simp);have c3:=cell_regrown (show W.cell? ⟨wr.heap.size,3,none⟩=some (.string f.Z00)by rw[hW.out];simp);have c4:=cell_regrown (show W.cell? ⟨wr.heap.size,4,none⟩=some (.int .i64 f.Af.turn)by rw[hW.out];simp);have c5:=cell_regrown (show W.cell? ⟨wr.heap.size,5,none⟩=some (.int .i64 f.Af.x)by rw[hW.out];simp);have c6:=cell_regrown (show W.cell? ⟨wr.heap.size,6,none⟩=some (.int .i64 f.Af.y)by rw[hW.out];simp);have c7:=cell_regrown (show W.cell? ⟨wr.heap.size,7,none⟩=some (.int .i64 f.Ao)by rw[hW.out];simp);have d0:=cell_regrown (Zm hwb b0);have d1:=cell_regrown (Zm hwb b1);have cV:∀ d os,Calls prog 66 #[Yx f.id f.kind f.AL f.Z00 f.Af.turn f.Af.x f.Af.y f.Ao] (Go.Sort.grow (redrawn W d) os) fun e w2=>e=.returned (.bool true)/\∃ p:Regrown,w2=Go.Sort.grow (redrawn W p.d) p.os:=fun d os=>Zx ((ZE f.id f.kind f.AL f.Z00 f.Af.turn f.Af.x f.Af.y f.Ao _ hsz.1 hsz.2).mono (fun _ _ h=>⟨h.1.trans (congrArg QM HV.out),h.2⟩))
      have cR:∀ d os,Calls prog 24 #[.int .i64 f.id] (Go.Sort.grow (redrawn W d) os) fun e w2=>e=.returned (.int .i64 ro)/\∃ p:Regrown,w2=Go.Sort.grow (redrawn W p.d) p.os:=fun d os=>(X3 _ _ Uq).mono (by rw[HR.out];rintro e w2 ⟨rfl,rfl⟩;exact⟨rfl,⟨d,os⟩,rfl⟩)
      clear hW;refine wp_region_quiet_below BC BC ?_;repeat(go_big_quiet_step (first|exact cV _ _|exact cR _ _))
      refine wpQuiet_nil ?_;intro _ hw;obtain⟨⟨dq,osq⟩,hw⟩:=hw;subst hw;have hbq:=Zg hwb (below_regrown W dq osq);clear c0 c1 c2 c3 c4 c5 c6 c7 d0 d1 cV cR;go_wp2;exact⟨⟨k+1,o_,s_,hnx,Zg hb hbq,hbx.trans ⟨hbq.os,hbq.tape,hbq.output,hbq.size,fun k hk=>hbq.block k o_⟩⟩,by simp only[intOf];omega⟩
     .obtain⟨m,rfl⟩:∃ m,k=m+1:=⟨k-1,o_⟩;obtain⟨p,g',off',hp,hA,p0,-⟩:=Cy.at_ (hr.below hb) (show m<n by omega);obtain⟨rfl,rfl⟩:g=g'/\off=off':=by simpa using hA
      clear hA hk0;have hpe:=iM hp;by_cases Ey:p.id<f.id
      .have qG:¬ f.id<=p.id:=by omega
       have hnx:BX ro l (m+1+1):=by
        have:=HS.out;rw[hpe]at this;simpa [BX,Ey]using this
       clear Ey;go_wp2_with fail;refine ZQ fun W hW=>?_
       have hwb:Below wr.heap.size wr W:=by rw[hW.out];exact Ze (Below.refl _ _) _
       have c0:=cell_regrown (show W.cell? ⟨wr.heap.size,0,none⟩=some (.int .i64 f.id)by rw[hW.out];simp);have c1:=cell_regrown (show W.cell? ⟨wr.heap.size,1,none⟩=some (.int .i64 f.kind)by rw[hW.out];simp);have c2:=cell_regrown (show W.cell? ⟨wr.heap.size,2,none⟩=some (.string f.AL)by rw[hW.out];simp);have c3:=cell_regrown (show W.cell? ⟨wr.heap.size,3,none⟩=some (.string f.Z00)by rw[hW.out];simp);have c4:=cell_regrown (show W.cell? ⟨wr.heap.size,4,none⟩=some (.int .i64 f.Af.turn)by rw[hW.out];simp);have c5:=cell_regrown (show W.cell? ⟨wr.heap.size,5,none⟩=some (.int .i64 f.Af.x)by rw[hW.out];simp);have c6:=cell_regrown (show W.cell? ⟨wr.heap.size,6,none⟩=some (.int .i64 f.Af.y)by rw[hW.out];simp);have c7:=cell_regrown (show W.cell? ⟨wr.heap.size,7,none⟩=some (.int .i64 f.Ao)by rw[hW.out];simp);have d0:=cell_regrown (Zm hwb b0);have d1:=cell_regrown (Zm hwb b1);have cV:∀ d os,Calls prog 66 #[Yx f.id f.kind f.AL f.Z00 f.Af.turn f.Af.x f.Af.y f.Ao] (Go.Sort.grow (redrawn W d) os) fun e w2=>e=.returned (.bool true)/\∃ p:Regrown,w2=Go.Sort.grow (redrawn W p.d) p.os:=fun d os=>Zx ((ZE f.id f.kind f.AL f.Z00 f.Af.turn f.Af.x f.Af.y f.Ao _ hsz.1 hsz.2).mono (fun _ _ h=>⟨h.1.trans (congrArg QM HV.out),h.2⟩))
       have cR:∀ d os,Calls prog 24 #[.int .i64 f.id] (Go.Sort.grow (redrawn W d) os) fun e w2=>e=.returned (.int .i64 ro)/\∃ p:Regrown,w2=Go.Sort.grow (redrawn W p.d) p.os:=fun d os=>(X3 _ _ Uq).mono (by rw[HR.out];rintro e w2 ⟨rfl,rfl⟩;exact⟨rfl,⟨d,os⟩,rfl⟩)
       have e0:=cell_regrown (Zm hwb p0);clear hW;refine wp_region_quiet_below BC BC ?_;repeat(go_big_quiet_step (first|exact cV _ _|exact cR _ _))
       refine wpQuiet_nil ?_;intro _ hw;obtain⟨⟨dq,osq⟩,hw⟩:=hw;subst hw;have hbq:=Zg hwb (below_regrown W dq osq);clear c0 c1 c2 c3 c4 c5 c6 c7 d0 d1 cV cR;go_wp2;exact⟨⟨m+1+1,o_,s_,hnx,Zg hb hbq,hbx.trans ⟨hbq.os,hbq.tape,hbq.output,hbq.size,fun k hk=>hbq.block k o_⟩⟩,by simp only[intOf];omega⟩
      .have qG:f.id<=p.id:=by omega
       have hfin:Hid (Yg ro l=false):=BX.no HS (.inr (.inr (by rw[hpe];simpa using Ey)));clear Ey;go_wp2_with fail;refine ZQ fun W hW=>?_
       have hwb:Below wr.heap.size wr W:=by rw[hW.out];exact Ze (Below.refl _ _) _
       have c0:=cell_regrown (show W.cell? ⟨wr.heap.size,0,none⟩=some (.int .i64 f.id)by rw[hW.out];simp);have c1:=cell_regrown (show W.cell? ⟨wr.heap.size,1,none⟩=some (.int .i64 f.kind)by rw[hW.out];simp);have c2:=cell_regrown (show W.cell? ⟨wr.heap.size,2,none⟩=some (.string f.AL)by rw[hW.out];simp);have c3:=cell_regrown (show W.cell? ⟨wr.heap.size,3,none⟩=some (.string f.Z00)by rw[hW.out];simp);have c4:=cell_regrown (show W.cell? ⟨wr.heap.size,4,none⟩=some (.int .i64 f.Af.turn)by rw[hW.out];simp);have c5:=cell_regrown (show W.cell? ⟨wr.heap.size,5,none⟩=some (.int .i64 f.Af.x)by rw[hW.out];simp);have c6:=cell_regrown (show W.cell? ⟨wr.heap.size,6,none⟩=some (.int .i64 f.Af.y)by rw[hW.out];simp);have c7:=cell_regrown (show W.cell? ⟨wr.heap.size,7,none⟩=some (.int .i64 f.Ao)by rw[hW.out];simp);have d0:=cell_regrown (Zm hwb b0);have d1:=cell_regrown (Zm hwb b1);have cV:∀ d os,Calls prog 66 #[Yx f.id f.kind f.AL f.Z00 f.Af.turn f.Af.x f.Af.y f.Ao] (Go.Sort.grow (redrawn W d) os) fun e w2=>e=.returned (.bool true)/\∃ p:Regrown,w2=Go.Sort.grow (redrawn W p.d) p.os:=fun d os=>Zx ((ZE f.id f.kind f.AL f.Z00 f.Af.turn f.Af.x f.Af.y f.Ao _ hsz.1 hsz.2).mono (fun _ _ h=>⟨h.1.trans (congrArg QM HV.out),h.2⟩))
       have cR:∀ d os,Calls prog 24 #[.int .i64 f.id] (Go.Sort.grow (redrawn W d) os) fun e w2=>e=.returned (.int .i64 ro)/\∃ p:Regrown,w2=Go.Sort.grow (redrawn W p.d) p.os:=fun d os=>(X3 _ _ Uq).mono (by rw[HR.out];rintro e w2 ⟨rfl,rfl⟩;exact⟨rfl,⟨d,os⟩,rfl⟩)
       have e0:=cell_regrown (Zm hwb p0);clear hW;refine wp_region_quiet_below BC BC ?_;repeat(go_big_quiet_step (first|exact cV _ _|exact cR _ _))
       refine wpQuiet_nil ?_;intro _ hw;obtain⟨⟨dq,osq⟩,hw⟩:=hw;subst hw;have hbq:=Zg hwb (below_regrown W dq osq);clear c0 c1 c2 c3 c4 c5 c6 c7 d0 d1 cV cR;go_wp2;go_ret;exact⟨by rw[hfin.out];rfl,Zg hb hbq⟩
    .have hfin:Hid (Yg r l=false):=BX.no HS (.inr (.inl (by simpa using hre)));have hrn:(ro != r)=true:=by simpa using hre
     go_wp2_with fail;refine ZQ fun W hW=>?_
     have hwb:Below wr.heap.size wr W:=by rw[hW.out];exact Ze (Below.refl _ _) _
     have c0:=cell_regrown (show W.cell? ⟨wr.heap.size,0,none⟩=some (.int .i64 f.id)by rw[hW.out];simp);have c1:=cell_regrown (show W.cell? ⟨wr.heap.size,1,none⟩=some (.int .i64 f.kind)by rw[hW.out];simp);have c2:=cell_regrown (show W.cell? ⟨wr.heap.size,2,none⟩=some (.string f.AL)by rw[hW.out];simp);have c3:=cell_regrown (show W.cell? ⟨wr.heap.size,3,none⟩=some (.string f.Z00)by rw[hW.out];simp);have c4:=cell_regrown (show W.cell? ⟨wr.heap.size,4,none⟩=some (.int .i64 f.Af.turn)by rw[hW.out];simp);have c5:=cell_regrown (show W.cell? ⟨wr.heap.size,5,none⟩=some (.int .i64 f.Af.x)by rw[hW.out];simp);have c6:=cell_regrown (show W.cell? ⟨wr.heap.size,6,none⟩=some (.int .i64 f.Af.y)by rw[hW.out];simp);have c7:=cell_regrown (show W.cell? ⟨wr.heap.size,7,none⟩=some (.int .i64 f.Ao)by rw[hW.out];simp);have d0:=cell_regrown (Zm hwb b0);have d1:=cell_regrown (Zm hwb b1);have cV:∀ d os,Calls prog 66 #[Yx f.id f.kind f.AL f.Z00 f.Af.turn f.Af.x f.Af.y f.Ao] (Go.Sort.grow (redrawn W d) os) fun e w2=>e=.returned (.bool true)/\∃ p:Regrown,w2=Go.Sort.grow (redrawn W p.d) p.os:=fun d os=>Zx ((ZE f.id f.kind f.AL f.Z00 f.Af.turn f.Af.x f.Af.y f.Ao _ hsz.1 hsz.2).mono (fun _ _ h=>⟨h.1.trans (congrArg QM HV.out),h.2⟩))
     have cR:∀ d os,Calls prog 24 #[.int .i64 f.id] (Go.Sort.grow (redrawn W d) os) fun e w2=>e=.returned (.int .i64 ro)/\∃ p:Regrown,w2=Go.Sort.grow (redrawn W p.d) p.os:=fun d os=>(X3 _ _ Uq).mono (by rw[HR.out];rintro e w2 ⟨rfl,rfl⟩;exact⟨rfl,⟨d,os⟩,rfl⟩)
     clear hW;refine wp_region_quiet_below BC BC ?_;repeat(go_big_quiet_step (first|exact cV _ _|exact cR _ _))
     refine wpQuiet_nil ?_;intro _ hw;obtain⟨⟨dq,osq⟩,hw⟩:=hw;subst hw;have hbq:=Zg hwb (below_regrown W dq osq);clear c0 c1 c2 c3 c4 c5 c6 c7 d0 d1 cV cR;go_wp2;go_ret;exact⟨by rw[hfin.out];rfl,Zg hb hbq⟩
  .have hd:=hi.done hl hlt;have E:Hid (Yg r l=true):=by rw[Hid,Il.out,hd.out]
   go_wp2;go_ret;exact⟨by rw[E.out];rfl,hb⟩
structure Br where
 AU:Int
 Ab:List A7
structure Chan where
 queue:List ByteArray
 base:Int
 expected:Int
 inbox:List ByteArray
 net:List Ae
 Ai:List Ae
structure Am where
 Ab:List A7
 Av:ByteArray
structure Ak where
 Ad:List Am
 channels:List (List Chan)
def JW:List A7->Option Int->Bool
 |[],_=>true
 |f::l,prev=>Zy f && ((match prev with|none=>true|some p=>decide (p<f.id)) && JW l (some f.id))
def JX(acc:List ByteArray)(s:ByteArray):List ByteArray:=if s.toList.isEmpty || Q3 acc s then acc else acc++[s]
def QT(acc:List ByteArray)(f:A7):List ByteArray:=JX (JX acc f.AL) f.Z00
def Yk(l:List A7):List ByteArray:=l.foldl QT []
def YW(l:List A7):Bool:=decide (l.length<=40) && (JW l none && decide ((Yk l).length<10))
def below(f:A7)(g:A7):Bool:=decide (g.id<f.id)
def JN(l:List A7)(f:A7):Nat:=(l.takeWhile (below f)).length
def J0(l:List A7)(f:A7):List A7:=l.take (JN l f)++(f::l.drop (JN l f))
def Qt(l:List A7)(f:A7):List A7×Bool:=if YW l && YW (J0 l f)then (J0 l f,true)else (l,false)
def ZoF(l:List A7)(id:Int):List A7×Bool:=if YW l && XL l id then (l.filter (fun f=>f.id != id),true)else (l,false)

theorem qH:∀ {l:List A7} {p:Int},JW l (some p)=true->∀ g∈l,p<g.id
 |f::l,p,h,g,hg=>by
  simp only[JW,Zc,decide_eq_true_eq]at h
  rcases Zn.1 hg with rfl|hg
  .exact h.2.1
  .have:=qH h.2.2 g hg;omega
theorem Z8Q:∀ {l m:List A7} {p:Option Int},JW (l++m) p=true->JW l p=true
 |[],_,_,_=>rfl
 |f::l,m,p,h=>by
  simp only[List.cons_append,JW,Zc]at h ⊢
  exact⟨h.1,h.2.1,Z8Q h.2.2⟩
theorem Zme(f:A7):J0 [] f=[f]:=rfl
theorem qI{g:A7}(h:g.id<f.id):J0 (g::l) f=g::J0 l f:=by
 have:below f g=true:=by simp[below,h]
 unfold J0 JN;rw[List.takeWhile_cons_of_pos this]
 rfl
theorem Z6b{g:A7}(h:¬ g.id<f.id):J0 (g::l) f=f::g::l:=by
 have:¬ below f g=true:=by simp[below,h]
 unfold J0 JN;rw[List.takeWhile_cons_of_neg this]
 rfl
theorem qJ(l:List A7)(f:A7):(J0 l f).length=l.length+1:=by
 have h:JN l f<=l.length:=by unfold JN;exact(List.takeWhile_prefix _).length_le
 unfold J0;simp only[List.length_append,List.length_take,List.length_cons,List.length_drop];omega
theorem Zgi:∀ {l:List A7} {f:A7} {p:Option Int},JW l p=true->XL l f.id=true->JW (J0 l f) p=false
 |[],f,p,_,h=>by simp[XL]at h
 |g::l,f,p,ha,hh=>by
  simp only[JW,Zc]at ha
  by_cases hlt:g.id<f.id
  .rw[qI hlt]
   have hh2:XL l f.id=true:=by
    simp only[XL,List.any_cons,Bool.or_eq_true]at hh;rcases hh with h1|h1
    .simp at h1;omega
    .exact h1
   have:=Zgi ha.2.2 hh2;simp[JW,this]
  .rw[Z6b hlt]
   have hge:¬ f.id<g.id:=by
    intro hc;simp only[XL,List.any_cons,Bool.or_eq_true]at hh;rcases hh with h1|h1
    .simp at h1;omega
    .obtain⟨y,hy,he⟩:=List.any_eq_true.1 h1;have:=qH ha.2.2 y hy;simp at he;omega
   simp[JW,hge]
theorem RY(h:YW l=true):JW l none=true:=by simp only[YW,Zc]at h;exact h.2.1
theorem Qo(h:YW l=true):l.length<=40:=by simp only[YW,Zc,decide_eq_true_eq]at h;exact h.1
theorem Zmd(h:YW l=true)(hh:XL l f.id=true):YW (J0 l f)=false:=by
 simp[YW,Zgi (RY h) hh]
theorem ZpT(h:YW l=false):Qt l f=(l,false):=by simp[Qt,h]
theorem qK(h:YW l=true)(hh:XL l f.id=true):Qt l f=(l,false):=by simp[Qt,Zmd h hh]
theorem Ur(h:YW l=true)(hh:YW (J0 l f)=true):Qt l f=(J0 l f,true):=by simp[Qt,h,hh]
theorem Us(hh:YW (J0 l f)=false):Qt l f=(l,false):=by simp[Qt,hh]

def Yr(s:List A7×List A7)(f:A7):List A7×List A7:=if (Qt s.1 f).2 then ((Qt s.1 f).1,s.2++[f])else s
def Qb(l:List A7)(r:Int)(m:List A7):List A7×List A7:=if YW l && Yg r m then m.foldl Yr (l,[])else (l,[])
def YQ(c:Chan):Bool:=c.queue.all (fun s=>decide (s.size<=300)) && (decide (c.queue.length<=8) && (Be c.base 0 1000000 && (Be c.expected c.base (c.base+c.queue.length) && (decide (c.net.length<=12) && decide (c.Ai.length<=12)))))
def YG(t:Ak):Bool:=Be t.Ad.length 1 3 && (decide (t.channels.length=t.Ad.length) && ((t.Ad.all fun r=>YW r.Ab) && (t.channels.all fun row=>decide (row.length=t.Ad.length) && row.all YQ)))
def Js(t:Ak):Bool:=YG t && t.Ad.all fun r=>match t.Ad with |[]=>true|r0::_=>Gc r.Ab r0.Ab
def Mj(l m:List A7):List A7:=m.foldl (fun l f=>(Qt l f).1) l
def Oe(t:Ak):List A7:=if YG t then t.Ad.foldl (fun l r=>Mj l r.Ab) []else []

theorem Z9p(l m:List A7):Yk (l++m)=m.foldl QT (Yk l):=by simp[Yk,List.foldl_append]
theorem Zdp(acc:List ByteArray)(s:ByteArray):acc.length<=(JX acc s).length:=by unfold JX;split<;>simp
theorem Zhh(acc:List ByteArray)(f:A7):acc.length<=(QT acc f).length:=Zj (Zdp _ _) (Zdp _ _)
theorem Z9Z:∀ (m:List A7) (acc:List ByteArray),acc.length<=(m.foldl QT acc).length
 |[],_=>Nat.le_refl _
 |f::m,acc=>Zj (Zhh acc f) (Z9Z m _)
theorem Z8q{m:List A7}(h:YW (l++m)=true):YW l=true:=by
 simp only[YW,Zc,decide_eq_true_eq,List.length_append]at h ⊢;refine⟨o_,Z8Q h.2.1,?_⟩;have h3:=h.2.2;rw[Z9p]at h3;exact Nat.lt_of_le_of_lt (Z9Z m _) h3
theorem ZfR:∀ {l:List A7} {f:A7} {p:Option Int} {m:List A7},JW (l++f::m) p=true->J0 l f=l++[f]
 |[],_,_,_,_=>rfl
 |g::l,f,p,m,h=>by
  simp only[List.cons_append,JW,Zc]at h
  have hlt:g.id<f.id:=qH h.2.2 f s_
  rw[qI hlt,ZfR h.2.2]
  rfl
theorem Z8T:∀ (m l:List A7),YW (l++m)=true->Mj l m=l++m
 |[],l,_=>by simp[Mj]
 |f::m,l,h=>by
  have hi:=ZfR (RY h)
  have h1:YW (l++[f])=true:=Z8q (m:=m) (by simpa using h)
  have h2:Qt l f=(l++[f],true):=by rw[Ur (Z8q h) (by rw[hi];exact h1),hi]
  have:=Z8T m (l++[f]) (by simpa using h)
  unfold Mj at this ⊢
  rw[List.foldl_cons,h2]
  simpa using this
theorem ZhP{m:List A7}(h:YW m=true):Mj [] m=m:=by simpa using Z8T m [] (by simpa using h)
theorem Z64{t:Ak}{r:Am}{rs:List Am}(h:YG t=true)(hr:t.Ad=r::rs):Oe t=rs.foldl (fun l r=>Mj l r.Ab) r.Ab:=by
 have h1:YW r.Ab=true:=by
  simp only[YG,Zc,hr,List.all_cons]at h;exact h.2.2.1.1
 simp[Oe,h,hr,ZhP h1]
theorem Ut{α:Type}[DecidableEq α]:∀ {a b:List α},a.Nodup->(∀ x∈a,x∈b)->a.length<=b.length
 |[],_,_,_=>Nat.zero_le _
 |x::a,b,hn,hs=>by
  have hx:x∈b:=hs x s_
  have hn':=List.nodup_cons.1 hn
  have h1:=Ut (a:=a) (b:=b.erase x) hn'.2 (fun y hy=>(List.mem_erase_of_ne (fun e:y=x=>hn'.1 (by rw[<- e];exact hy))).2 (hs y (by simp[hy])))
  rw[List.length_erase_of_mem hx]at h1
  have h2:=List.length_pos_of_mem hx
  simp only[List.length_cons];omega
def Gd(acc:List ByteArray):List (List UInt8):=acc.map ByteArray.toList
theorem ZfJ(acc:List ByteArray)(s:ByteArray):Q3 acc s=true↔s.toList∈Gd acc:=by
 unfold Q3 Gd;simp only[List.any_eq_true,beq_iff_eq,List.mem_map]
theorem ZfK(acc:List ByteArray)(s:ByteArray)(hn:(Gd acc).Nodup):(Gd (JX acc s)).Nodup/\∀ k,k∈Gd (JX acc s)↔(k∈Gd acc∨(k≠[]/\k=s.toList)):=by
 unfold JX;split
 .rename_i h;refine⟨hn,fun k=>⟨.inl,fun hk=>?_⟩⟩;rcases hk with hk |⟨h1,rfl⟩
  .exact hk
  .simp only[Bool.or_eq_true,List.isEmpty_iff]at h;rcases h with h|h
   .exact absurd h h1
   .exact(ZfJ acc s).1 h
 .rename_i h;simp only[Bool.or_eq_true,List.isEmpty_iff,not_or]at h;have hs:s.toList ∉ Gd acc:=fun hm=>h.2 ((ZfJ acc s).2 hm)
  have e:Gd (acc++[s])=Gd acc++[s.toList]:=by simp[Gd]
  rw[e];refine⟨ZA.2 ⟨hn,s_,fun a ha b hb=>by simp at hb;subst hb;exact fun e=>hs (e▸ha)⟩,fun k=>?_⟩;simp only[Z9,List.mem_singleton];constructor
  .rintro(hk|rfl)
   .exact .inl hk
   .exact .inr ⟨h.1,rfl⟩
  .rintro(hk |⟨_,rfl⟩)
   .exact .inl hk
   .exact .inr rfl
theorem Za9:∀ (l:List A7) (acc:List ByteArray),(Gd acc).Nodup->(Gd (l.foldl QT acc)).Nodup/\∀ k,k∈Gd (l.foldl QT acc)↔(k∈Gd acc∨(k≠[]/\∃ f∈l,k=f.AL.toList∨k=f.Z00.toList))
 |[],acc,hn=>⟨hn,fun k=>by simp⟩
 |f::l,acc,hn=>by
  have h1:=ZfK acc f.AL hn
  have h2:=ZfK (JX acc f.AL) f.Z00 h1.1
  have h3:=Za9 l (QT acc f) h2.1
  refine⟨h3.1,fun k=>?_⟩
  rw[List.foldl_cons,h3.2]
  unfold QT
  rw[h2.2,h1.2]
  simp only[Zn,exists_eq_or_imp]
  constructor
  .rintro(((h |⟨h,h'⟩)|⟨h,h'⟩)|⟨h,h'⟩)
   .exact .inl h
   .exact .inr ⟨h,.inl (.inl h')⟩
   .exact .inr ⟨h,.inl (.inr h')⟩
   .exact .inr ⟨h,.inr h'⟩
  .rintro(h |⟨h,(h'|h')| h'⟩)
   .exact .inl (.inl (.inl h))
   .exact .inl (.inl (.inr ⟨h,h'⟩))
   .exact .inl (.inr ⟨h,h'⟩)
   .exact .inr ⟨h,h'⟩
theorem VM(l:List A7):(Gd (Yk l)).Nodup/\∀ k,k∈Gd (Yk l)↔(k≠[]/\∃ f∈l,k=f.AL.toList∨k=f.Z00.toList):=by
 have h:=Za9 l [] (by simp[Gd]);refine⟨h.1,fun k=>?_⟩;unfold Yk;rw[h.2];simp[Gd]
theorem qL(acc:List ByteArray):(Gd acc).length=acc.length:=by simp[Gd]
theorem ZlZ{S:List (List UInt8)}(h:∀ f∈l,(f.AL.toList=[]∨f.AL.toList∈S)/\(f.Z00.toList=[]∨f.Z00.toList∈S)):(Yk l).length<=S.length:=by
 rw[<- qL];refine Ut (VM l).1 fun k hk=>?_
 obtain⟨h0,f,hf,hk⟩:=((VM l).2 k).1 hk;rcases hk with rfl|rfl
 .exact(h f hf).1.resolve_left h0
 .exact(h f hf).2.resolve_left h0
theorem ZcL{m:List A7}(h:∀ f∈l,f∈m):(Yk l).length<=(Yk m).length:=by
 rw[<- qL,<- qL];refine Ut (VM l).1 fun k hk=>?_
 obtain⟨h0,f,hf,hk⟩:=((VM l).2 k).1 hk;exact((VM m).2 k).2 ⟨h0,f,h f hf,hk⟩
theorem Jr{g:A7}  :g∈J0 l f↔g=f∨g∈l:=by
 unfold J0;rw[Z9,Zn];constructor
 .rintro(h|h|h)
  .exact .inr (List.mem_of_mem_take h)
  .exact .inl h
  .exact .inr (List.mem_of_mem_drop h)
 .rintro(h|h)
  .exact .inr (.inl h)
  .rw[<- List.take_append_drop (JN l f) l]at h;rcases Z9.1 h with h|h
   .exact .inl h
   .exact .inr (.inr h)
def ZrN(p:Option Int)(x:Int):Bool:=match p with|none=>true|some q=>decide (q<x)
theorem Z8P:∀ {l:List A7} {f:A7} {p:Option Int},JW l p=true->Zy f=true->XL l f.id=false->ZrN p f.id=true->JW (J0 l f) p=true
 |[],f,p,_,hv,_,hp=>by
  rw[Zme]
  simp only[JW,hv,Bool.true_and,Bool.and_true]
  exact hp
 |g::l,f,p,ha,hv,hh,hp=>by
  have hh':(g.id == f.id)=false/\XL l f.id=false:=by
   unfold XL at hh ⊢;simpa using hh
  have hne:g.id≠f.id:=by simpa using hh'.1
  simp only[JW,Zc]at ha;obtain⟨a1,a2,a3⟩:=ha;by_cases hlt:g.id<f.id
  .rw[qI hlt];simp only[JW,Zc];exact⟨a1,a2,Z8P a3 hv hh'.2 (by simpa [ZrN]using hlt)⟩
  .rw[Z6b hlt];simp only[JW,Zc];exact⟨hv,hp,a1,AR,a3⟩
theorem Uu{id:Int}  :XL l id=true ↔ ∃ f∈l,f.id=id:=by
 unfold XL;simp only[List.any_eq_true,beq_iff_eq]
theorem qM(h:YW l=true)(hv:Zy f=true):(Qt l f).2=false ↔(XL l f.id=true∨40<=l.length∨10<=(Yk (J0 l f)).length):=by
 constructor
 .intro hr;cases hh:XL l f.id with
  |true=>exact .inl rfl
  |false =>
   refine .inr ?_;have ha:=Z8P (RY h) hv hh rfl
   have hn:YW (J0 l f)=false:=by
    cases hc:YW (J0 l f)with
    |false=>rfl
    |true=>rw[Ur h hc]at hr;cases hr
   unfold YW at hn;rw[ha,qJ]at hn;simp only[Bool.true_and,Bool.and_eq_false_iff,decide_eq_false_iff_not]at hn;omega
 .rintro(hh|hh|hh)
  .rw[qK h hh]
  .rw[Us];unfold YW;rw[qJ];simp only[Bool.and_eq_false_iff,decide_eq_false_iff_not];exact .inl o_
  .rw[Us];unfold YW;simp only[Bool.and_eq_false_iff,decide_eq_false_iff_not];exact .inr (.inr o_)
theorem iN(h:(Qt l f).2=true):(Qt l f).1=J0 l f/\YW (J0 l f)=true/\YW l=true:=by
 unfold Qt at h ⊢;split
 .rename_i hc;simp only[Zc]at hc;exact⟨rfl,hc.2,hc.1⟩
 .rename_i hc;rw[if_neg hc]at h;cases h
section
structure Sv where
 A:Option Addr
 n:Nat
 c:Nat
def AQ(A:Option Addr):List Nat:=(ob A).toList
theorem ZR{A:Option Addr}{k:Nat}  :k∈AQ A↔ob A=some k:=by
 unfold AQ;cases ob A<;>simp[eq_comm]
structure Aw(fs:List Nat)(w w':World):Prop where
 os:w'.os=w.os
 tape:w'.tape=w.tape
 output:w'.output=w.output
 size:w.heap.size<=w'.heap.size
 block:∀ k,k<w.heap.size->k ∉ fs->w'.heap[k]? = w.heap[k]?
theorem Aw.refl(fs:List Nat)(w:World):Aw fs w w:=⟨rfl,rfl,rfl,Nat.le_refl _,fun _ _ _=>rfl⟩
theorem Aw.trans{a b c:World}(h:Aw fs a b)(k:Aw fs b c):Aw fs a c :=
 ⟨k.os.trans h.os,k.tape.trans h.tape,k.output.trans h.output,Zj h.size k.size,fun i hi hn=>(k.block i (Zf hi h.size) hn).trans (h.block i hi hn)⟩
theorem Aw.mono{fs':List Nat}{a b:World}(h:Aw fs a b)(hs:∀ k∈fs,k∈fs'):Aw fs' a b :=
 ⟨h.os,h.tape,h.output,h.size,fun i hi hn=>h.block i hi (fun hm=>hn (hs i hm))⟩
theorem Q9{a b:World}(h:Below a.heap.size a b):Aw fs a b :=
 ⟨h.os,h.tape,h.output,h.size,fun i hi _=>h.block i hi⟩
theorem Z6k{a b:World}{row:Option Nat}(h:a.grownBy b row)(hr:∀ k,row=some k->k∈fs):Aw fs a b :=
 ⟨h.os,h.tape,h.output,h.size,fun i hi hn=>h.block i hi (fun e=>hn (hr i e.symm))⟩
theorem Aw.CK{a b c:World}(h:Aw fs a b)(k:Below b.heap.size b c):Aw fs a c:=h.trans (Q9 k)
theorem Aw.DW{a b:World}(h:Aw fs a b):Aw fs a b.drew:=⟨h.os,h.tape,h.output,h.size,h.block⟩
theorem Aw.AA{a w:World}(h:Aw fs a w)(hp:p.block∈fs)(u:Value):Aw fs a (w.setCell p u):=
 ⟨h.os,h.tape,h.output,by simpa [World.setCell]using h.size,fun k hk hn=>(Below.heap_setCell _ _ _ _ (fun e=>hn (by rw[e];exact hp))).trans (h.block k hk hn)⟩
theorem Cs{w:World}(h:Aw fs w w':=by repeat(first|with_reducible exact Aw.refl _ _|with_reducible refine Aw.AA ?_ s_ _)):Aw fs w w':=h
theorem Aw.F4{a w:World}(h:Aw fs a w)(hp:a.heap.size<=p.block)(u:Value):Aw fs a (w.setCell p u):=
 ⟨h.os,h.tape,h.output,by simpa [World.setCell]using h.size,fun k hk hn=>(Below.heap_setCell _ _ _ _ o_).trans (h.block k hk hn)⟩
theorem Aw.Aj{a w:World}(h:Aw fs a w)(o:Obj):Aw fs a (w.alloc o):=h.CK (Ze (Below.refl _ _) o)
theorem Aw.apart{e sz n c:Nat}{w:World}{A:Option Addr}{css:List (List Value)}(h:Own w B e sz A n c css)(hf:∀ k∈fs,k<B):∀ k∈AQ A,k ∉ fs :=
 fun k hk hm=>by have:=(h.lt k (ZR.1 hk)).1;have:=hf k hm;omega
theorem Dq{a w:World}(h:Below a.heap.size a w)(hu:Aw fs w w')(hf:∀ k∈fs,a.heap.size<=k):Below a.heap.size a w' :=
 h.trans ⟨hu.os,hu.tape,hu.output,hu.size,fun k hk=>hu.block k (Zf hk h.size) (fun hm=>by have:=hf k hm;omega)⟩

structure Ag(B:Nat)(w:World)(fs:List Nat):Prop where
 nodup:fs.Nodup
 lo:∀ g∈fs,B<=g
 hi:∀ g∈fs,g<w.heap.size
theorem Ag.grow{w:World}(h:Ag B w fs)(hs:w.heap.size<=w'.heap.size):Ag B w' fs:=⟨h.nodup,h.lo,fun g hg=>Zf (h.hi g hg) hs⟩
theorem Ag.Ay{w:World}(h:Ag B w fs)(hb:B'<=B):Ag B' w fs:=⟨h.nodup,fun g hg=>Zj hb (h.lo g hg),h.hi⟩
theorem Ag.nil(B:Nat)(w:World):Ag B w []:=⟨List.nodup_nil,s_,s_⟩
theorem Ag.append{w:World}(h:Ag B w fs)(k:Ag B2 w gs)(hb:B<=B2)(hf:∀ g∈fs,g<B2):Ag B w (fs++gs):=
  ⟨ZA.2 ⟨h.nodup,k.nodup,fun a ha b hb' e=>by subst e;have:=hf a ha;have:=k.lo a hb';omega⟩,
   fun g hg=>by rcases Z9.1 hg with h1|h1;exact h.lo g h1;exact Zj hb (k.lo g h1),
   fun g hg=>by rcases Z9.1 hg with h1|h1;exact h.hi g h1;exact k.hi g h1⟩
theorem Ag.Mk{w wF:World}(h:Ag B w fs)(k:Ag B2 wF gs)(h1:B<=B2)(h2:w.heap.size<=B2)(h3:w.heap.size<=wF.heap.size):Ag B wF (fs++gs):=
 (h.grow h3).append k h1 fun g hg=>Zf (h.hi g hg) h2
theorem Ag.left{w:World}(h:Ag B w (fs++gs)):Ag B w fs :=
 ⟨(ZA.1 h.nodup).1,fun g hg=>h.lo g (Z9.2 (.inl hg)),fun g hg=>h.hi g (Z9.2 (.inl hg))⟩
theorem Ag.right{w:World}(h:Ag B w (fs++gs)):Ag B w gs :=
 ⟨(ZA.1 h.nodup).2.1,fun g hg=>h.lo g (Z9.2 (.inr hg)),fun g hg=>h.hi g (Z9.2 (.inr hg))⟩
theorem Ag.apart{w:World}(h:Ag B w (fs++gs)):∀ k∈fs,k ∉ gs:=fun k hk hk2=>(ZA.1 h.nodup).2.2 k hk k hk2 rfl
theorem YC{e sz n c:Nat}{w:World}{A:Option Addr}{css:List (List Value)}(h:Own w B e sz A n c css):Ag B w (AQ A):=
 ⟨by unfold AQ;cases ob A<;>simp,fun g hg=>(h.lt g (ZR.1 hg)).1,fun g hg=>(h.lt g (ZR.1 hg)).2⟩
theorem Own.upd{e sz n c:Nat}{w:World}{A:Option Addr}{css:List (List Value)}(h:Own w B e sz A n c css)(hu:Aw fs w w')(hd:∀ k∈AQ A,k ∉ fs):Own w' B e sz A n c css :=
 h.keep fun g hg=>hu.block g (h.lt g hg).2 (hd g (ZR.2 hg))
theorem Own.zero{e sz n c:Nat}{w:World}{A:Option Addr}{css:List (List Value)}(h:Own w B e sz A n c css):Own w 0 e sz A n c css:=h.Ay (Nat.zero_le _)
theorem Own.from_{e sz n c:Nat}{w:World}{A:Option Addr}{css:List (List Value)}(h:Own w B e sz A n c css)(hb:∀ g∈AQ A,B'<=g):Own w B' e sz A n c css:=by
 refine⟨⟨h.own.1,?_⟩,h.len,h.each⟩;rcases h.own.2 with hn |⟨g,cap,cur,hv,_,r⟩
 .exact .inl hn
 .refine .inr ⟨g,cap,cur,hv,hb g ?_,r⟩;simp only[Value.slice.injEq]at hv;rw[hv.1];simp[AQ,ob]

theorem Ml{w:World}{row:Option Nat}(hg:w.grownBy w' row)(b:Nat)(hb:b<w.heap.size)(hne:∀ k,row=some k->k≠b):∀ o,w'.cell? ⟨b,o,none⟩=w.cell? ⟨b,o,none⟩:=
 fun o=>World.cell?_of_block (a:=⟨b,o,none⟩) (hg.block b hb (fun e=>hne b e.symm rfl))
theorem F5{w:World}(hg:Aw fs w w')(b:Nat)(hb:b<w.heap.size)(hne:b ∉ fs):∀ o,w'.cell? ⟨b,o,none⟩=w.cell? ⟨b,o,none⟩:=
 fun o=>World.cell?_of_block (a:=⟨b,o,none⟩) (hg.block b hb hne)
theorem NB{w:World}(hg:Aw fs w w')(b:Nat)(hb:b<w.heap.size)(hne:b ∉ fs):∀ o,w'.frozen? ⟨b,o,none⟩=w.frozen? ⟨b,o,none⟩:=
 fun o=>World.frozen?_of_block (a:=⟨b,o,none⟩) (hg.block b hb hne)
theorem XV{A:Option Addr}{a b:World}(h:a.grownBy b (ob A)):Aw (AQ A) a b:=Z6k h fun k hk=>ZR.2 hk
theorem Yh(w:World)(t:TypeId)(cs:List Value)(sz a:Nat)(h:a=w.heap.size):Row (w.alloc (.cells cs.toArray t)) (some ⟨a,0,none⟩) 1 sz [cs]:=by subst h;exact Znd w t cs sz
variable{α:Type}
def Each(K:List Nat->List Value->α->Prop):List (List Nat)->List (List Value)->List α->Prop
 |[],[],[]=>True
 |f::fs,c::cs,x::xs=>K f c x/\Each K fs cs xs
 |_,_,_=>False
theorem Each.lens{K:List Nat->List Value->α->Prop}:∀ {Bb:List (List Nat)} {css:List (List Value)} {l:List α},Each K Bb css l->Bb.length=l.length/\css.length=l.length
 |[],[],[],_=>⟨rfl,rfl⟩
 |_::_,_::_,_::_,h=>by have:=Each.lens h.2;simp[this.1,this.2]
theorem Each.at_{K:List Nat->List Value->α->Prop}:∀ {Bb:List (List Nat)} {css:List (List Value)} {l:List α} {i:Nat} {x:α},Each K Bb css l->l[i]? = some x->∃ f cs,Bb[i]? = some f/\css[i]? = some cs/\K f cs x
 |[],[],[],_,_,_,hx=>by simp at hx
 |f::_,c::_,y::_,0,x,h,hx=>by simp only[Zw,Zi]at hx;subst hx;exact⟨f,c,rfl,rfl,h.1⟩
 |_::_,_::_,_::_,i+1,x,h,hx=>by
  simp only[ZD]at hx
  obtain⟨f,cs,h1,h2,h3⟩:=Each.at_ h.2 hx
  exact⟨f,cs,by simpa using h1,by simpa using h2,h3⟩
theorem Each.imp{K K':List Nat->List Value->α->Prop}:∀ {Bb:List (List Nat)} {css:List (List Value)} {l:List α},Each K Bb css l->(∀ (i:Nat) (f:List Nat) (cs:List Value) (x:α),Bb[i]? = some f->css[i]? = some cs->l[i]? = some x->K f cs x->K' f cs x)->Each K' Bb css l
 |[],[],[],_,_=>trivial
 |f::_,c::_,y::_,h,hk=>⟨hk 0 f c y rfl rfl rfl h.1,Each.imp h.2 fun i f cs x h1 h2 h3=>hk (i+1) f cs x (by simpa using h1) (by simpa using h2) (by simpa using h3)⟩
theorem Each.append{K:List Nat->List Value->α->Prop}:∀ {Bb gss:List (List Nat)} {css RZ:List (List Value)} {l m:List α},Each K Bb css l->Each K gss RZ m->Each K (Bb++gss) (css++RZ) (l++m)
 |[],_,[],_,[],_,_,h=>h
 |_::_,_,_::_,_,_::_,_,h,k=>⟨h.1,Each.append h.2 k⟩
theorem Each.GV{K:List Nat->List Value->α->Prop}:∀ {Bb:List (List Nat)} {css:List (List Value)} {l:List α} (i:Nat),Each K Bb css l->Each K (Bb.drop i) (css.drop i) (l.drop i)
 |_,_,_,0,h=>h
 |[],[],[],i+1,h=>trivial
 |_::_,_::_,_::_,i+1,h=>Each.GV i h.2
theorem Each.one{K:List Nat->List Value->α->Prop}{f:List Nat}{cs:List Value}{x:α}(h:K f cs x):Each K [f] [cs] [x]:=⟨h,trivial⟩
theorem Each.replicate{K:List Nat->List Value->α->Prop}{f:List Nat}{cs:List Value}{x:α}(h:K f cs x):∀ n,Each K (Zk n f) (Zk n cs) (Zk n x)
 |0=>trivial
 |n+1=>⟨h,Each.replicate h n⟩
theorem Qg{Bb:List (List Nat)}{i:Nat}{f:List Nat}(h:Bb[i]? = some f){k:Nat}(hk:k∈f):k∈Bb.flatten:=List.mem_flatten.2 ⟨f,Z6 h,hk⟩
theorem qN:∀ {Bb:List (List Nat)} {f:List Nat},Bb.flatten.Nodup->f∈Bb->f.Nodup
 |a::r,f,hn,hf=>by
  rw[ZL]at hn
  rcases Zn.1 hf with rfl|hf
  .exact(ZA.1 hn).1
  .exact qN (ZA.1 hn).2.1 hf
theorem iO:∀ {Bb:List (List Nat)} {i j:Nat} {f g:List Nat},Bb.flatten.Nodup->Bb[i]? = some f->Bb[j]? = some g->i≠j->∀ k∈f,k ∉ g
 |a::r,0,0,f,g,hn,hi,hj,hne=>absurd rfl hne
 |a::r,0,j+1,f,g,hn,hi,hj,hne=>fun k hk hg=>by
  simp only[Zw,Zi]at hi;subst hi
  simp only[ZD]at hj
  rw[ZL]at hn
  exact(ZA.1 hn).2.2 k hk k (Qg hj hg) rfl
 |a::r,i+1,0,f,g,hn,hi,hj,hne=>fun k hk hg=>by
  simp only[Zw,Zi]at hj;subst hj
  simp only[ZD]at hi
  rw[ZL]at hn
  exact(ZA.1 hn).2.2 k hg k (Qg hi hk) rfl
 |a::r,i+1,j+1,f,g,hn,hi,hj,hne=>by
  simp only[ZD]at hi hj
  rw[ZL]at hn
  exact iO (ZA.1 hn).2.1 hi hj o_

structure Loc(K:World->List Nat->List Value->α->Prop):Prop where
 keep:∀ {w w':World} {f:List Nat} {cs:List Value} {x:α},K w f cs x->(∀ k∈f,w'.heap[k]? = w.heap[k]?)->K w' f cs x
 lt:∀ {w:World} {f:List Nat} {cs:List Value} {x:α},K w f cs x->∀ k∈f,k<w.heap.size
def Bt(K:World->List Nat->List Value->α->Prop)(w:World)(fs:List Nat)(e sz:Nat)(A:Option Addr)(n c:Nat)(l:List α):Prop :=
 ∃ css Bb,Own w 0 e sz A n c css/\Each (K w) Bb css l/\fs=AQ A++Bb.flatten
theorem Bt.len{K:World->List Nat->List Value->α->Prop}{w:World}{e sz n c:Nat}{A:Option Addr}{l:List α}(h:Bt K w fs e sz A n c l):Hid (l.length=n):=by
 obtain⟨css,Bb,h1,h2,_⟩:=h;exact(h2.lens.2.symm.trans h1.len)
theorem Each.iP{K:World->List Nat->List Value->α->Prop}(hK:Loc K){w:World}{Bb:List (List Nat)}{css:List (List Value)}{l:List α}(h:Each (K w) Bb css l):∀ k∈Bb.flatten,k<w.heap.size:=by
 intro k hk;obtain⟨f,hf,Mm⟩:=List.mem_flatten.1 hk;obtain⟨i,hi,rfl⟩:=List.mem_iff_getElem.1 hf;have hl:=h.lens;obtain⟨f',cs,h1,_,h3⟩:=h.at_ (i:=i) (x:=l[i]'o_) (Z4 _);rw[Z4 hi]at h1;obtain rfl:=Option.some.inj h1;exact hK.lt h3 k Mm
theorem Each.Kb{K:World->List Nat->List Value->α->Prop}(hK:Loc K){w:World}{Bb:List (List Nat)}{css:List (List Value)}{l:List α}(h:Each (K w) Bb css l)(hw:∀ k∈Bb.flatten,w'.heap[k]? = w.heap[k]?):Each (K w') Bb css l :=
 h.imp fun i f cs x h1 _ _ hk=>hK.keep hk fun k Mm=>hw k (Qg h1 Mm)
theorem Bt.keep{K:World->List Nat->List Value->α->Prop}(hK:Loc K){w:World}{e sz n c:Nat}{A:Option Addr}{l:List α}(h:Bt K w fs e sz A n c l)(hw:∀ k∈fs,w'.heap[k]? = w.heap[k]?):Bt K w' fs e sz A n c l:=by
 obtain⟨css,Bb,h1,h2,rfl⟩:=h;exact⟨css,Bb,h1.keep fun g hg=>hw g (Z9.2 (.inl (ZR.2 hg))),h2.Kb hK fun k hk=>hw k (Z9.2 (.inr hk)),rfl⟩
theorem Bt.lt{K:World->List Nat->List Value->α->Prop}(hK:Loc K){w:World}{e sz n c:Nat}{A:Option Addr}{l:List α}(h:Bt K w fs e sz A n c l):∀ k∈fs,k<w.heap.size:=by
 obtain⟨css,Bb,h1,h2,rfl⟩:=h;intro k hk;rcases Z9.1 hk with hk|hk
 .exact(h1.lt k (ZR.1 hk)).2
 .exact h2.iP hK k hk
theorem Bt.below{K:World->List Nat->List Value->α->Prop}(hK:Loc K){w:World}{e sz n c:Nat}{A:Option Addr}{l:List α}(h:Bt K w fs e sz A n c l)(hb:Below w.heap.size w w'):Bt K w' fs e sz A n c l :=
 h.keep hK fun k hk=>hb.block k (h.lt hK k hk)
theorem Bt.upd{K:World->List Nat->List Value->α->Prop}(hK:Loc K){w:World}{e sz n c:Nat}{A:Option Addr}{l:List α}(h:Bt K w fs e sz A n c l)(hu:Aw gs w w')(hd:∀ k∈fs,k ∉ gs):Bt K w' fs e sz A n c l :=
 h.keep hK fun k hk=>hu.block k (h.lt hK k hk) (hd k hk)
def BQ(R:World->List Value->α->Prop)(w:World)(A:Option Addr)(n sz:Nat)(l:List α):Prop :=
 ∃ css Bb,Row w A n sz css/\Each (fun _ cs x=>R w cs x) Bb css l
theorem BQ.len{R:World->List Value->α->Prop}{w:World}{A:Option Addr}{n sz:Nat}{l:List α}(h:BQ R w A n sz l):Hid (l.length=n):=by
 obtain⟨css,Bb,h1,h2⟩:=h;exact(h2.lens.2.symm.trans h1.1)
theorem BQ.below{R:World->List Value->α->Prop}(hR:∀ {w:World} {cs:List Value} {x:α},R w cs x->Below w.heap.size w w'->R w' cs x){w:World}{A:Option Addr}{n sz:Nat}{l:List α}(h:BQ R w A n sz l)(hb:Below w.heap.size w w'):BQ R w' A n sz l:=by
 obtain⟨css,Bb,h1,h2⟩:=h;exact⟨css,Bb,h1.below hb,h2.imp fun i f cs x _ _ _ hk=>hR hk hb⟩
theorem BQ.at_{R:World->List Value->α->Prop}{w:World}{A:Option Addr}{n sz:Nat}{l:List α}(h:BQ R w A n sz l){k:Nat}(hk:k<n):
  ∃ (x:α) (cs:List Value) (g off:Nat),Hid (l[k]? = some x)/\A=some ⟨g,off,none⟩/\R w cs x/\∀ j v,cs[j]? = some v->w.cell? ⟨g,off+k*sz+j,none⟩=some v:=by
 have hl:l.length=n:=h.len;obtain⟨css,Bb,h1,h2⟩:=h;obtain⟨f,cs,_,h4,h5⟩:=h2.at_ (i:=k) (x:=l[k]'o_) (Z4 _);obtain⟨g,off,hA,hc⟩:=h1.2 k cs h4;exact⟨l[k]'o_,cs,g,off,by simp[Hid],hA,h5,hc⟩
theorem Bt.rd{K:World->List Nat->List Value->α->Prop}{R:World->List Value->α->Prop}(hKR:∀ {w:World} {f:List Nat} {cs:List Value} {x:α},K w f cs x->R w cs x){w:World}{e sz n c:Nat}{A:Option Addr}{l:List α}(h:Bt K w fs e sz A n c l):BQ R w A n sz l:=by
 obtain⟨css,Bb,h1,h2,_⟩:=h;exact⟨css,Bb,h1.row,h2.imp fun i f cs x _ _ _ hk=>hKR hk⟩
theorem VN{K:World->List Nat->List Value->α->Prop}(w:World)(e sz:Nat):Bt K w [] e sz none 0 0 []:=⟨[],[],Qz _ _ _ _,trivial,rfl⟩
end

end Go.Proofs.YtcnbphnnfmphlaaGreatDoor
