/- Texts of this proof. -/
import Derived.Test.YtcnbphnnfmphlaaGreatDoorGtm2
namespace Go.Proofs.YtcnbphnnfmphlaaGreatDoor
open Go.Lib renaming hid → Z5
open Go.Proofs.Tryz
open Go.RowKit
set_option linter.unusedVariables false
set_option linter.unusedSimpArgs false
set_option maxHeartbeats 1000000
set_option maxRecDepth 100000
variable{W w':World}
def iQ(y:Int):Int:=bits .and .i64 y 255
theorem Zp3(y:Int):bits .and .i64 y 255=iQ y:=rfl
theorem iR(y:Int):0<=iQ y/\iQ y<=255:=by
 have e:iQ y=IntKind.i64.wrap ((BitVec.ofInt 64 y &&& BitVec.ofInt 64 255).toNat:Int):=rfl
 have h:(BitVec.ofInt 64 y &&& BitVec.ofInt 64 255).toNat<=255:=by
  rw[BitVec.toNat_and];exact Nat.and_le_right
 rw[e,IntKind.wrap_i64];omega
def m30(y:Int):Int:=bits .and .i64 y 1073741823
theorem ZqX(y:Int):bits .and .i64 y 1073741823=m30 y:=rfl
def Bytes(w:World)(A:Option Addr)(n:Nat):Prop:=∀ i,i<n->∃ g off x,A=some ⟨g,off,none⟩/\0<=x/\x<=255/\w.cell? ⟨g,off+i,none⟩=some (.int .u8 x)
theorem Bytes.below{w:World}{A:Option Addr}{n:Nat}(h:Bytes w A n)(hb:Below w.heap.size w w'):Bytes w' A n:=fun i hi=>by
 obtain⟨g,off,x,h1,h2,h3,h4⟩:=h i hi
 exact⟨g,off,x,h1,h2,h3,Zm hb h4⟩
structure DK(W w:World)(b:Nat)(A:Option Addr)(n c:Nat):Prop where
 hB:Below W.heap.size W w
 hb:W.heap.size<=b
 c0:w.cell? ⟨b,0,none⟩=some (.slice A n c)
 c1:∃ i:Nat,i<=n/\w.cell? ⟨b,1,none⟩=some (.int .i64 i)
 c2:∃ h:Int,w.cell? ⟨b,2,none⟩=some (.int .i64 h)
 fz:∀ o,w.frozen? ⟨b,o,none⟩=false
theorem DK.lt{w:World}{b:Nat}{A:Option Addr}{n c:Nat}(h:DK W w b A n c):b<w.heap.size:=Y6 h.c0
theorem DK.below{w:World}{b:Nat}{A:Option Addr}{n c:Nat}(h:DK W w b A n c)(hb:Below w.heap.size w w'):DK W w' b A n c:=by
 obtain⟨i,hi,h1⟩:=h.c1;obtain⟨k,h2⟩:=h.c2;exact⟨Zg h.hB hb,h.hb,Zm hb h.c0,⟨i,hi,Zm hb h1⟩,⟨k,Zm hb h2⟩,fun o=>(Q6 hb b h.lt o).trans (h.fz o)⟩
theorem Aw.drewN{fs:List Nat}{a w:World}(h:Aw fs a w)(n:Nat):Aw fs a (w.drewN n):=⟨h.os,h.tape,h.output,h.size,h.block⟩
theorem iU{w:World}{b:Nat}{A:Option Addr}{n c:Nat}(hy:Bytes W A n)(hn:n<=4194304)(h:DK W w b A n c):
  Calls prog 20 #[.pointer (some ⟨b,0,none⟩)] w fun e w'=>∃ x,e=LA x/\0<=x/\x<=255/\DK W w' b A n c/\Aw [b] w w':=by
 obtain⟨i,hi,h1⟩:=h.c1;obtain⟨k,h2⟩:=h.c2;have h0:=h.c0;have hf:=h.fz;have hl:=h.lt;have hme:=Zp3;have HC:=Z5 h;have hbW:=h.hb
 have fin:∀ w',Aw [b] w w'->w'.cell? ⟨b,0,none⟩=some (.slice A n c)->(∃ i:Nat,i<=n/\w'.cell? ⟨b,1,none⟩=some (.int .i64 i))->(∃ h:Int,w'.cell? ⟨b,2,none⟩=some (.int .i64 h))->(∀ o,w'.frozen? ⟨b,o,none⟩=false)->DK W w' b A n c/\Aw [b] w w' :=
  fun w' u a0 a1 a2 a3=>⟨⟨Dq HC.out.hB u (by simpa using hbW),hbW,a0,a1,a2,a3⟩,u⟩
 have FIN:=Z5 fin;clear fin;by_cases hin:i<n
 .obtain⟨g,off,x0,hA,hx0,hx1,qO⟩:=hy i hin;have hgb:g≠b:=by have:=Y6 qO;simp only at this;omega
  have hx:=Zm h.hB qO;subst hA;clear qO h hy;have hd:decide ((i:Int)<(n:Int))=true:=by simp;omega
  have hi0:(0:Int)<=(i:Int):=by omega
  have hi1:(i:Int)<(n:Int):=by omega
  go_enter func20,ntmps20;go_wp2_with fail;go_quiet (fail);go_wp2_with fail;go_quiet (fail);go_wp2_with fail;go_quiet (fail);go_wp2_with fail;go_ret;refine⟨_,rfl,(iR _).1,(iR _).2,FIN.out _ ?_ ?_ ?_ ?_ ?_⟩
  .exact(((Aw.refl [b] w).AA (p:=⟨b,2,none⟩) s_ _).drewN _).AA (p:=⟨b,1,none⟩) s_ _
  .go_simp
  .exact⟨i+1,o_,by go_simp⟩
  .exact⟨wrap64 (wrap64 (k*6364136223846793005)+1442695040888963407),by go_simp⟩
  .intro o;go_simp
 .clear h hy;have hd:decide ((i:Int)<(n:Int))=false:=by simp;omega
  go_enter func20,ntmps20;go_wp2_with fail;go_quiet (fail);go_wp2_with fail;go_quiet (fail);go_wp2_with fail;go_ret;refine⟨_,rfl,(iR _).1,(iR _).2,FIN.out _ ?_ ?_ ?_ ?_ ?_⟩
  .exact(((Aw.refl [b] w).AA (p:=⟨b,2,none⟩) s_ _).drewN _).drewN _
  .go_simp
  .exact⟨i,hi,by go_simp⟩
  .exact⟨wrap64 (wrap64 (k*6364136223846793005)+1442695040888963407),by go_simp⟩
  .intro o;go_simp
theorem ZfI{w:World}{A:Option Addr}{n c:Nat}(hB:Below W.heap.size W w)(hy:Bytes W A n)(hn:n<=4194304):
  Calls prog 18 #[.slice A n c] w fun e w'=>∃ b,e=.returned (.pointer (some ⟨b,0,none⟩))/\w.heap.size<=b/\DK W w' b A n c/\Below w.heap.size w w':=by
 have hyw:=Z5 (hy.below hB);have hme:=ZqX;go_enter func18,ntmps18;go_wp2;go_loopw [3,4] (fun h i wr=>∃ (k:Nat) (v:Int),k<=n/\i=.int .i64 (k:Int)/\h=.int .i64 v/\Below w.heap.size w wr) (fun _ i _=>n-(intOf i).toNat)
 case atStart=>exact⟨0,_,o_,rfl,rfl,Below.refl _ _⟩
 case round =>
  obtain⟨k,v,hk,rfl,rfl,hb⟩:=hrel;by_cases hlt:k<n/\k<4000
  .obtain⟨hk1,hk2⟩:=hlt;obtain⟨g,off,x0,hA,hx0,hx1,hx⟩:=hyw.out.below hb k hk1;subst hA;have hi0:(0:Int)<=(k:Int):=by omega
   have hi1:(k:Int)<(n:Int):=by omega
   have hi2:(k:Int)< 4000:=by omega
   go_wp2;exact⟨⟨k+1,_,o_,s_,rfl,hb⟩,by simp only[intOf];omega⟩
  .have hcases:decide ((k:Int)<(n:Int))=false∨(decide ((k:Int)<(n:Int))=true/\decide ((k:Int)< 4000)=false):=by
    simp;omega
   rcases hcases with h1 |⟨h1,h2⟩
   .go_wp2
    all_goals
     refine bodyPost_ret (v:=.pointer (some ⟨wr.heap.size,0,none⟩)) (by simp[*,results,results18,go_sem]) rfl ?_;refine⟨wr.heap.size,rfl,by have:=hb.size;omega,?_,Ze hb _⟩;have hBw:Below W.heap.size W (wr.alloc (.cells #[.slice A n c,.int .i64 0,.int .i64 v] 97)):=Ze (Zg hB hb) _;exact⟨hBw,by have:=hB.size;have:=hb.size;omega,by go_simp,⟨0,o_,by go_simp⟩,⟨v,by go_simp⟩,fun o=>by go_simp⟩
   .go_wp2
    all_goals
     refine bodyPost_ret (v:=.pointer (some ⟨wr.heap.size,0,none⟩)) (by simp[*,results,results18,go_sem]) rfl ?_;refine⟨wr.heap.size,rfl,by have:=hb.size;omega,?_,Ze hb _⟩;have hBw:Below W.heap.size W (wr.alloc (.cells #[.slice A n c,.int .i64 0,.int .i64 v] 97)):=Ze (Zg hB hb) _;exact⟨hBw,by have:=hB.size;have:=hb.size;omega,by go_simp,⟨0,o_,by go_simp⟩,⟨v,by go_simp⟩,fun o=>by go_simp⟩
theorem PK{w:World}{b:Nat}(h:Below W.heap.size W w)(hu:Aw [b] w w')(hb:W.heap.size<=b):Below W.heap.size W w':=Dq h hu (by simpa using hb)
theorem Ys{w:World}{b:Nat}{A:Option Addr}{n c:Nat}(hy:Bytes W A n)(hn:n<=4194304)(h:DK W w b A n c)(m:Int)(h0:0<m)(h1:m<=256):
  Calls prog 30 #[.pointer (some ⟨b,0,none⟩),.int .i64 m] w fun e w'=>∃ x,e=LA x/\0<=x/\x<m/\DK W w' b A n c/\Aw [b] w w':=by
 have HC:=Z5 h;have hy':=Z5 hy;clear h hy;have hm0:¬ m<=0:=by omega
 have hmz:m≠0:=by omega
 go_enter func30,ntmps30;go_wp2_with (go_at_call 20;refine(iU hy'.out hn HC.out).mono ?_;rintro e w1 ⟨x,rfl,hx0,hx1,hc1,hu1⟩);go_ret;exact⟨_,rfl,Int.emod_nonneg _ hmz,Int.emod_lt_of_pos _ h0,hc1,hu1⟩
theorem ZfH{w:World}{A:Option Addr}{n c:Nat}(hB:Below W.heap.size W w)(hy:Bytes W A n)(hn:n<=4194304)(m:Nat)(hm:m<=4194304):
  Calls prog 19 #[.slice A n c,.int .i64 (m:Int)] w fun e w'=>∃ b,e=.returned (.pointer (some ⟨b,0,none⟩))/\w.heap.size<=b/\DK W w' b A n c/\Below w.heap.size w w':=by
 have hy':=Z5 hy;have HB:=Z5 hB;clear hy hB;go_enter func19,ntmps19;go_wp2_with (go_at_call 18;refine(ZfI (c:=c) HB.out hy'.out hn).mono ?_;rintro e w1 ⟨b,rfl,hb,hc1,hb1⟩);go_loopw [6] (fun i wr=>∃ (k:Nat),k<=m/\i=.int .i64 (k:Int)/\DK W wr b A n c/\Below w.heap.size w wr) (fun i _=>m-(intOf i).toNat)
 case atStart=>exact⟨0,o_,rfl,hc1,hb1⟩
 case round =>
  obtain⟨k,hk,rfl,hc,hbb⟩:=hrel;have HC:=Z5 hc;clear hc hc1;by_cases hlt:k<m
  .have hi1:(k:Int)<(m:Int):=by omega
   go_wp2_with (go_at_call 20;refine(iU hy'.out hn HC.out).mono ?_;rintro e w2 ⟨x,rfl,hx0,hx1,hc2,hu2⟩);exact⟨⟨k+1,o_,s_,hc2,PK hbb hu2 hb⟩,by simp only[intOf];omega⟩
  .go_wp2;go_ret;exact⟨b,rfl,hb,HC.out,hbb⟩
-- infos
theorem XT :(Tryz.prog.info? 35).map (fun i=>(i.zero,i.size,i.bytes))=some (some (.agg #[.int .i64 0,.int .i64 0,.string ByteArray.empty,.string ByteArray.empty,.int .i64 0,.int .i64 0,.int .i64 0,.int .i64 0]),8,80):=by kernel_rfl
theorem qP :(Tryz.prog.info? 139).map (fun i=>(i.zero,i.size,i.bytes))=some (some (.agg #[.bool false,.int .i64 0,.string ByteArray.empty,.int .i64 0]),4,40):=by kernel_rfl
theorem JO :(Tryz.prog.info? 9).map (fun i=>(i.zero,i.size,i.bytes))=some (some (.string ByteArray.empty),1,16):=by kernel_rfl
end Go.Proofs.YtcnbphnnfmphlaaGreatDoor
