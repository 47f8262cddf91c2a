/- Texts of this proof. -/
import Derived.Test.YtcnbphnnfmphlaaGreatDoorGtm5
import Derived.Test.YtcnbphnnfmphlaaGreatDoorGtm6
namespace Go.Proofs.YtcnbphnnfmphlaaGreatDoor
open Go.Calls renaming mono → Zb
open Go.Lib renaming hid → Z5
open Nat renaming le_refl → Zd
open Go.Proofs.Tryz
open Go.RowKit
set_option linter.unusedVariables false
set_option linter.unusedSimpArgs false
set_option maxHeartbeats 4000000
set_option maxRecDepth 100000
variable{wt:Int}{W:World}
def Gg(k:Nat):ByteArray:=⟨#[112]⟩++Ya (k:Int)
theorem jA{k:Nat}(h:k<10):Gg k=⟨#[112,UInt8.ofNat (48+k)]⟩:=by
 apply Dh;unfold Gg Ya;rw[Lib.itoa_nonneg,Lib.decDigits_one h,ByteArray.data_append,Array.toList_append]
 rfl
theorem Zsq :∀ k:Fin 10,Qc ⟨#[112,UInt8.ofNat (48+k.val)]⟩=true:=by decide +kernel
theorem Z4S{fs:List Nat}{a b c:World}{row:Option Nat}(h:Aw fs a b)(k:b.grownBy c row)(hr:∀ q,row=some q->a.heap.size<=q):Aw fs a c :=
 ⟨k.os.trans h.os,k.tape.trans h.tape,k.output.trans h.output,Nat.le_trans h.size k.size,fun i hi hn=>(k.block i (Nat.lt_of_lt_of_le hi h.size) (fun e=>by have:=hr i e.symm;omega)).trans (h.block i hi hn)⟩
theorem DK.keep{w w':World}{b:Nat}{A:Option Addr}{n c:Nat}(h:DK W w b A n c)(hB:Below W.heap.size W w')(hk:w'.heap[b]? = w.heap[b]?):DK W w' b A n c:=by
 have e1:∀ o,w'.cell? ⟨b,o,none⟩=w.cell? ⟨b,o,none⟩:=fun o=>World.cell?_of_block (a:=⟨b,o,none⟩) hk
 have e2:∀ o,w'.frozen? ⟨b,o,none⟩=w.frozen? ⟨b,o,none⟩:=fun o=>World.frozen?_of_block (a:=⟨b,o,none⟩) hk
 obtain⟨i,hi,h1⟩:=h.c1;obtain⟨k,h2⟩:=h.c2;exact⟨hB,h.hb,(e1 0).trans h.c0,⟨i,hi,(e1 1).trans h1⟩,⟨k,(e1 2).trans h2⟩,fun o=>(e2 o).trans (h.fz o)⟩
theorem ZcW{w:World}{b:Nat}{A:Option Addr}{n c:Nat}(hy:Bytes W A n)(hn:n<=4194304)(h:DK W w b A n c)(m:Int)(h0:0<m)(h1:m<=256):
  Calls prog 42 #[.pointer (some ⟨b,0,none⟩),.int .i64 m] w fun e w'=>∃ x,e=QM x/\DK W w' b A n c/\Aw [b] w w':=by
 have HC:=Z5 h;have hy':=Z5 hy;clear h hy;go_enter func42,ntmps42;go_wp2_with fail;refine Zb (Ys hy'.out hn HC.out m h0 h1) ?_;rintro e w1 ⟨x,rfl,hx0,hx1,hc1,hu1⟩;go_wp2;go_ret;exact⟨_,rfl,hc1,hu1⟩
theorem DK.D9{w:World}{b:Nat}{A:Option Addr}{n c:Nat}(h:DK W w b A n c){p:Addr}(hp:b<p.block)(u:Value):DK W (w.setCell p u) b A n c :=
 h.keep (Dp h.hB (by have:=h.hb;omega) u) (Below.heap_setCell _ _ _ _ o_)
def Bw(M t x y:Int):Prop:=0<=t/\t<=3/\-M<=x/\x<=M/\-M<=y/\y<=M
theorem ZjD{w:World}{b:Nat}{A:Option Addr}{n c:Nat}(hy:Bytes W A n)(hn:n<=4194304)(h:DK W w b A n c):
  Calls prog 38 #[.pointer (some ⟨b,0,none⟩)] w fun e w'=>∃ t x y,e=.returned (Qv t x y)/\Bw 20 t x y/\DK W w' b A n c/\Aw [b] w w':=by
 have hlt:=h.lt;have hy':=Z5 hy;have HC:=Z5 (h.below (Ze (Below.refl _ _) (.cells #[.int .i64 0,.int .i64 0,.int .i64 0] 33)));clear h hy;go_enter func38,ntmps38;go_wp2_with fail;refine Zb (Ys hy'.out hn HC.out 4 o_ o_) ?_;rintro e w1 ⟨t,rfl,ht0,ht1,hc1,hu1⟩;have VR:=Z5 hc1;have U1:Aw [b] w w1:=(Q9 (Ze (Below.refl _ _) _)).trans hu1;have q0:=F5 hu1 w.heap.size s_ AR;have f0:=NB hu1 w.heap.size s_ AR;have z1:w.heap.size<w1.heap.size:=by have:=hu1.size;simp at this;omega
 clear hc1 HC;go_wp2_with fail;refine Zb (Ys hy'.out hn VR.out 41 o_ o_) ?_;rintro e w2 ⟨x,rfl,hx0,hx1,hc2,hu2⟩;have Sd:=Z5 hc2;have U2:=U1.trans hu2;have q1:=F5 hu2 w.heap.size z1 AR;have f1:=NB hu2 w.heap.size z1 AR;have z2:w.heap.size<w2.heap.size:=by have:=hu2.size;omega
 clear hc2 VR;go_wp2_with fail;refine Zb (Ys hy'.out hn Sd.out 41 o_ o_) ?_;rintro e w3 ⟨y,rfl,hy0,hy1,hc3,hu3⟩;have U3:=U2.trans hu3;have q2:=F5 hu3 w.heap.size z2 AR;have f2:=NB hu3 w.heap.size z2 AR;have z3:w.heap.size<w3.heap.size:=by have:=hu3.size;omega
 have hc4:=((hc3.D9 (p:=⟨w.heap.size,0,none⟩) hlt (.int .i64 t)).D9 (p:=⟨w.heap.size,1,none⟩) hlt (.int .i64 (x-20))).D9 (p:=⟨w.heap.size,2,none⟩) hlt (.int .i64 (y-20));have U4:=((U3.F4 (p:=⟨w.heap.size,0,none⟩) (Zd _) (.int .i64 t)).F4 (p:=⟨w.heap.size,1,none⟩) (Zd _) (.int .i64 (x-20))).F4 (p:=⟨w.heap.size,2,none⟩) (Zd _) (.int .i64 (y-20));clear hc3 Sd;go_wp2;exact bodyPost_ret (v:=Qv t (x-20) (y-20)) (by simp[*,results,results38,go_sem]) rfl ⟨t,x-20,y-20,rfl,⟨o_,o_,o_,o_,o_,o_⟩,hc4,U4⟩
theorem Bw.F7{M t x y:Int}(h:Bw M t x y)(hM:M<=1000000):Yi t x y=true:=by
 obtain⟨h1,h2,h3,h4,h5,h6⟩:=h;simp only[Yi,Bool.and_eq_true];exact⟨Y8.2 ⟨h1,h2⟩,Y8.2 ⟨o_,o_⟩,Y8.2 ⟨o_,o_⟩⟩
theorem Zid{id t x y:Int}{Z00:ByteArray}(h1:Be id 0 99999=true)(h2:Yi t x y=true)(h3:Be wt 1 9999=true)(h4:Qc Z00=true):Zy ⟨id,1,⟨#[]⟩,Z00,⟨t,x,y⟩,wt⟩=true:=by
 have e:(⟨#[]⟩:ByteArray).toList.isEmpty=true:=by decide +kernel
 simp[Zy,Mi,h1,h2,h3,h4,e]
theorem Zic{id k t x y:Int}{fr Z00:ByteArray}(hk:k=2∨k=4)(h1:Be id 0 99999=true)(h2:Yi t x y=true)(h3:Be wt 1 9999=true)(h4:Qc fr=true)(h5:Qc Z00=true)(h6:(fr.toList == Z00.toList)=false):Zy ⟨id,k,fr,Z00,⟨t,x,y⟩,wt⟩=true:=by
 have hk1:¬ k=1:=by omega
 simp only[Zy,Mi,h1,h2,h3,h4,h5,h6,hk1,hk,if_false,if_true];rfl
theorem Zla{id x y:Int}{fr Z00:ByteArray}(h1:Be id 0 99999=true)(h2:Yi 0 x y=true)(h3:Be wt 1 9999=true)(h4:Qc fr=true)(h5:XZ Z00=true):Zy ⟨id,3,fr,Z00,⟨0,x,y⟩,wt⟩=true:=by
 simp[Zy,Mi,h1,h2,h3,h4,h5]
theorem Jk{w:World}{cs:Array Value}{t:TypeId}{k:Nat}{v:Value}(h:cs[k]? = some v):(w.alloc (.cells cs t)).cell? ⟨w.heap.size,k,none⟩=some v:=by
 have e:(w.alloc (.cells cs t)).heap[w.heap.size]? = some (.cells cs t):=heap_alloc_new w _;unfold World.cell?;rw[e];exact h
theorem DK.Aj{w:World}{b:Nat}{A:Option Addr}{n c:Nat}(h:DK W w b A n c)(o:Obj):DK W (w.alloc o) b A n c:=h.below (Ze (Below.refl _ _) o)
theorem rH(w:World)(cs:Array Value)(t:TypeId)(k:Nat):(w.alloc (.cells cs t)).frozen? ⟨w.heap.size,k,none⟩=false:=by
 have e:(w.alloc (.cells cs t)).heap[w.heap.size]? = some (.cells cs t):=heap_alloc_new w _;unfold World.frozen?;rw[e]
 rfl
theorem Zd9{w:World}{o:Obj}{g k:Nat}(h:g<w.heap.size)(hf:w.frozen? ⟨g,k,none⟩=false):(w.alloc o).frozen? ⟨g,k,none⟩=false:=((Ze (Below.refl w.heap.size w) o).frozen (p:=⟨g,k,none⟩) h).trans hf
theorem Zaz(M t x y:Int)(h:Bw M t x y)(hM:M<=100000)(w:World):
  Calls prog 97 #[.int .i64 x,.int .i64 y,.int .i64 t] w fun e w'=>∃ a b,e=.returned (.tuple #[.int .i64 a,.int .i64 b])/\(-M<=a/\a<=M/\-M<=b/\b<=M)/\Below w.heap.size w w':=by
 have HV:=Z5 (h.F7 o_);obtain⟨t0,t1,h1,h2,h3,h4⟩:=h;go_enter func97,ntmps97;go_wp2_with (go_at_call 96;refine(Qf _ _ _ _).mono ?_;rw[HV.out];rintro e w1 ⟨rfl,hb1⟩);go_loopw [0,1,8] (fun p q i wr=>∃ (a b:Int) (k:Nat),p=.int .i64 a/\q=.int .i64 b/\i=.int .i64 (k:Int)/\(k:Int)<=t/\-M<=a/\a<=M/\-M<=b/\b<=M/\Below w.heap.size w wr) (fun _ _ i _=>t.toNat-(intOf i).toNat)
 case atStart=>exact⟨x,y,0,rfl,rfl,rfl,o_,h1,h2,h3,h4,hb1⟩
 case round =>
  obtain⟨a,b,k,rfl,rfl,rfl,hk,a0,a1,b0,b1,hb⟩:=hrel;by_cases hlt:(k:Int)< t
  .go_wp2;exact⟨⟨-b,a,k+1,rfl,rfl,s_,o_,o_,o_,a0,a1,hb⟩,by simp only[intOf];omega⟩
  .go_wp2;go_ret2;exact⟨a,b,rfl,⟨a0,a1,b0,b1⟩,hb⟩
theorem jB(w:World)(g:Nat)(hg:g=w.heap.size)(cs:Array Value)(t:TypeId)(k:Nat):(w.alloc (.cells cs t)).frozen? ⟨g,k,none⟩=false:=by subst hg;exact rH w cs t k
theorem Oi(w:World)(cs cs2:Array Value)(t t2:TypeId)(k:Nat)(v:Value)(h:cs[k]? = some v):((w.alloc (.cells cs t)).alloc (.cells cs2 t2)).cell? ⟨w.heap.size,k,none⟩=some v:=Zm (Ze (Below.refl _ _) _) (Jk h)
theorem XM(w:World)(o:Obj)(g:Nat)(hg:g=w.heap.size+1)(cs:Array Value)(t:TypeId)(k:Nat)(v:Value)(h:cs[k]? = some v):((w.alloc o).alloc (.cells cs t)).cell? ⟨g,k,none⟩=some v:=by
 have e:g=(w.alloc o).heap.size:=by simp[hg]
 subst e;exact Jk h
theorem ZcV(M N t1 x1 y1 t2 x2 y2:Int)(h1:Bw M t1 x1 y1)(h2:Bw N t2 x2 y2)(hM:M<=100000)(hN:N<=100000)(w:World):
  Calls prog 63 #[Qv t1 x1 y1,Qv t2 x2 y2] w fun e w'=>∃ t x y,e=.returned (.tuple #[Qv t x y,.bool true])/\Bw (M+N) t x y/\Below w.heap.size w w':=by
 have rJ:=Z5 (h1.F7 o_);have HV2:=Z5 (h2.F7 o_);obtain⟨p0',p1',p2',p3',p4',p5'⟩:=h1;obtain⟨q0',q1',q2',q3',q4',q5'⟩:=h2;have hR:Bw N t1 x2 y2:=⟨p0',p1',q2',q3',q4',q5'⟩;have HR:=Z5 hR;clear hR;go_enter func63,ntmps63;go_wp2_with fail;refine Zb (Qf _ _ _ _) ?_;rw[rJ.out];rintro e w1 ⟨rfl,hb1⟩;have B1:Below w.heap.size w w1:=Zg (Ze (Ze (Ze (Below.refl _ _) _) _) _) hb1;have p0:w1.cell? ⟨w.heap.size,0,none⟩=some (.int .i64 t1):=Zm hb1 (Zm (Ze (Below.refl _ _) _) (Oi _ _ _ _ _ _ _ rfl));have p1:w1.cell? ⟨w.heap.size,1,none⟩=some (.int .i64 x1):=Zm hb1 (Zm (Ze (Below.refl _ _) _) (Oi _ _ _ _ _ _ _ rfl));have p2:w1.cell? ⟨w.heap.size,2,none⟩=some (.int .i64 y1):=Zm hb1 (Zm (Ze (Below.refl _ _) _) (Oi _ _ _ _ _ _ _ rfl));have pz:w.heap.size<w1.heap.size:=Y6 p0;have q0:w1.cell? ⟨w.heap.size+1,0,none⟩=some (.int .i64 t2):=Zm hb1 (Zm (Ze (Below.refl _ _) _) (XM _ _ _ rfl _ _ _ _ rfl));have q1:w1.cell? ⟨w.heap.size+1,1,none⟩=some (.int .i64 x2):=Zm hb1 (Zm (Ze (Below.refl _ _) _) (XM _ _ _ rfl _ _ _ _ rfl));have q2:w1.cell? ⟨w.heap.size+1,2,none⟩=some (.int .i64 y2):=Zm hb1 (Zm (Ze (Below.refl _ _) _) (XM _ _ _ rfl _ _ _ _ rfl));have qz:w.heap.size+1<w1.heap.size:=Y6 q0;have r0:w1.cell? ⟨w.heap.size+1+1,0,none⟩=some (.int .i64 0):=Zm hb1 (XM _ _ _ s_ _ _ _ _ rfl);have r1:w1.cell? ⟨w.heap.size+1+1,1,none⟩=some (.int .i64 0):=Zm hb1 (XM _ _ _ s_ _ _ _ _ rfl);have r2:w1.cell? ⟨w.heap.size+1+1,2,none⟩=some (.int .i64 0):=Zm hb1 (XM _ _ _ s_ _ _ _ _ rfl);have rf:∀ o,w1.frozen? ⟨w.heap.size+1+1,o,none⟩=false:=fun o=>(Q6 hb1 (w.heap.size+1+1) (by first |(simp;done)|(simp;omega)) o).trans (jB _ _ s_ _ _ _)
 have rz:w.heap.size+1+1<w1.heap.size:=Y6 r0;go_wp2_with fail;refine Zb (Qf _ _ _ _) ?_;rw[HV2.out];rintro e w2 ⟨rfl,hb2⟩;have B2:=Zg B1 hb2;have p0:w2.cell? ⟨w.heap.size,0,none⟩=some (.int .i64 t1):=Zm hb2 (p0);have p1:w2.cell? ⟨w.heap.size,1,none⟩=some (.int .i64 x1):=Zm hb2 (p1);have p2:w2.cell? ⟨w.heap.size,2,none⟩=some (.int .i64 y1):=Zm hb2 (p2);have pz:w.heap.size<w2.heap.size:=Y6 p0;have q0:w2.cell? ⟨w.heap.size+1,0,none⟩=some (.int .i64 t2):=Zm hb2 (q0);have q1:w2.cell? ⟨w.heap.size+1,1,none⟩=some (.int .i64 x2):=Zm hb2 (q1);have q2:w2.cell? ⟨w.heap.size+1,2,none⟩=some (.int .i64 y2):=Zm hb2 (q2);have qz:w.heap.size+1<w2.heap.size:=Y6 q0;have r0:w2.cell? ⟨w.heap.size+1+1,0,none⟩=some (.int .i64 0):=Zm hb2 (r0);have r1:w2.cell? ⟨w.heap.size+1+1,1,none⟩=some (.int .i64 0):=Zm hb2 (r1);have r2:w2.cell? ⟨w.heap.size+1+1,2,none⟩=some (.int .i64 0):=Zm hb2 (r2);have rf:∀ o,w2.frozen? ⟨w.heap.size+1+1,o,none⟩=false:=fun o=>(Q6 hb2 (w.heap.size+1+1) (rz) o).trans (rf o)
 have rz:w.heap.size+1+1<w2.heap.size:=Y6 r0;clear B1 hb1 hb2;go_wp2_with fail;refine Zb (Zaz N t1 x2 y2 HR.out hN _) ?_;rintro e w3 ⟨a,b,rfl,⟨a0,a1,b0,b1⟩,hb3⟩;have B3:=Zg B2 hb3;have p0:w3.cell? ⟨w.heap.size,0,none⟩=some (.int .i64 t1):=Zm hb3 (p0);have p1:w3.cell? ⟨w.heap.size,1,none⟩=some (.int .i64 x1):=Zm hb3 (p1);have p2:w3.cell? ⟨w.heap.size,2,none⟩=some (.int .i64 y1):=Zm hb3 (p2);have pz:w.heap.size<w3.heap.size:=Y6 p0;have q0:w3.cell? ⟨w.heap.size+1,0,none⟩=some (.int .i64 t2):=Zm hb3 (q0);have q1:w3.cell? ⟨w.heap.size+1,1,none⟩=some (.int .i64 x2):=Zm hb3 (q1);have q2:w3.cell? ⟨w.heap.size+1,2,none⟩=some (.int .i64 y2):=Zm hb3 (q2);have qz:w.heap.size+1<w3.heap.size:=Y6 q0;have r0:w3.cell? ⟨w.heap.size+1+1,0,none⟩=some (.int .i64 0):=Zm hb3 (r0);have r1:w3.cell? ⟨w.heap.size+1+1,1,none⟩=some (.int .i64 0):=Zm hb3 (r1);have r2:w3.cell? ⟨w.heap.size+1+1,2,none⟩=some (.int .i64 0):=Zm hb3 (r2);have rf:∀ o,w3.frozen? ⟨w.heap.size+1+1,o,none⟩=false:=fun o=>(Q6 hb3 (w.heap.size+1+1) (rz) o).trans (rf o)
 have rz:w.heap.size+1+1<w3.heap.size:=Y6 r0;have hres:Bw (M+N) ((t1+t2) % 4) (x1+a) (y1+b):=⟨o_,o_,o_,o_,o_,o_⟩;have Se:=Z5 hres;have HV3:=Z5 (hres.F7 o_);clear B2 hb3 hres HR;go_wp2_with fail;refine Zb (Qf _ _ _ _) ?_;rw[HV3.out];rintro e w4 ⟨rfl,hb4⟩;have B4:Below w.heap.size w w4:=Zg (Ze B3 _) hb4;have s0:w4.cell? ⟨w3.heap.size,0,none⟩=some (.int .i64 ((t1+t2) % 4)):=Zm hb4 (Jk rfl);have s1:w4.cell? ⟨w3.heap.size,1,none⟩=some (.int .i64 (x1+a)):=Zm hb4 (Jk rfl);have s2:w4.cell? ⟨w3.heap.size,2,none⟩=some (.int .i64 (y1+b)):=Zm hb4 (Jk rfl);have u0:w4.cell? ⟨w.heap.size+1+1,0,none⟩=some (.int .i64 0):=Zm hb4 (Zm (Ze (Below.refl _ _) _) r0);have u1:w4.cell? ⟨w.heap.size+1+1,1,none⟩=some (.int .i64 0):=Zm hb4 (Zm (Ze (Below.refl _ _) _) r1);have u2:w4.cell? ⟨w.heap.size+1+1,2,none⟩=some (.int .i64 0):=Zm hb4 (Zm (Ze (Below.refl _ _) _) r2);have uf:∀ o,w4.frozen? ⟨w.heap.size+1+1,o,none⟩=false:=fun o=>(Q6 hb4 (w.heap.size+1+1) AR o).trans (Zd9 rz (rf o))
 clear p0 p1 p2 pz q0 q1 q2 qz r0 r1 r2 rf B3;go_wp2_with fail;refine bodyPost_ret (v:=.tuple #[Qv ((t1+t2) % 4) (x1+a) (y1+b),.bool true]) (by simp[*,results,results63,go_sem]) rfl ⟨_,_,_,rfl,Se.out,?_⟩;exact Dp (Dp (Dp B4 AR _) AR _) AR _
theorem ZdJ(M N t1 x1 y1 t2 x2 y2:Int)(h1:Bw M t1 x1 y1)(h2:Bw N t2 x2 y2)(hM:M<=100000)(hN:N<=100000)(w:World):
  Calls prog 39 #[Qv t1 x1 y1,Qv t2 x2 y2] w fun e w'=>∃ t x y,e=.returned (Qv t x y)/\Bw (M+N) t x y/\Below w.heap.size w w':=by
 have H1:=Z5 h1;have H2:=Z5 h2;clear h1 h2;go_enter func39,ntmps39;go_wp2_with fail;refine Zb (ZcV M N _ _ _ _ _ _ H1.out H2.out hM hN _) ?_;rintro e w1 ⟨t,x,y,rfl,hp,hb1⟩;have B1:Below w.heap.size w w1:=Zg (Ze (Ze (Ze (Below.refl _ _) _) _) _) hb1;have r0:w1.cell? ⟨w.heap.size+1+1,0,none⟩=some (.int .i64 0):=Zm hb1 (XM _ _ _ s_ _ _ _ _ rfl);have r1:w1.cell? ⟨w.heap.size+1+1,1,none⟩=some (.int .i64 0):=Zm hb1 (XM _ _ _ s_ _ _ _ _ rfl);have r2:w1.cell? ⟨w.heap.size+1+1,2,none⟩=some (.int .i64 0):=Zm hb1 (XM _ _ _ s_ _ _ _ _ rfl);have rf:∀ o,w1.frozen? ⟨w.heap.size+1+1,o,none⟩=false:=fun o=>(Q6 hb1 (w.heap.size+1+1) (by first |(simp;done)|(simp;omega)) o).trans (jB _ _ s_ _ _ _)
 have rz:w.heap.size+1+1<w1.heap.size:=Y6 r0;have HP:=Z5 hp;clear hp hb1 H1 H2;go_wp2_with fail;refine bodyPost_ret (v:=Qv t x y) (by simp[*,results,results39,go_sem]) rfl ⟨_,_,_,rfl,HP.out,?_⟩;repeat(first|with_reducible exact B1|with_reducible refine Ze ?_ _ |((with_reducible refine Dp ?_ ?_ _);rotate_left;(first |(simp;done)|(simp;omega)| simp|omega)))
theorem ZkY(M t1 x1 y1:Int)(h1:Bw M t1 x1 y1)(hM:M<=100000)(w:World):
  Calls prog 64 #[Qv t1 x1 y1] w fun e w'=>∃ t x y,e=.returned (Qv t x y)/\Bw M t x y/\Below w.heap.size w w':=by
 have rJ:=Z5 (h1.F7 o_);obtain⟨p0',p1',p2',p3',p4',p5'⟩:=h1;have hR:Bw M ((-t1) % 4) (-x1) (-y1):=⟨o_,o_,o_,o_,o_,o_⟩;have HR:=Z5 hR;clear hR;go_enter func64,ntmps64;go_wp2_with fail;refine Zb (Qf _ _ _ _) ?_;rw[rJ.out];rintro e w1 ⟨rfl,hb1⟩;have B1:Below w.heap.size w w1:=Zg (Ze (Ze (Below.refl _ _) _) _) hb1;have p0:w1.cell? ⟨w.heap.size,0,none⟩=some (.int .i64 t1):=Zm hb1 (Oi _ _ _ _ _ _ _ rfl);have p1:w1.cell? ⟨w.heap.size,1,none⟩=some (.int .i64 x1):=Zm hb1 (Oi _ _ _ _ _ _ _ rfl);have p2:w1.cell? ⟨w.heap.size,2,none⟩=some (.int .i64 y1):=Zm hb1 (Oi _ _ _ _ _ _ _ rfl);have r0:w1.cell? ⟨w.heap.size+1,0,none⟩=some (.int .i64 0):=Zm hb1 (XM _ _ _ rfl _ _ _ _ rfl);have r1:w1.cell? ⟨w.heap.size+1,1,none⟩=some (.int .i64 0):=Zm hb1 (XM _ _ _ rfl _ _ _ _ rfl);have r2:w1.cell? ⟨w.heap.size+1,2,none⟩=some (.int .i64 0):=Zm hb1 (XM _ _ _ rfl _ _ _ _ rfl);have rf:∀ o,w1.frozen? ⟨w.heap.size+1,o,none⟩=false:=fun o=>(Q6 hb1 (w.heap.size+1) (by first |(simp;done)|(simp;omega)) o).trans (jB _ _ s_ _ _ _)
 have rz:w.heap.size+1<w1.heap.size:=Y6 r0;clear hb1;go_wp2_with fail;refine Zb (Zaz M ((-t1) % 4) (-x1) (-y1) HR.out hM _) ?_;rintro e w2 ⟨a,b,rfl,⟨a0,a1,b0,b1⟩,hb2⟩;have B2:=Zg B1 hb2;have s0:=Zm hb2 r0;have s1:=Zm hb2 r1;have s2:=Zm hb2 r2;have sf:∀ o,w2.frozen? ⟨w.heap.size+1,o,none⟩=false:=fun o=>(Q6 hb2 (w.heap.size+1) rz o).trans (rf o)
 have sz:w.heap.size+1<w2.heap.size:=Y6 s0;have hres:Bw M ((-t1) % 4) a b:=⟨o_,o_,a0,a1,b0,b1⟩;have Se:=Z5 hres;clear r0 r1 r2 rf rz p0 p1 p2 B1 hb2 hres HR;go_wp2_with fail;refine bodyPost_ret (v:=Qv ((-t1) % 4) a b) (by simp[*,results,results64,go_sem]) rfl ⟨_,_,_,rfl,Se.out,?_⟩;repeat(first|with_reducible exact B2|with_reducible refine Ze ?_ _ |((with_reducible refine Dp ?_ ?_ _);rotate_left;(first |(simp;done)|(simp;omega)| simp|omega)))
theorem Zl3(M N t1 x1 y1 t2 x2 y2:Int)(h1:Bw M t1 x1 y1)(h2:Bw N t2 x2 y2)(hM:M<=100000)(hN:N<=100000)(w:World):
  Calls prog 41 #[Qv t1 x1 y1,Qv t2 x2 y2] w fun e w'=>∃ t x y,e=.returned (Qv t x y)/\Bw (M+N) t x y/\Below w.heap.size w w':=by
 have H1:=Z5 h1;have H2:=Z5 h2;clear h1 h2;go_enter func41,ntmps41;go_wp2_with fail;refine ZQ fun R hR=>?_
 have hwb:Below w.heap.size w R:=by rw[hR.out];exact Ze (Ze (Ze (Below.refl _ _) _) _) _
 have g0:R.cell? ⟨w.heap.size,0,none⟩=some (.int .i64 t1):=by rw[hR.out];exact Zm (Ze (Below.refl _ _) _) (Oi _ _ _ _ _ _ _ rfl)
 have g1:R.cell? ⟨w.heap.size,1,none⟩=some (.int .i64 x1):=by rw[hR.out];exact Zm (Ze (Below.refl _ _) _) (Oi _ _ _ _ _ _ _ rfl)
 have g2:R.cell? ⟨w.heap.size,2,none⟩=some (.int .i64 y1):=by rw[hR.out];exact Zm (Ze (Below.refl _ _) _) (Oi _ _ _ _ _ _ _ rfl)
 have g3:R.cell? ⟨w.heap.size+1,0,none⟩=some (.int .i64 t2):=by rw[hR.out];exact Zm (Ze (Below.refl _ _) _) (XM _ _ _ rfl _ _ _ _ rfl)
 have g4:R.cell? ⟨w.heap.size+1,1,none⟩=some (.int .i64 x2):=by rw[hR.out];exact Zm (Ze (Below.refl _ _) _) (XM _ _ _ rfl _ _ _ _ rfl)
 have g5:R.cell? ⟨w.heap.size+1,2,none⟩=some (.int .i64 y2):=by rw[hR.out];exact Zm (Ze (Below.refl _ _) _) (XM _ _ _ rfl _ _ _ _ rfl)
 have r0:R.cell? ⟨w.heap.size+1+1,0,none⟩=some (.int .i64 0):=by rw[hR.out];exact XM _ _ _ s_ _ _ _ _ rfl
 have r1:R.cell? ⟨w.heap.size+1+1,1,none⟩=some (.int .i64 0):=by rw[hR.out];exact XM _ _ _ s_ _ _ _ _ rfl
 have r2:R.cell? ⟨w.heap.size+1+1,2,none⟩=some (.int .i64 0):=by rw[hR.out];exact XM _ _ _ s_ _ _ _ _ rfl
 have rf:∀ o,R.frozen? ⟨w.heap.size+1+1,o,none⟩=false:=fun o=>by rw[hR.out];exact jB _ _ s_ _ _ _
 have rz:w.heap.size+1+1<R.heap.size:=Y6 r0;clear hR
 go_region_law (first
  |(go_simp;go_at_call 64;refine(ZkY M _ _ _ H1.out hM _).mono ?_;rintro e w2 ⟨t3,x3,y3,rfl,hp3,hb2⟩;have B2:Below w.heap.size w w2:=Zg (ZY hwb) hb2;have k3:=Zm hb2 (show R.drew.cell? _=_ from g3);have k4:=Zm hb2 (show R.drew.cell? _=_ from g4);have k5:=Zm hb2 (show R.drew.cell? _=_ from g5);have u0:=Zm hb2 (show R.drew.cell? _=_ from r0);have u1:=Zm hb2 (show R.drew.cell? _=_ from r1);have u2:=Zm hb2 (show R.drew.cell? _=_ from r2);have uf:∀ o,w2.frozen? ⟨w.heap.size+1+1,o,none⟩=false:=(fun o=>(Q6 hb2 (w.heap.size+1+1) rz o).trans (rf o));have H3:=Z5 hp3;have uz:w.heap.size+1+1<w2.heap.size:=Y6 u0)
  |(go_simp;go_at_call 39;refine(ZdJ M N _ _ _ _ _ _ H3.out H2.out hM hN _).mono ?_;rintro e w3 ⟨t4,x4,y4,rfl,Oj,hb3⟩;have B3:=Zg B2 hb3;have v0:=Zm hb3 u0;have v1:=Zm hb3 u1;have v2:=Zm hb3 u2;have vf:∀ o,w3.frozen? ⟨w.heap.size+1+1,o,none⟩=false:=(fun o=>(Q6 hb3 (w.heap.size+1+1) uz o).trans (uf o));have H4:=Z5 Oj))
 all_goals
  go_wp2_with fail;refine bodyPost_ret (v:=Qv t4 x4 y4) (by simp[*,results,results41,go_sem]) rfl ⟨_,_,_,rfl,H4.out,?_⟩;repeat(first|with_reducible exact B3|with_reducible refine Ze ?_ _ |((with_reducible refine Dp ?_ ?_ _);rotate_left;(first |(simp;done)|(simp;omega)| simp|omega)))
section
variable{P:Program}{md:Region.Mode}{ops:Array Oper}{Q:Exit->Act->World->Prop}
end
def upd(L:Nat->Bool)(i:Nat):Nat->Bool:=fun j=>if j=i then true else L j
theorem Zjf(A:Option Addr):(AQ A).Nodup:=by unfold AQ;cases ob A<;>simp

end Go.Proofs.YtcnbphnnfmphlaaGreatDoor
