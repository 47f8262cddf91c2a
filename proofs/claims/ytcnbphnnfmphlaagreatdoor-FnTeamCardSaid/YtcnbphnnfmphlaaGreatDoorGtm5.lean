/- Texts of this proof. -/
import Derived.Lib.ItoaLen
import Derived.Lib.QuietBelow
import Derived.Test.YtcnbphnnfmphlaaGreatDoorGtm1
namespace Go.Proofs.YtcnbphnnfmphlaaGreatDoor
open Bool renaming and_eq_true → Zc
open Go.Lib renaming itoa → ZV
open List renaming getElem?_cons_zero → Zw
open Option.some renaming injEq → Zi
open Go.Proofs.Tryz
open Go.RowKit
set_option linter.unusedVariables false
set_option linter.unusedSimpArgs false
set_option maxHeartbeats 400000
set_option maxRecDepth 100000
variable{N:Nat}
theorem Sb(l:List UInt8):(ByteArray.mk l.toArray).size=l.length:=by show l.toArray.size=_;simp
theorem Dh{a b:ByteArray}(h:a.data.toList=b.data.toList):a=b:=by
 obtain⟨⟨a⟩⟩:=a;obtain⟨⟨b⟩⟩:=b;simp only at h;subst h;rfl
def Ya(n:Int):ByteArray:=⟨(ZV n).toArray⟩
theorem Y7{n:Int}(h0:-9223372036854775808<=n)(h1:n<=9223372036854775807):(Ya n).size<=21:=by
 unfold Ya;rw[Sb];exact Lib.itoa_length_le n h0 h1

def Cm(N n:Nat)(s:ByteArray):Prop:=Lib.decDigits N=Lib.decDigits n++s.data.toList
theorem ZdG(N:Nat):Cm N N ⟨#[]⟩:=by simp[Cm]
theorem Cm.next{n:Nat}{s t:ByteArray}(h:Cm N n s)(hn:9<n)(ht:t=⟨#[UInt8.ofNat (48+n % 10)]⟩++s):Cm N (n / 10) t:=by
 subst ht;unfold Cm at *
 rw[h,Lib.decDigits,dif_neg o_];simp[ByteArray.data_append]
theorem Cm.done{n:Nat}{s:ByteArray}(h:Cm N n s)(hn:n<=9):(ByteArray.mk #[UInt8.ofNat (48+n)])++s=Ya (N:Int):=by
 apply Dh;have e:Lib.decDigits n=[UInt8.ofNat (48+n)]:=Lib.decDigits_one o_;unfold Cm at h;rw[e]at h;rw[ByteArray.data_append,Array.toList_append];show _=(ZV (N:Int)).toArray.toList;rw[Lib.itoa_nonneg,h]
theorem Cm.size{n:Nat}{s:ByteArray}(h:Cm N n s)(hN:N<=9223372036854775807):s.size<=21:=by
 have h1:=Lib.itoa_length_le (N:Int) o_ o_;rw[Lib.itoa_nonneg]at h1;unfold Cm at h;rw[h,List.length_append]at h1;show s.data.size<=21;rw[<- Array.length_toList];omega
theorem ZjM{n:Int}(h0:n<0)(h1:-10<n):Ya n=⟨#[45]⟩++⟨#[UInt8.ofNat (48-n).toNat]⟩:=by
 apply Dh;obtain⟨u,rfl⟩:∃ u:Nat,n = -(u:Int):=⟨n.natAbs,o_⟩;have e:(48 - -(u:Int)).toNat=48+u:=by omega
 rw[ByteArray.data_append,Array.toList_append,e];show(ZV (-(u:Int))).toArray.toList=_;rw[Lib.itoa_neg u o_,Lib.decDigits_one (show u<10 by omega)]
 rfl
theorem ZjL{n:Int}(h0:n<=-10):Ya n=Ya (n.tdiv 10)++⟨#[UInt8.ofNat (48-n.tmod 10).toNat]⟩:=by
 apply Dh;obtain⟨u,rfl⟩:∃ u:Nat,n = -(u:Int):=⟨n.natAbs,o_⟩;have e1:(-(u:Int)).tdiv 10 = -((u / 10:Nat):Int):=by rw[Int.neg_tdiv];rfl
 have e2:(-(u:Int)).tmod 10 = -((u % 10:Nat):Int):=by rw[Int.neg_tmod];rfl
 have e:(48-(-(u:Int)).tmod 10).toNat=48+u % 10:=by rw[e2];omega
 have hd:Lib.decDigits u=Lib.decDigits (u / 10)++[UInt8.ofNat (48+u % 10)]:=by rw[Lib.decDigits,dif_neg o_]
 rw[ByteArray.data_append,Array.toList_append,e1,e];show(ZV (-(u:Int))).toArray.toList=(ZV (-((u / 10:Nat):Int))).toArray.toList++_;rw[Lib.itoa_neg u o_,Lib.itoa_neg (u / 10) o_,hd]
 rfl

def Ic(t:Int):UInt8:=([101,110,119,115]:List UInt8).getD t.toNat 0
def Jp(t x y:Int):List UInt8:=ZV x++44 ::(ZV y++[44,Ic t])
def Yn(t x y:Int):ByteArray:=if Yi t x y then ⟨(Jp t x y).toArray⟩else ⟨#[]⟩
def KB(k:Int):List UInt8:=if k=1 then [112,114,105,111,114]else if k=2 then [111,100,111,109,101,116,114,121]else if k=3 then [108,97,110,100,109,97,114,107]else [108,111,111,112]
def LJ(k:Int)(fr:ByteArray):List UInt8:=if k=1 then []else fr.data.toList++[32]
def EG(f:A7):List UInt8:=KB f.kind++32 ::(ZV f.id++32 ::(LJ f.kind f.AL++(f.Z00.data.toList++32 ::(Jp f.Af.turn f.Af.x f.Af.y++32::ZV f.Ao))))
def YM(f:A7):ByteArray:=if Zy f then ⟨(EG f).toArray⟩else ⟨#[]⟩
def Ff(e:Entry):List UInt8:=if e.remove then [114,101,109,111,118,101,32]++ZV e.id else [97,100,100,32]++EG e.Bv
def YH(e:Entry)(p:Int):Int:=LD ⟨(ZV p++32::Ff e).toArray⟩
def XP(e:Entry)(p:Int):ByteArray:=⟨(Ff e++32::35 ::(ZV (YH e p)++[10])).toArray⟩
def XO(e:Entry)(p:Int):ByteArray×Int:=if Yc e && Be p 0 65520 then (XP e p,YH e p)else (⟨#[]⟩,0)
def LK:List A7->List UInt8 |[]=>[]| f::l=>59 ::(EG f++LK l)
def KC(r:Int)(l:List A7):ByteArray:=⟨([98,117,110,100,108,101,32]++(ZV r++LK l)).toArray⟩
def rD(n:Int)(t:ByteArray)(Cr:Bool):List UInt8:=ZV n++32 ::(t.data.toList++if Cr then [32,97,99,107]else [])
def Xd(n:Int)(t:ByteArray)(Cr:Bool):Int:=LD ⟨(rD n t Cr).toArray⟩

theorem VQ{n lo hi:Int}(h:Be n lo hi=true)(h0:-9223372036854775808<=lo)(h1:hi<=9223372036854775807):(ZV n).length<=21:=by
 have:=Y8.1 h;exact Lib.itoa_length_le n o_ o_
theorem ZjG(k:Int):(KB k).length<=8:=by unfold KB;repeat(first |(split;decide)| decide|split)
theorem Zft{t x y:Int}(h:Yi t x y=true):(Jp t x y).length<=45:=by
 unfold Yi at h;simp only[Zc]at h;have:=VQ h.2.1 o_ o_;have:=VQ h.2.2 o_ o_;simp[Jp];omega
theorem Q1{f:A7}(h:Zy f=true):Be f.id 0 99999=true/\Be f.Ao 1 9999=true/\Yi f.Af.turn f.Af.x f.Af.y=true/\(f.kind=1∨f.kind=2∨f.kind=3∨f.kind=4)/\(f.kind=1->f.AL.toList=[])/\(f.kind≠1->Qc f.AL=true)/\(Qc f.Z00=true∨XZ f.Z00=true):=by
 unfold Zy Mi at h;simp only[Zc]at h;obtain⟨h1,h2,h3,h4⟩:=h;refine⟨h1,h3,h2,?_⟩;by_cases k1:f.kind=1
 .rw[if_pos k1]at h4;simp only[Zc]at h4;exact⟨.inl k1,fun _=>by simpa using h4.1,fun c=>absurd k1 c,.inl h4.2⟩
 rw[if_neg k1]at h4;by_cases k2:f.kind=2∨f.kind=4
 .rw[if_pos k2]at h4;simp only[Zc]at h4;exact⟨o_,fun c=>absurd c k1,fun _=>h4.1,.inl h4.2.1⟩
 rw[if_neg k2]at h4;by_cases k3:f.kind=3
 .rw[if_pos k3]at h4;simp only[Zc]at h4;exact⟨o_,fun c=>absurd c k1,fun _=>h4.1,.inr h4.2.1⟩
 .rw[if_neg k3]at h4;cases h4
theorem iZ(w:World)(x:Int):(convert 22 9 (.slice (some { block:=w.heap.size,off:=0 }) 1 1)).run prog (w.alloc (.cells #[.int .u8 x] 5))=.ok (.string ⟨#[UInt8.ofNat x.toNat]⟩) (w.alloc (.cells #[.int .u8 x] 5)):=by
 rw[run_convert_bytes_string _ _ _ 5 (some ⟨w.heap.size,0,none⟩) 1 1 underlying22 underlying5 underlying9]
 have hl:=run_loadCells_list (P:=prog) (w.alloc (.cells #[.int .u8 x] 5)) ⟨w.heap.size,0,none⟩ ([x].map (Value.int .u8)) (fun j v hj=>by
  cases j with
  |zero=>simp only[List.map_cons,Zw,Zi]at hj;subst hj;go_simp
  |succ j=>simp at hj)
 rw[run_bytesToString _ _ 1 1 [x] hl]
 rfl
theorem ZnV{W:World}{b:Nat}{x:Int}(hc:W.cell? ⟨b,0,none⟩=some (.int .u8 x)):(convert 22 9 (.slice (some { block:=b,off:=0 }) 1 1)).run prog W=.ok (.string ⟨#[UInt8.ofNat x.toNat]⟩) W:=by
 rw[run_convert_bytes_string _ _ _ 5 (some ⟨b,0,none⟩) 1 1 underlying22 underlying5 underlying9]
 have hl:=run_loadCells_list (P:=prog) W ⟨b,0,none⟩ ([x].map (Value.int .u8)) (fun j v hj=>by
  cases j with
  |zero=>simp only[List.map_cons,Zw,Zi]at hj;subst hj;simpa [Addr.add]using hc
  |succ j=>simp at hj)
 rw[run_bytesToString _ _ 1 1 [x] hl]
 rfl
theorem ZkB(w:World)(v:Value)(t:TypeId):((w.alloc (.cells #[v] t)).drew).cell? ⟨w.heap.size,0,none⟩=some v:=by go_simp
theorem NG{a b:ByteArray}(h:a.size+b.size<=1099511627776)(w:World):(Op.stringOp .add a b).run prog w=.ok (.string (a++b)) w:=run_string_add_sum w a b o_
theorem Z47(N:Nat)(w:World)(hN:N<=9223372036854775807):Calls prog 40 #[.int .i64 (N:Int)] w fun e w'=>e=.returned (.string (Ya (N:Int)))/\Below w.heap.size w w':=by
 go_enter func40,ntmps40;go_wp2;go_loopw [0,3] (fun i s wr=>∃ (n:Nat) (t:ByteArray),n<=9223372036854775807/\i=.int .i64 (n:Int)/\s=.string t/\Cm N n t/\Below w.heap.size w wr) (fun i _ _=>(intOf i).toNat)
 case atStart=>exact⟨N,_,hN,rfl,rfl,ZdG N,Below.refl _ _⟩
 case round =>
  obtain⟨n,t,hn,rfl,rfl,hi,hb⟩:=hrel;have hts:=hi.size hN;by_cases hlt:9<n
  .have hcv:=iZ wr (48+(n:Int) % 10);have e1:(48+(n:Int) % 10).toNat=48+n % 10:=by omega
   rw[e1]at hcv;have hnx:=hi.next hlt rfl;have LM:=fun W=>NG (a:=⟨#[UInt8.ofNat (48+n % 10)]⟩) (b:=t) (by show 1+_<=_;omega) W
   generalize (ByteArray.mk #[UInt8.ofNat (48+n % 10)]++t)=t2 at LM hnx;generalize (ByteArray.mk #[UInt8.ofNat (48+n % 10)])=t1 at LM hcv;go_wp2;exact⟨⟨n / 10,t2,o_,s_,rfl,hnx,Ze hb _⟩,by simp only[intOf];omega⟩
  .have hcv:=iZ wr (48+(n:Int));have e1:(48+(n:Int)).toNat=48+n:=by omega
   rw[e1]at hcv;have hnx:=hi.done o_;have LM:=fun W=>NG (a:=⟨#[UInt8.ofNat (48+n)]⟩) (b:=t) (by show 1+_<=_;omega) W
   rw[hnx]at LM;generalize (ByteArray.mk #[UInt8.ofNat (48+n)])=t1 at LM hcv;go_wp2;go_ret;exact⟨rfl,Ze hb _⟩
theorem Zqk{n:Int}(h:n<0):n.tdiv 10 = -((-n) / 10):=by
 obtain⟨m,rfl⟩:∃ m:Nat,n = -(m:Int):=⟨n.natAbs,o_⟩;rw[Int.neg_tdiv,Int.neg_neg,Int.tdiv_eq_ediv_of_nonneg o_]
theorem Zqj{n:Int}(h:n<0):n.tmod 10 = -((-n) % 10):=by
 obtain⟨m,rfl⟩:∃ m:Nat,n = -(m:Int):=⟨n.natAbs,o_⟩;rw[Int.neg_tmod,Int.neg_neg,Int.tmod_eq_emod_of_nonneg o_]
theorem Z00:∀ (k:Nat) (n:Int),n<0->-9223372036854775808<=n->n.natAbs<=k->∀ w:World,
  Calls prog 40 #[.int .i64 n] w fun e w'=>e=.returned (.string (Ya n))/\Below w.heap.size w w'
 |0,n,h0,_,hk,_=>by omega
 |k+1,n,h0,hlo,hk,w=>by
  have hd:=Zqk h0
  have hm:=Zqj h0
  by_cases h1:-10<n
  .have hcv:=fun W=>iZ W (48-n)
   have hnx:=ZjM h0 h1
   have LM:=fun W=>NG (a:=⟨#[45]⟩) (b:=⟨#[UInt8.ofNat (48-n).toNat]⟩) (by show 1+1<=_;omega) W
   rw[<- hnx]at LM
   have hq:n.tdiv 10=0:=by omega
   generalize (ByteArray.mk #[UInt8.ofNat (48-n).toNat])=t1 at LM hcv
   clear hnx hd hm
   go_enter func40,ntmps40
   go_wp2
   go_ret
   exact⟨rfl,Ze (Below.refl _ _) _⟩
  .have hq:n.tdiv 10≠0:=by omega
   have ih:=Z00 k (n.tdiv 10) o_ o_ o_
   have hr0:n.tmod 10<=0:=by omega
   have hr1:-9<=n.tmod 10:=by omega
   have hcv:=fun W=>iZ W (48-n.tmod 10)
   have hnx:=ZjL (n:=n) o_
   have hsz:=Y7 (n:=n.tdiv 10) o_ o_
   have LM:=fun W=>NG (a:=Ya (n.tdiv 10)) (b:=⟨#[UInt8.ofNat (48-n.tmod 10).toNat]⟩) (by show _+1<=_;omega) W
   rw[<- hnx]at LM
   generalize ht1:(ByteArray.mk #[UInt8.ofNat (48-n.tmod 10).toNat])=t1 at LM hcv
   generalize Ya (n.tdiv 10)=t2 at LM ih
   clear hnx hsz
   have hq0:-922337203685477581<=n.tdiv 10:=by omega
   have hq1:n.tdiv 10<=-1:=by omega
   generalize hQ:n.tdiv 10=q at *
   generalize hR:n.tmod 10=r at *
   clear hd hm h1 hk
   have IH:=Lib.hid ih
   clear ih
   go_enter func40,ntmps40
   go_wp2_with fail
   have hw1:IntKind.i64.wrap q=q:=by rw[IntKind.wrap_i64];omega
   have hw2:IntKind.i64.wrap (48-r)=48-r:=by rw[IntKind.wrap_i64];omega
   have hw3:IntKind.u8.wrap (48-r)=48-r:=by simp[IntKind.wrap,IntKind.bits,IntKind.signed];omega
   have Z3T:∀ W:World,(convert 22 9 (.slice (some { block:=W.heap.size,off:=0 }) 1 1)).run prog (W.alloc (.cells #[.int .u8 (48-r)] 5)).drew=.ok (.string t1) (W.alloc (.cells #[.int .u8 (48-r)] 5)).drew:=fun W=>by have:=ZnV (ZkB W (.int .u8 (48-r)) 5);rw[ht1]at this;exact this
   go_region_with (first |(go_at_call 40;refine(IH.out _).mono ?_;rintro e w1 ⟨rfl,hb1⟩;first |(have rF:=ZnV (Zm hb1 (ZkB w (.int .u8 (48-r)) 5));rw[ht1]at rF)| skip))
   all_goals
    go_wp2
    go_ret
    exact⟨rfl,by repeat(first|with_reducible exact Below.refl _ _|with_reducible refine Ze ?_ _|with_reducible refine ZY ?_|with_reducible refine Zg ?_ hb1)⟩
theorem Je(n:Int)(w:World)(h0:-9223372036854775808<=n)(h1:n<=9223372036854775807):Calls prog 40 #[.int .i64 n] w fun e w'=>e=.returned (.string (Ya n))/\Below w.heap.size w w':=by
 by_cases hn:n<0
 .exact Z00 _ n hn h0 (Nat.le_refl _) w
 .obtain⟨m,rfl⟩:=Int.eq_ofNat_of_zero_le (show 0<=n by omega);exact Z47 m w o_
end Go.Proofs.YtcnbphnnfmphlaaGreatDoor
