/- Texts of this proof. -/
import Derived.Lib.AtoiAll
import Derived.Lib.Strings
import Derived.Test.YtcnbphnnfmphlaaGreatDoorGtm4
import Derived.Test.YtcnbphnnfmphlaaGreatDoorGtm5
namespace Go.Proofs.YtcnbphnnfmphlaaGreatDoor
open Go.Lib renaming hid → Z5,itoa → ZV
open Int renaming eq_ofNat_of_zero_le → Zl
open Nat renaming le_refl → Zd
open Go.Proofs.Tryz
open Go.RowKit
set_option linter.unusedVariables false
set_option linter.unusedSimpArgs false
set_option maxHeartbeats 1000000
set_option maxRecDepth 100000
variable{L:List ByteArray}
theorem ZiT:∀ (l:List UInt8) (acc:Nat) (c:UInt8),Lib.parseUint10 acc (l++[c])=match Lib.parseUint10 acc l with|.ok v=>Lib.parseUint10 v [c]| r => r
 |[],acc,c=>by simp only[List.nil_append];conv=>rhs;rw[Lib.parseUint10]
 |x::l,acc,c=>by
  simp only[List.cons_append,Lib.parseUint10]
  split
  .split
   .rfl
   .split
    .rfl
    .exact ZiT l _ c
  .rfl
theorem kJ{d:Nat}(h:d<10):(UInt8.ofNat (48+d)).toNat=48+d:=by
 simp only[UInt8.toNat_ofNat'];omega
theorem Znx :∀ (u:Nat),u<18446744073709551616->Lib.parseUint10 0 (Lib.decDigits u)=.ok u:=by
 intro u;induction u using Nat.strongRecOn with
 |_ u ih =>
  intro hu;by_cases h:u<10
  .rw[Lib.decDigits_one h];simp only[Lib.parseUint10,kJ h];rw[if_pos ⟨o_,o_⟩,if_neg o_,if_neg o_];congr 1;omega
  .have e:Lib.decDigits u=Lib.decDigits (u / 10)++[UInt8.ofNat (48+u % 10)]:=by rw[Lib.decDigits,dif_neg h]
   rw[e,ZiT,ih (u / 10) o_ o_];have hd:u % 10<10:=by omega
   simp only[Lib.parseUint10,kJ hd];rw[if_pos ⟨o_,o_⟩,if_neg o_,if_neg o_];congr 1;omega
theorem vV :∀ (u:Nat),∀ b∈Lib.decDigits u,48<=b.toNat/\b.toNat<=57:=by
 intro u;induction u using Nat.strongRecOn with
 |_ u ih =>
  intro b hb;by_cases h:u<10
  .rw[Lib.decDigits_one h]at hb;simp only[List.mem_singleton]at hb;subst hb;rw[kJ h];omega
  .rw[Lib.decDigits,dif_neg h]at hb;rcases List.mem_append.1 hb with hb|hb
   .exact ih (u / 10) o_ b hb
   .simp only[List.mem_singleton]at hb;subst hb;rw[kJ o_];omega
theorem ZnS(u:Nat):Lib.decDigits u≠[]:=by
 rw[Lib.decDigits];split<;>simp
theorem Zhq(n:Int):∀ b∈ZV n,b.toNat=45∨(48<=b.toNat/\b.toNat<=57):=by
 intro b hb;by_cases h:0<=n
 .obtain⟨u,rfl⟩:=Zl h;rw[show((u:Nat):Int)=(u:Int)from rfl,Lib.itoa_nonneg]at hb;exact .inr (vV u b hb)
 .obtain⟨u,rfl⟩:∃ u:Nat,n = -(u:Int):=⟨n.natAbs,o_⟩;rw[Lib.itoa_neg u o_]at hb;rcases List.mem_cons.1 hb with rfl|hb
  .exact .inl rfl
  .exact .inr (vV u b hb)
theorem aD{n:Int}(h0:-9223372036854775808<=n)(h1:n<=9223372036854775807):Lib.atoiAll (ZV n)=.ok n:=by
 by_cases h:0<=n
 .obtain⟨u,rfl⟩:=Zl h;have e:ZV (u:Int)=Lib.decDigits u:=Lib.itoa_nonneg u;rw[e];have hp:=Znx u o_
  obtain⟨c,r,hcr⟩:∃ c r,Lib.decDigits u=c::r:=by
   cases hd:Lib.decDigits u with
   |nil=>exact absurd hd (ZnS u)
   |cons c r=>exact⟨c,r,rfl⟩
  have hc:=vV u c (by rw[hcr];simp);rw[hcr]at hp ⊢;unfold Lib.atoiAll Lib.parseMag;simp only;rw[if_neg (show ¬(c.toNat=43∨c.toNat=45)by omega),if_neg s_,hp];simp only;rw[if_neg o_,if_neg o_,if_neg o_]
 .obtain⟨u,rfl⟩:∃ u:Nat,n = -(u:Int):=⟨n.natAbs,o_⟩;rw[Lib.itoa_neg u o_];have hp:=Znx u o_;unfold Lib.atoiAll Lib.parseMag;simp only;rw[if_pos (show((45:UInt8).toNat=43∨(45:UInt8).toNat=45)from .inr rfl),if_neg (ZnS u),hp];simp only;have h45:(45:UInt8).toNat=45:=rfl;rw[if_neg o_,if_neg o_,if_pos h45]
theorem vW{n m:Int}(h0:-9223372036854775808<=n)(h1:n<=9223372036854775807)(g0:-9223372036854775808<=m)(g1:m<=9223372036854775807)(h:ZV n=ZV m):n=m:=by
 have a:=aD h0 h1;rw[h,aD g0 g1]at a;injection a with a;exact a.symm

def Yq(p:UInt8->Bool):List UInt8->List UInt8->List (List UInt8)
 |cur,[]=>[cur]
 |cur,b::r=>if p b=true then cur::Yq p [] r else Yq p (cur++[b]) r
theorem Qw{p:UInt8->Bool}{sep:UInt8}(hs:p sep=true):∀ (w cur r:List UInt8),(∀ b∈w,p b=false)->Yq p cur (w++sep::r)=(cur++w):: Yq p [] r
 |[],cur,r,_=>by simp[Yq,hs]
 |b::w,cur,r,h=>by
  have hb:=h b s_
  have ih:=Qw hs w (cur++[b]) r fun x hx=>h x (by simp[hx])
  simp only[List.cons_append,Yq,hb]
  rw[if_neg AO,ih]
  simp
theorem kK{p:UInt8->Bool}:∀ (w cur:List UInt8),(∀ b∈w,p b=false)->Yq p cur w=[cur++w]
 |[],cur,_=>by simp[Yq]
 |b::w,cur,h=>by
  have hb:=h b s_
  have ih:=kK w (cur++[b]) fun x hx=>h x (by simp[hx])
  simp only[Yq,hb]
  rw[if_neg AO,ih]
  simp
theorem vX(p:UInt8->Bool):∀ (l cur:List UInt8),Yq p cur l≠[]
 |[],cur=>by simp[Yq]
 |b::l,cur=>by
  rw[Yq]
  split
  .simp
  .exact vX p l _
def Cc(c:UInt8)(b:UInt8):Bool:=b == c
def CX(s:ByteArray)(c:UInt8)(start k:Nat)(L:List ByteArray):Prop :=
 Yq (Cc c) [] s.data.toList=L.map (fun x=>x.data.toList)++Yq (Cc c) ((s.data.toList.drop start).take (k-start)) (s.data.toList.drop k)
theorem UL(s:ByteArray)(a b:Nat):(s.extract a b).data.toList=(s.data.toList.drop a).take (b-a):=by
 rw[<- ByteArray.toList_eq];exact Lib.extract_toList s a b
theorem ZeQ(s:ByteArray)(c:UInt8):CX s c 0 0 []:=by simp[CX]
theorem Zip{l:List UInt8}{a k:Nat}{b:UInt8}(hak:a<=k)(hb:l[k]? = some b):(l.drop a).take (k-a)++[b]=(l.drop a).take (k+1-a):=by
 have e:k+1-a=(k-a)+1:=by omega
 have hd:(l.drop a)[k-a]? = some b:=by rw[List.getElem?_drop];rw[show a+(k-a)=k by omega];exact hb
 obtain⟨hi,he⟩:=List.getElem?_eq_some_iff.1 hd;rw[e,List.take_succ_eq_append_getElem hi,he]
theorem CX.no{s:ByteArray}{c:UInt8}{a k:Nat}(h:CX s c a k L)(hak:a<=k)(hk:k<s.size)(hc:(s[k]== c)=false):CX s c a (k+1) L:=by
 unfold CX at *
 rw[h,Uo s hk,Yq];rw[if_neg (by unfold Cc;rw[hc];decide)]
 have hb:s.data.toList[k]? = some s[k]:=by
  have hk':k<s.data.toList.length:=by simpa using hk
  rw[List.getElem?_eq_getElem hk'];rfl
 rw[Zip hak hb]
theorem CX.yes{s:ByteArray}{c:UInt8}{a k:Nat}(h:CX s c a k L)(hk:k<s.size)(hc:(s[k]== c)=true):CX s c (k+1) (k+1) (L++[s.extract a k]):=by
 unfold CX at *
 rw[h,Uo s hk,Yq];rw[if_pos (by unfold Cc;exact hc)];simp[UL]
theorem CX.done{s:ByteArray}{c:UInt8}{a k:Nat}(h:CX s c a k L)(hk:k=s.size):Yq (Cc c) [] s.data.toList=(L++[s.extract a s.size]).map (fun x=>x.data.toList):=by
 subst hk;unfold CX at h;have hl:s.data.toList.length=s.size:=by simp
 have e:s.data.toList.drop s.size=[]:=List.drop_of_length_le o_;rw[h,e,Yq];simp[UL]
theorem Zk1(c:UInt8)(b:UInt8)(w:World):Calls prog 108 #[.string ⟨#[c]⟩,.int .u8 (b.toNat:Int)] w fun e w'=>e=QM (b == c)/\w=w':=by
 have hx:((⟨#[c]⟩:ByteArray)[0]'(by show 0<1;omega))=c:=rfl;go_enter func108,ntmps108;go_wp2_with fail;go_loop [5] (fun i=>∃ k:Nat,i=.int .i64 (k:Int)/\(k=0∨(k=1/\¬ b=c))) (fun i=>2-(intOf i).toNat)
 case atStart=>exact⟨0,rfl,.inl rfl⟩
 case round =>
  obtain⟨k,rfl,hk⟩:=hrel;rcases hk with rfl |⟨rfl,hne⟩
  .by_cases hbc:b=c
   .subst hbc;go_wp2;go_ret;exact⟨s_,rfl⟩
   .have hne:¬(c.toNat:Int)=(b.toNat:Int):=fun e=>hbc (UInt8.toNat_inj.1 o_)
    have hne2:¬ c.toNat=b.toNat:=by omega
    have hq:((c.toNat:Int)==(b.toNat:Int))=false:=by simp;omega
    go_wp2;exact⟨⟨1,s_,.inr ⟨rfl,hbc⟩⟩,by simp[intOf]⟩
  .go_wp2;go_ret;exact⟨by simp[hne],rfl⟩
def ZkU(w:World)(s:ByteArray)(c:UInt8)(e:Ending)(w':World):Prop :=
 ∃ (v:Sv) (L:List ByteArray),e=.returned (.slice v.A v.n v.c)/\Own w' w.heap.size 9 1 v.A v.n v.c (L.map ZZ)/\L.map (fun x=>x.data.toList)=Yq (Cc c) [] s.data.toList/\Below w.heap.size w w'
theorem JP(s:ByteArray)(c:UInt8)(w:World)(hs:s.size<=4194304):
  Calls prog 79 #[.string s,.string ⟨#[c]⟩] w fun e w'=>ZkU w s c e w':=by
 obtain⟨i0,hii,hq0,hq1,hq2⟩:=info_parts JO;go_enter func79,ntmps79;go_wp2_with fail;go_loopw [5,6,7] (fun l st i wr=>∃ (k a:Nat) (A:Option Addr) (cc:Nat) (L:List ByteArray),l=.slice A L.length cc/\st=.int .i64 (a:Int)/\i=.int .i64 (k:Int)/\a<=k/\k<=s.size/\L.length<=k/\CX s c a k L/\Own wr w.heap.size 9 1 A L.length cc (L.map ZZ)/\Below w.heap.size w wr) (fun _ _ i _=>s.size-(intOf i).toNat)
 case atStart=>exact⟨0,0,_,0,[],rfl,rfl,rfl,Zd _,Nat.zero_le _,Zd _,ZeQ s c,JV w _ 1 (Zd _),Ze (Below.refl _ _) _⟩
 case round =>
  obtain⟨k,a,A,cc,L,rfl,rfl,rfl,hak,hk,hL,hi,ho,hb⟩:=hrel;have HI:=Z5 hi;have HO:=Z5 ho;have HB:=Z5 hb;clear hi ho hb;by_cases hlt:k<s.size
  .go_wp2_with fail;refine Calls.mono (Zk1 c s[k] _) ?_;rintro e w1 ⟨rfl,rfl⟩;cases hc:s[k]== c with
   |false =>
    have HN:=Z5 (HI.out.no hak hlt hc);clear hc;go_wp2_with fail;exact⟨⟨k+1,a,A,cc,L,rfl,rfl,s_,o_,o_,o_,HN.out,HO.out,HB.out⟩,by simp only[intOf];omega⟩
   |true =>
    have HN:=Z5 (HI.out.yes hlt hc);have hai:(a:Int)<=(k:Int):=by omega
    have hki:(k:Int)<=(s.size:Int):=by omega
    clear hc;go_wp2_with (at_builtin;refine ZX rfl (.tmp 20) (.tmp 25) 74 rfl w.heap.size 9 1 16 i0 _ underlying74 hii hq0 hq1 hq2 rfl o_ A L.length cc (L.map ZZ) rfl (HO.out.Aj _) _ 1 1 [[.string (s.extract a k)]] rfl (Yh _ _ [.string (s.extract a k)] 1 _ s_) s_ (by simp[Value.oneCell']) (by simp only[maxLen];omega) o_ (by have:=HB.out.size;simp;omega) ?_;intro A5 c5 w5 Cn hg5 Eo);exact⟨⟨k+1,k+1,A5,c5,L++[s.extract a k],s_,s_,s_,o_,o_,AR,HN.out,by rw[List.length_append,List.map_append];exact Cn,Qn (Ze HB.out _) hg5 (fun q hq=>(HO.out.lt q hq).1)⟩,by simp only[intOf];omega⟩
  .obtain rfl:k=s.size:=by omega
   have hkn:¬(s.size:Int)<(s.size:Int):=by omega
   have hai:(a:Int)<=(s.size:Int):=by omega
   have HD:=Z5 (HI.out.done rfl);go_wp2_with (at_builtin;refine ZX rfl (.tmp 29) (.tmp 33) 74 rfl w.heap.size 9 1 16 i0 _ underlying74 hii hq0 hq1 hq2 rfl o_ A L.length cc (L.map ZZ) rfl (HO.out.Aj _) _ 1 1 [[.string (s.extract a s.size)]] rfl (Yh _ _ [.string (s.extract a s.size)] 1 _ s_) s_ (by simp[Value.oneCell']) (by simp only[maxLen];omega) o_ (by have:=HB.out.size;simp;omega) ?_;intro A5 c5 w5 Cn hg5 Eo);go_ret;exact⟨⟨A5,L.length+1,c5⟩,L++[s.extract a s.size],rfl,by rw[List.map_append];exact Cn,HD.out.symm,Qn (Ze HB.out _) hg5 (fun q hq=>(HO.out.lt q hq).1)⟩

open Classical in
noncomputable def Ck(s:ByteArray):Option Int :=
 if h:∃ n:Int,(-9223372036854775808<=n/\n<=9223372036854775807)/\Ya n=s then some (Classical.choose h)else none
theorem ZjN{n m:Int}(h0:-9223372036854775808<=n)(h1:n<=9223372036854775807)(g0:-9223372036854775808<=m)(g1:m<=9223372036854775807)(h:Ya n=Ya m):n=m:=by
 refine vW h0 h1 g0 g1 ?_;have:=congrArg (fun x=>x.data.toList) h;simpa [Ya]using this
theorem Jo{n:Int}{s:ByteArray}(h0:-9223372036854775808<=n)(h1:n<=9223372036854775807)(h:Ya n=s):Ck s=some n:=by
 have hx:∃ n:Int,(-9223372036854775808<=n/\n<=9223372036854775807)/\Ya n=s:=⟨n,⟨h0,h1⟩,h⟩;unfold Ck;rw[dif_pos hx];have hc:=Classical.choose_spec hx;rw[ZjN hc.1.1 hc.1.2 h0 h1 (hc.2.trans h.symm)]
theorem vY{s:ByteArray}(h:∀ n:Int,-9223372036854775808<=n->n<=9223372036854775807->Ya n≠s):Ck s=none:=by
 unfold Ck;rw[dif_neg];rintro⟨n,⟨h0,h1⟩,e⟩;exact h n h0 h1 e
theorem Zfs{n:Int}{s:ByteArray}(h:Ck s=some n):-9223372036854775808<=n/\n<=9223372036854775807/\Ya n=s:=by
 unfold Ck at h;split at h
 case isTrue hx =>
  have hc:=Classical.choose_spec hx;injection h with h;rw[h]at hc;exact⟨hc.1.1,hc.1.2,hc.2⟩
 case isFalse=>cases h
def OL(o:Option Int):Value:=match o with|some n=>.tuple #[.int .i64 n,.bool true]| none=>.tuple #[.int .i64 0,.bool false]
theorem tq{d:Int}(h:0<=d)(h9:d<=9):(-9223372036854775808+d).tdiv 10 = -((9223372036854775808-d) / 10):=by
 rw[show -9223372036854775808+d = -(9223372036854775808-d)by omega,Int.neg_tdiv,Int.tdiv_eq_ediv_of_nonneg o_]
theorem kL{a b:ByteArray}(h:a.toList=b.toList):a=b:=by
 rw[ByteArray.toList_eq,ByteArray.toList_eq]at h;exact ByteArray.ext (Array.toList_inj.1 h)
end Go.Proofs.YtcnbphnnfmphlaaGreatDoor
