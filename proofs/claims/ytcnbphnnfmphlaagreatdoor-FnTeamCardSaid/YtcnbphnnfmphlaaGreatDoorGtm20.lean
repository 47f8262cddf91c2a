/- Texts of this proof. -/
import Derived.Shelf.Small.Wraps
import Derived.Shelf.Small.Strs
import Derived.Shelf.Strings.Cut
import Derived.Test.YtcnbphnnfmphlaaGreatDoorGtm21
import Derived.Test.YtcnbphnnfmphlaaGreatDoorGtm22
namespace Go.Proofs
open Go.Shelf
def YtcnbphnnfmphlaaGreatDoor.Hf:Go.Shelf.Ren:=⟨fun|103=>80|210=>109|206=>144|n=>n,fun|9=>9|4=>4|24=>67|3=>3|n=>n,fun|n=>n⟩
theorem XI:Go.Proofs.Lays.n103 Tryz.prog YtcnbphnnfmphlaaGreatDoor.Hf:={
 mixed:=by kernel_rfl
 f103:=Tryz.func80.trans (congrArg some (by kernel_rfl))
 f206:=Tryz.func144.trans (congrArg some (by kernel_rfl))
 f210:=Tryz.func109.trans (congrArg some (by kernel_rfl))
 t3:=Tryz.underlying3
 a3:=Tryz.isAgg3
 z3:=Tryz.sizeOf3
 v3:=Tryz.zeroValue3
 t4:=Tryz.underlying4
 a4:=Tryz.isAgg4
 z4:=Tryz.sizeOf4
 v4:=Tryz.zeroValue4
 t9:=Tryz.underlying9
 a9:=Tryz.isAgg9
 z9:=Tryz.sizeOf9
 v9:=Tryz.zeroValue9
 t24:=Tryz.underlying67
 a24:=Tryz.isAgg67
 z24:=Tryz.sizeOf67
 v24:=Tryz.zeroValue67 }
open Go.RowKit in
theorem YtcnbphnnfmphlaaGreatDoor.strings_CutPrefix(s p:ByteArray)(w:World):
  Calls Tryz.prog 80 #[.string s,.string p] w fun e w'=>e=.returned (.tuple #[.string ⟨(Lib.trimPrefix s.data.toList p.data.toList).toArray⟩,.bool (Lib.hasPrefix s.data.toList p.data.toList)])/\w'=w:=Any.strings_CutPrefix XI s p w
def YtcnbphnnfmphlaaGreatDoor.Hg:Go.Shelf.Ren:=⟨fun|137=>68|217=>102|266=>141|n=>n,fun|9=>9|5=>5|3=>3|n=>n,fun|n=>n⟩
theorem XH:Go.Proofs.Lays.n137 Tryz.prog YtcnbphnnfmphlaaGreatDoor.Hg:={
 mixed:=by kernel_rfl
 f137:=Tryz.func68.trans (congrArg some (by kernel_rfl))
 f217:=Tryz.func102.trans (congrArg some (by kernel_rfl))
 f266:=Tryz.func141.trans (congrArg some (by kernel_rfl))
 t3:=Tryz.underlying3
 a3:=Tryz.isAgg3
 z3:=Tryz.sizeOf3
 v3:=Tryz.zeroValue3
 t5:=Tryz.underlying5
 a5:=Tryz.isAgg5
 z5:=Tryz.sizeOf5
 v5:=Tryz.zeroValue5
 t9:=Tryz.underlying9
 a9:=Tryz.isAgg9
 z9:=Tryz.sizeOf9
 v9:=Tryz.zeroValue9 }
open Go.RowKit in
theorem YtcnbphnnfmphlaaGreatDoor.strings_IndexByte(s:ByteArray)(c:Int)(w:World):
  Calls Tryz.prog 68 #[.string s,.int .u8 c] w fun e w'=>e=.returned (.int .i64 (Lib.indexByte s.data.toList c.toNat.toUInt8))/\w'=w:=Any.strings_IndexByte XH s c w
def YtcnbphnnfmphlaaGreatDoor.Hl:Go.Shelf.Ren:=⟨fun|145=>103|220=>142|219=>172|217=>102|225=>196|224=>197|267=>198|266=>141|314=>219|n=>n,fun|9=>9|4=>4|59=>174|3=>3|5=>5|46=>98|146=>285|51=>272|n=>n,fun|1=>0|n=>n⟩
theorem XG:Go.Proofs.Lays.n145 Tryz.prog YtcnbphnnfmphlaaGreatDoor.Hl:={
 mixed:=by kernel_rfl
 f145:=Tryz.func103.trans (congrArg some (by kernel_rfl))
 f217:=Tryz.func102.trans (congrArg some (by kernel_rfl))
 f219:=Tryz.func172.trans (congrArg some (by kernel_rfl))
 f220:=Tryz.func142.trans (congrArg some (by kernel_rfl))
 f224:=Tryz.func197.trans (congrArg some (by kernel_rfl))
 f225:=Tryz.func196.trans (congrArg some (by kernel_rfl))
 f266:=Tryz.func141.trans (congrArg some (by kernel_rfl))
 f267:=Tryz.func198.trans (congrArg some (by kernel_rfl))
 f314:=Tryz.func219.trans (congrArg some (by kernel_rfl))
 t3:=Tryz.underlying3
 a3:=Tryz.isAgg3
 z3:=Tryz.sizeOf3
 v3:=Tryz.zeroValue3
 t4:=Tryz.underlying4
 a4:=Tryz.isAgg4
 z4:=Tryz.sizeOf4
 v4:=Tryz.zeroValue4
 t5:=Tryz.underlying5
 a5:=Tryz.isAgg5
 z5:=Tryz.sizeOf5
 v5:=Tryz.zeroValue5
 t9:=Tryz.underlying9
 a9:=Tryz.isAgg9
 z9:=Tryz.sizeOf9
 v9:=Tryz.zeroValue9
 t46:=Tryz.underlying98
 a46:=Tryz.isAgg98
 z46:=Tryz.sizeOf98
 v46:=Tryz.zeroValue98
 t51:=Tryz.underlying272
 a51:=Tryz.isAgg272
 z51:=Tryz.sizeOf272
 v51:=Tryz.zeroValue272
 t59:=Tryz.underlying174
 a59:=Tryz.isAgg174
 z59:=Tryz.sizeOf174
 v59:=Tryz.zeroValue174
 t146:=Tryz.underlying285
 a146:=Tryz.isAgg285
 z146:=Tryz.sizeOf285
 v146:=Tryz.zeroValue285
 g1:=by kernel_rfl }
open Go.RowKit in
theorem YtcnbphnnfmphlaaGreatDoor.strings_Cut(s sep:ByteArray)(m:Int)(w:World)(hs:s.size<4294967281)(hm:w.cell? ⟨0,0,none⟩=some (.int .i64 m)):
  Calls Tryz.prog 103 #[.string s,.string sep] w fun e w'=>e=.returned (.tuple #[.string ⟨(Lib.cut s.data.toList sep.data.toList).1.toArray⟩,.string ⟨(Lib.cut s.data.toList sep.data.toList).2.1.toArray⟩,.bool (Lib.cut s.data.toList sep.data.toList).2.2])/\∃ n,w'=w.drewN n:=Any.strings_Cut XG s sep m w hs hm
end Go.Proofs


namespace Go.Proofs.YtcnbphnnfmphlaaGreatDoor
open Bool renaming and_eq_true → Zc
open Go.Calls renaming mono → Zb
open Go.Lib renaming hid → Z5,itoa → ZV
open List renaming mem_append → Z9,mem_cons → Zn,take_of_length_le → Zp,length_append → Zq,length_cons → Zt,length_drop → ZK
open Nat renaming le_refl → Zd,zero_le → Zs
open Go.Proofs.Tryz
open Go.RowKit
set_option linter.unusedVariables false
set_option linter.unusedSimpArgs false
set_option maxHeartbeats 4000000
set_option maxRecDepth 100000
variable{f:A7}{p:Int}{l:List Entry}{B:List UInt8}{w':World}
def Zo9(w:World)(s:ByteArray)(e:Ending)(w':World):Prop :=
 Below w.heap.size w w'/\((∃ (b:Br) (v:Sv),KH s=some b/\e=.returned (.tuple #[Xn b.AU v.A v.n v.c,.bool true])/\BR w' v b.Ab/\Ag w.heap.size w' (Ea v))∨(KH s=none/\e=.returned (.tuple #[Xn 0 none 0 0,.bool false])))
theorem wR(p:UInt8->Bool):∀ (l cur:List UInt8),(Yq p cur l).length<=l.length+1
 |[],cur=>by simp[Yq]
 |b::l,cur=>by
  rw[Yq]
  split
  .have:=wR p l []
   simp;omega
  .have:=wR p l (cur++[b])
   simp;omega
theorem Zib{s:ByteArray}{c:UInt8}{L:List ByteArray}(hL:L.map (fun x=>x.data.toList)=Yq (Cc c) [] s.data.toList):L.length<=s.size+1:=by
 have h:=wR (Cc c) s.data.toList [];rw[<- hL]at h;simpa using h
theorem Zol{w:ByteArray}{t:List UInt8}  :Lib.hasPrefix w.data.toList Xa=true->w.data.toList=Xa++Lib.trimPrefix w.data.toList Xa:=by
 intro h;unfold Lib.trimPrefix;rw[if_pos h];unfold Lib.hasPrefix at h;obtain⟨r,hr⟩:=List.isPrefixOf_iff_prefix.1 h;rw[<- hr];simp
theorem Zlc(r:List UInt8):Lib.hasPrefix (Xa++r) Xa=true/\Lib.trimPrefix (Xa++r) Xa=r:=by
 have h:Lib.hasPrefix (Xa++r) Xa=true:=by unfold Lib.hasPrefix;rw[List.isPrefixOf_iff_prefix];exact List.prefix_append _ _
 exact⟨h,by unfold Lib.trimPrefix;rw[if_pos h];simp⟩
theorem ZfU{w0:ByteArray}{r:Int}(h0:w0.data.toList=Xa++ZV r)(h1:0<=r)(h2:r<=2):Lib.hasPrefix w0.data.toList Xa=true/\Ck ⟨(Lib.trimPrefix w0.data.toList Xa).toArray⟩=some r:=by
 obtain⟨a,b⟩:=Zlc (ZV r);rw[h0,b];exact⟨a,Jo o_ o_ rfl⟩
theorem ZlW{w0:ByteArray}{r:Int}(h:Lib.hasPrefix w0.data.toList Xa=true)(hp:Ck ⟨(Lib.trimPrefix w0.data.toList Xa).toArray⟩=some r):w0.data.toList=Xa++ZV r:=by
 have e:=Zol (t:=[]) h;have:=(Zfs hp).2.2
 have h2:ZV r=Lib.trimPrefix w0.data.toList Xa:=by
  have:=congrArg (fun x=>x.data.toList) this;simpa [Ya]using this
 rw[h2];exact e
theorem Zio(w:ByteArray)(p:List UInt8):(⟨(Lib.trimPrefix w.data.toList p).toArray⟩:ByteArray).size<=w.size:=by
 have h2:w.data.toList.length=w.size:=by simp
 show(Lib.trimPrefix w.data.toList p).toArray.size<=_;rw[List.size_toArray];unfold Lib.trimPrefix;split
 .rw[ZK];omega
 .omega
theorem Own.D9{w:World}{B e sz n c:Nat}{A:Option Addr}{css:List (List Value)}(h:Own w B e sz A n c css){p:Addr}(hp:p.block<B)(u:Value):Own (w.setCell p u) B e sz A n c css:=h.keep fun g hg=>Below.heap_setCell w p u g (by have:=(h.lt g hg).1;omega)
theorem ZmV{w:World}{row:Option Nat}{b:Nat}{t:TypeId}{cs:List Value}(hg:w.grownBy w' row)(h:Bk w b t cs)(hn:¬ row=some b):Bk w' b t cs:=(hg.block b h.lt (fun e=>hn e.symm)).trans h
theorem UJ(h:Zy f=true):f.AL.size<=4194304/\f.Z00.size<=4194304:=by
 obtain⟨_,_,_,_,h5,h6,h7⟩:=Q1 h
 have nm:∀ (s:ByteArray) (c:Int),Xe s c=true->s.size<=8:=fun s c h=>by
  unfold Xe FH at h;simp only[Zc,decide_eq_true_eq]at h;exact h.1.1.2
 constructor
 .by_cases k:f.kind=1
  .have e:=h5 k;rw[ByteArray.toList_eq]at e;have:f.AL.data.toList.length=f.AL.size:=by simp
   rw[show f.AL.data.toList=[]by simpa using e]at this;simp at this;omega
  .have:=nm _ _ (h6 k);omega
 .rcases h7 with h|h
  .have:=nm _ _ h;omega
  .have:=nm _ _ h;omega
theorem Zkj{T:List ByteArray}{F:List A7}(h:T.map Jf=F.map some):∀ f∈F,f.AL.size<=4194304/\f.Z00.size<=4194304:=by
 intro f hf;have h1:some f∈T.map Jf:=by rw[h];exact List.mem_map.2 ⟨f,hf,rfl⟩
 obtain⟨x,_,hx⟩:=List.mem_map.1 h1;exact UJ (kQ hx).1
theorem ZbL{s w0:ByteArray}{T:List ByteArray}(hL:(w0::T).map (fun x=>x.data.toList)=Yq (Cc 59) [] s.data.toList)(h:¬(Lib.hasPrefix w0.data.toList Xa=true/\(Ck ⟨(Lib.trimPrefix w0.data.toList Xa).toArray⟩).isSome=true)):KH s=none:=by
 refine wQ fun b hb=>h ?_
 obtain⟨v0,U,e,h0,hT⟩:=aN hb hL;simp only[List.cons.injEq]at e;obtain⟨rfl,rfl⟩:=e;have hp:=YT hb.1;obtain⟨a,c⟩:=ZfU h0 hp.1 hp.2.1;rw[c];exact⟨a,rfl⟩
theorem ZbK{s w0:ByteArray}{T:List ByteArray}(hL:(w0::T).map (fun x=>x.data.toList)=Yq (Cc 59) [] s.data.toList){k:Nat}{x:ByteArray}(hk:T[k]? = some x)(hx:Jf x=none):KH s=none:=by
 refine wQ fun b hb=>?_
 obtain⟨v0,U,e,h0,hT⟩:=aN hb hL;simp only[List.cons.injEq]at e;obtain⟨rfl,rfl⟩:=e;have h1:(T.map Jf)[k]? = some none:=by rw[List.getElem?_map,hk];simp[hx]
 rw[hT,List.getElem?_map]at h1;cases hf:b.Ab[k]? with
 |none=>rw[hf]at h1;cases h1
 |some f=>rw[hf]at h1;simp at h1
theorem ZpJ{s w0:ByteArray}{T:List ByteArray}{r:Int}{F:List A7}(hL:(w0::T).map (fun x=>x.data.toList)=Yq (Cc 59) [] s.data.toList)(h:Lib.hasPrefix w0.data.toList Xa=true)(hp:Ck ⟨(Lib.trimPrefix w0.data.toList Xa).toArray⟩=some r)(hT:T.map Jf=F.map some):
  (Yg r F=true->KH s=some ⟨r,F⟩)/\(Yg r F=false->KH s=none):=by
 constructor
 .intro hb;exact Z9W ⟨hb,ZrC hL (ZlW h hp) hT⟩
 .intro hb;refine wQ fun b wT=>?_
  obtain⟨v0,U,e,h0,PY⟩:=aN wT hL;simp only[List.cons.injEq]at e;obtain⟨rfl,rfl⟩:=e;rw[hT]at PY;have hl:=Z68 PY;have hq:=YT wT.1;have hr:=(ZfU h0 hq.1 hq.2.1).2;rw[hp]at hr;simp only[Option.some.injEq]at hr;have:=wT.1;rw[<- hl,<- hr,hb]at this;cases this
def Zs5:A7:=⟨0,0,⟨#[]⟩,⟨#[]⟩,⟨0,0,0⟩,0⟩
theorem b2{a w:World}(h:Below a.heap.size a w){b:Nat}(hb:a.heap.size<=b)(u0 u1:Value):Below a.heap.size a ((w.setCell ⟨b,0,none⟩ u0).setCell ⟨b,1,none⟩ u1):=Dp (Dp h hb u0) hb u1
theorem Zm6{T:List ByteArray}{F:List A7}{k:Nat}{x:ByteArray}(h:(T.take k).map Jf=F.map some)(hk:T[k]? = some x)(hf:Jf x=some f):(T.take (k+1)).map Jf=(F++[f]).map some:=by
 obtain⟨hi,he⟩:=List.getElem?_eq_some_iff.1 hk;rw[List.take_succ_eq_append_getElem hi,List.map_append,List.map_append,h,he];simp[hf]
theorem Z4C(s:ByteArray)(w:World)(hs:s.size<=4194304)(hT:EX w):Calls prog 55 #[.string s] w fun e w'=>Zo9 w s e w':=by
 obtain⟨i0,hii,hq0,hq1,hq2⟩:=info_parts XT;have HT:=Z5 hT;clear hT;go_enter func55,ntmps55;go_wp2_with fail;refine Zb (JP s 59 _ o_) ?_;rintro e KS ⟨v,L,rfl,ho,hL,hb1⟩;have bx1:=(Bk.new w [.int .i64 0,.slice none 0 0] 73 _ rfl).below hb1;have B1:Below w.heap.size w KS:=Zg (Ze (Below.refl _ _) _) hb1;have HL:=Z5 hL;have hlen:L.length=v.n:=by have:=ho.lens;simpa [Hid]using this
 have hrow:D7 KS v.A v.n L:=ho.row;have hws:=wH hL;have hcnt:=Zib hL;have hnc:=ho.nc;simp only[maxLen]at hnc;have HT1:=Z5 (HT.out.below B1)
 have hne:L≠[]:=by
  intro h;rw[h]at hL;exact vX _ _ _ hL.symm
 clear hb1 ho hL HT;obtain⟨A,n,c⟩:=v;simp only at hlen hrow hnc
 obtain⟨w0,T,rfl⟩:∃ w0 T,L=w0::T:=by
  cases L with
  |nil=>exact absurd rfl hne
  |cons a l=>exact⟨a,l,rfl⟩
 obtain⟨m,rfl⟩:∃ m,n=m+1:=⟨n-1,by simp at hlen;omega⟩;obtain⟨d,rfl⟩:∃ d,c=d+1:=⟨c-1,o_⟩;have hTl:T.length=m:=by simpa using hlen
 have hms:m<=4194304:=by simp at hcnt;omega
 obtain⟨g,off,rfl⟩:=hrow.some_ o_;have c0:=XJ hrow (k:=0) (f:=w0) rfl;simp only[Nat.add_zero]at c0;have hz0:=hws w0 s_;have HWS:=Z5 (fun x hx=>hws x (List.mem_cons_of_mem w0 hx))
 have R4:D7 KS (some ⟨g,off+1,none⟩) m T:=by
  have:=Row.GV (c:=ZZ) hrow (k:=1) o_;simpa using this
 have SY:=Z5 R4;obtain⟨num,Hm⟩:∃ x,x=(⟨(Lib.trimPrefix w0.data.toList Xa).toArray⟩:ByteArray):=⟨_,rfl⟩;obtain⟨hp,hhp⟩:∃ x,x=Lib.hasPrefix w0.data.toList Xa:=⟨_,rfl⟩;have hnz:num.size<=s.size:=by rw[Hm];have:=Zio w0 Xa;omega
 have Sk:(m:Int)+1<=(d:Int)+1:=by omega
 clear hws hne hrow R4 hcnt;have T3:=Z5 Hm;have wU:=Z5 hhp;clear Hm hhp;go_wp2_with (go_at_call 80;refine(YtcnbphnnfmphlaaGreatDoor.strings_CutPrefix w0 _ _).mono ?_;rw[show(ByteArray.mk #[98,117,110,100,108,101,32]).data.toList=Xa from rfl,<- T3.out,<- wU.out];rintro e SK ⟨rfl,rfl⟩);refine Zb (Yj num _ o_ HT1.out) ?_;rintro e Ej ⟨rfl,hb3⟩;have B23:=Z5 hb3;have C4:=bx1.below hb3;have B3:=Zg B1 hb3;have HT3:=Z5 (HT1.out.below hb3);have hz3:=hb3.size;have Z6q:=B3.size;have hg1:=Y6 c0;clear hb3 bx1 B1 c0;by_cases hok:hp=true/\(Ck num).isSome=true
 .obtain⟨rfl,hsome⟩:=hok;obtain⟨r,hr⟩:=Option.isSome_iff_exists.1 hsome;rw[hr,show OL (some r)=.tuple #[.int .i64 r,.bool true]from rfl];have aO:=Z5 (fun F hF=>ZpJ (F:=F) HL.out wU.out.symm (T3.out▸hr) hF);clear hsome hr;by_cases hd:d=0
  .subst hd;have hm0:m=0:=by omega
   go_wp2_with fail;go_loopw [40] (fun iv wr=>∃ (k:Nat) (A':Option Addr) (c':Nat) (F:List A7),iv=.int .i64 (k:Int)/\k<=m/\F.length=k/\(T.take k).map Jf=F.map some/\Own wr (Ej.heap.size+1) 35 8 A' k c' (F.map A7.cells)/\Bk wr Ej.heap.size 73 [.int .i64 r,.slice A' k c']/\Below Ej.heap.size Ej wr) (fun iv _=>m-(intOf iv).toNat)
   case atStart=>exact⟨0,none,0,[],rfl,o_,rfl,rfl,Qz _ _ _ _,Bk.new Ej [.int .i64 r,.slice none 0 0] 73 _ rfl,Ze (Below.refl _ _) _⟩
   case round =>
    obtain⟨k,A',c',F,rfl,hk,hFl,hF,ho,hp,hbr⟩:=hrel;have HO:=Z5 ho;have HF:=Z5 hF;clear ho hF;have wV:=hbr.size;have hlt:¬ k<m:=by omega
    clear hm0 hnc Sk;obtain rfl:k=m:=by omega
    have hkk:¬(k:Int)<(k:Int):=by omega
    have aP:T.take k=T:=Zp o_;have hF2:=HF.out;rw[aP]at hF2;have hend:=aO.out F hF2;have hsz:∀ f∈F,f.AL.size<=4194304/\f.Z00.size<=4194304:=Zkj hF2;clear hF2 aP;have q0:=hp.bx.cells 0 _ rfl;have q1:=hp.bx.cells 1 _ rfl;have qf:=hp.bx.Bf;have qz:=hp.lt;cases hv:Yg r F with
    |false =>
     have HN:=Z5 (hend.2 hv);have HV:=Z5 hv;clear hend hv;go_wp2_with (go_at_call 50;refine(YP r A' k c' F _ o_ (HO.out.row) hsz).mono ?_;rw[HV.out];rintro e SS ⟨rfl,hb6⟩;have FY:=hp.below hb6;have Da:=Zg hbr hb6;have C5:=C4.below Da;have s0:=FY.bx.cells 0 _ rfl;have s1:=FY.bx.cells 1 _ rfl;have sf:=FY.bx.Bf;have sz:=FY.lt;have r0:=C5.bx.cells 0 _ rfl;have r1:=C5.bx.cells 1 _ rfl;have rf:=C5.bx.Bf;have rz:=C5.lt);refine bodyPost_ret (v:=.tuple #[Xn 0 none 0 0,.bool false]) (by simp[*,results,results55,go_sem]) rfl ⟨?_,.inr ⟨HN.out,rfl⟩⟩;exact b2 (Zg B3 Da) (Zd _) _ _
    |true =>
     have HP:=Z5 (hend.1 hv);have HV:=Z5 hv;clear hend hv;go_wp2_with (go_at_call 50;refine(YP r A' k c' F _ o_ (HO.out.row) hsz).mono ?_;rw[HV.out];rintro e SS ⟨rfl,hb6⟩;have FY:=hp.below hb6;have Da:=Zg hbr hb6;have C5:=C4.below Da;have s0:=FY.bx.cells 0 _ rfl;have s1:=FY.bx.cells 1 _ rfl;have sf:=FY.bx.Bf;have sz:=FY.lt;have r0:=C5.bx.cells 0 _ rfl;have r1:=C5.bx.cells 1 _ rfl;have rf:=C5.bx.Bf;have rz:=C5.lt);have KG:=Own.D9 (Own.D9 (HO.out.below hb6) (p:=⟨w.heap.size,0,none⟩) (by simp only;omega) (.int .i64 r)) (p:=⟨w.heap.size,1,none⟩) (by simp only;omega) (.slice A' k c');refine bodyPost_ret (v:=.tuple #[Xn r A' k c',.bool true]) (by simp[*,results,results55,go_sem]) rfl ⟨?_,.inl ⟨⟨r,F⟩,⟨A',k,c'⟩,HP.out,rfl,KG.zero,Ag.Ay (YC KG) o_⟩⟩;exact b2 (Zg B3 Da) (Zd _) _ _
  .have hd1:(1:Int)<(d:Int)+1:=by omega
   go_wp2_with fail;go_loopw [40] (fun iv wr=>∃ (k:Nat) (A':Option Addr) (c':Nat) (F:List A7),iv=.int .i64 (k:Int)/\k<=m/\F.length=k/\(T.take k).map Jf=F.map some/\Own wr (Ej.heap.size+1) 35 8 A' k c' (F.map A7.cells)/\Bk wr Ej.heap.size 73 [.int .i64 r,.slice A' k c']/\Below Ej.heap.size Ej wr) (fun iv _=>m-(intOf iv).toNat)
   case atStart=>exact⟨0,none,0,[],rfl,o_,rfl,rfl,Qz _ _ _ _,Bk.new Ej [.int .i64 r,.slice none 0 0] 73 _ rfl,Ze (Below.refl _ _) _⟩
   case round =>
    obtain⟨k,A',c',F,rfl,hk,hFl,hF,ho,hp,hbr⟩:=hrel;have HO:=Z5 ho;have HF:=Z5 hF;clear ho hF;have wV:=hbr.size;by_cases hlt:k<m
    .obtain⟨x,hx⟩:=UR (L:=T) (k:=k) o_;have cx:=Zm hbr (Zm B23.out (XJ SY.out hx));have hxs:=HWS.out x (List.mem_of_getElem? hx);have hi0:(0:Int)<=(k:Int):=by omega
     have hi1:(k:Int)<(m:Int):=by omega
     have wW:=Z5 hx;clear hx;go_wp2_with fail;refine Zb (Z07 x _ o_ (HT3.out.below hbr)) ?_;rintro e E7 ⟨rfl,hb4⟩;clear cx;have EY:=Zg hbr hb4;have Oj:=hp.below hb4;have R5:=Z5 (HO.out.below hb4);cases Ey:Jf x with
     |none =>
      have HN:=Z5 (ZbK HL.out wW.out Ey);rw[show aI none=.tuple #[Yx 0 0 ⟨#[]⟩ ⟨#[]⟩ 0 0 0 0,.bool false]from rfl];have NT:=(C4.below EY).Aj (.cells #[.int .i64 0,.int .i64 0,.string ⟨#[]⟩,.string ⟨#[]⟩,.int .i64 0,.int .i64 0,.int .i64 0,.int .i64 0] 35);have r0:=NT.bx.cells 0 _ rfl;have r1:=NT.bx.cells 1 _ rfl;have rf:=NT.bx.Bf;have rz:=NT.lt;go_wp2_with fail;refine bodyPost_ret (v:=.tuple #[Xn 0 none 0 0,.bool false]) (by simp[*,results,results55,go_sem]) rfl ⟨?_,.inr ⟨HN.out,rfl⟩⟩;exact b2 (Ze (Zg B3 EY) _) (Zd _) _ _
     |some f =>
      rw[show aI (some f)=.tuple #[Yx f.id f.kind f.AL f.Z00 f.Af.turn f.Af.x f.Af.y f.Ao,.bool true]from rfl];have HS:=Z5 (Zm6 HF.out wW.out Ey);clear Ey wW HF;have lF:=Oj.Aj (.cells f.cells.toArray 35);have Z6r:=EY.size;have hnP:¬ Ej.heap.size=E7.heap.size:=by have:=Oj.lt;omega
      have q0:=Oj.bx.cells 0 _ rfl;have q1:=Oj.bx.cells 1 _ rfl;have qf:=Oj.bx.Bf;have qz:=Oj.lt;have s0:=lF.bx.cells 0 _ rfl;have s1:=lF.bx.cells 1 _ rfl;have sf:=lF.bx.Bf;have sz:=lF.lt;go_wp2_with (at_builtin;refine ZX rfl (.tmp 53) (.tmp 55) 23 rfl (Ej.heap.size+1) 35 8 80 i0 _ underlying23 hii hq0 hq1 hq2 rfl o_ A' k c' (F.map A7.cells) rfl ((R5.out.Aj _).Aj _) _ 1 1 [f.cells] rfl (Yh _ _ f.cells 8 _ s_) (by simp[A7.cells]) (by simp[A7.cells,Value.oneCell']) (by simp only[maxLen];omega) o_ AR ?_;intro A5 c5 R3 Cn hg5 Eo;have FY:=(Oj.Aj (.cells f.cells.toArray 35)).Aj (.cells f.cells.toArray 35);have aQ:=ZmV hg5 FY (fun e=>by have:=(R5.out.lt _ e).1;omega);have t0:=aQ.bx.cells 0 _ rfl;have t1:=aQ.bx.cells 1 _ rfl;have tf:=aQ.bx.Bf;have tz:=aQ.lt);have Iq:Own (R3.setCell ⟨Ej.heap.size,1,none⟩ (.slice A5 (k+1) c5)) (Ej.heap.size+1) 35 8 A5 (k+1) c5 ((F++[f]).map A7.cells):=by rw[List.map_append];exact Own.D9 Cn (by simp only;omega) _
      exact⟨⟨k+1,A5,c5,F++[f],s_,o_,by simp[hFl],HS.out,Iq,aQ.set 1 _,Dp (Qn (Ze (Ze EY _) _) hg5 (fun q hq=>by have:=(R5.out.lt q hq).1;omega)) (Zd _) _⟩,by simp only[intOf];omega⟩
    .obtain rfl:k=m:=by omega
     have hkk:¬(k:Int)<(k:Int):=by omega
     have aP:T.take k=T:=Zp o_;have hF2:=HF.out;rw[aP]at hF2;have hend:=aO.out F hF2;have hsz:∀ f∈F,f.AL.size<=4194304/\f.Z00.size<=4194304:=Zkj hF2;clear hF2 aP;have q0:=hp.bx.cells 0 _ rfl;have q1:=hp.bx.cells 1 _ rfl;have qf:=hp.bx.Bf;have qz:=hp.lt;cases hv:Yg r F with
     |false =>
      have HN:=Z5 (hend.2 hv);have HV:=Z5 hv;clear hend hv;go_wp2_with (go_at_call 50;refine(YP r A' k c' F _ o_ (HO.out.row) hsz).mono ?_;rw[HV.out];rintro e SS ⟨rfl,hb6⟩;have FY:=hp.below hb6;have Da:=Zg hbr hb6;have C5:=C4.below Da;have s0:=FY.bx.cells 0 _ rfl;have s1:=FY.bx.cells 1 _ rfl;have sf:=FY.bx.Bf;have sz:=FY.lt;have r0:=C5.bx.cells 0 _ rfl;have r1:=C5.bx.cells 1 _ rfl;have rf:=C5.bx.Bf;have rz:=C5.lt);refine bodyPost_ret (v:=.tuple #[Xn 0 none 0 0,.bool false]) (by simp[*,results,results55,go_sem]) rfl ⟨?_,.inr ⟨HN.out,rfl⟩⟩;exact b2 (Zg B3 Da) (Zd _) _ _
     |true =>
      have HP:=Z5 (hend.1 hv);have HV:=Z5 hv;clear hend hv;go_wp2_with (go_at_call 50;refine(YP r A' k c' F _ o_ (HO.out.row) hsz).mono ?_;rw[HV.out];rintro e SS ⟨rfl,hb6⟩;have FY:=hp.below hb6;have Da:=Zg hbr hb6;have C5:=C4.below Da;have s0:=FY.bx.cells 0 _ rfl;have s1:=FY.bx.cells 1 _ rfl;have sf:=FY.bx.Bf;have sz:=FY.lt;have r0:=C5.bx.cells 0 _ rfl;have r1:=C5.bx.cells 1 _ rfl;have rf:=C5.bx.Bf;have rz:=C5.lt);have KG:=Own.D9 (Own.D9 (HO.out.below hb6) (p:=⟨w.heap.size,0,none⟩) (by simp only;omega) (.int .i64 r)) (p:=⟨w.heap.size,1,none⟩) (by simp only;omega) (.slice A' k c');refine bodyPost_ret (v:=.tuple #[Xn r A' k c',.bool true]) (by simp[*,results,results55,go_sem]) rfl ⟨?_,.inl ⟨⟨r,F⟩,⟨A',k,c'⟩,HP.out,rfl,KG.zero,Ag.Ay (YC KG) o_⟩⟩;exact b2 (Zg B3 Da) (Zd _) _ _
 .have HN:=Z5 (ZbL HL.out (by rw[<- wU.out,<- T3.out];exact hok));have HV:=Z5 (UQ (Ck num));rw[HV.out];generalize (Ck num).isSome=o at *
  have r0:=C4.bx.cells 0 _ rfl;have r1:=C4.bx.cells 1 _ rfl;have rf:=C4.bx.Bf;have rz:=C4.lt;cases hp<;>cases o<;>first |(exact absurd ⟨rfl,rfl⟩ hok)|(clear hok;go_wp2_with fail;(refine bodyPost_ret (v:=.tuple #[Xn 0 none 0 0,.bool false]) (by simp[*,results,results55,go_sem]) rfl ⟨?_,.inr ⟨HN.out,rfl⟩⟩);exact b2 B3 (Zd _) _ _)
noncomputable def gF(x:ByteArray):A7:=(Jf x).getD Zs5
def tot(T:List ByteArray):Nat:=Y9 (fun x=>x.size+1) T
theorem FW(n:Int)(h0:-9223372036854775808<=n)(h1:n<=9223372036854775807):F6 n:=by
 simp[F6,Lit.wf,IntKind.min,IntKind.max,IntKind.signed,IntKind.bits];omega
theorem Zsz(x:ByteArray):A7.ok (gF x):=by
 unfold gF;cases h:Jf x with
 |none=>exact⟨AO,AO,FW _ AO AO,FW _ AO AO,FW _ AO AO,FW _ AO AO,FW _ AO AO,FW _ AO AO⟩
 |some f =>
  have hv:=(kQ h).1;obtain⟨h1,h2,h3,h4,_⟩:=Q1 hv;obtain⟨t,x,y⟩:=SG h3;have i1:=Y8.1 h1;have i2:=Y8.1 h2;have hs:=UJ hv;have w:=FW;exact⟨by simp only[maxLen,Option.getD_some];omega,by simp only[maxLen,Option.getD_some];omega,w _ (by simp only[Option.getD_some];omega) (by simp only[Option.getD_some];omega),w _ (by simp only[Option.getD_some];omega) (by simp only[Option.getD_some];omega),w _ (by simp only[Option.getD_some];omega) (by simp only[Option.getD_some];omega),w _ (by simp only[Option.getD_some];omega) (by simp only[Option.getD_some];omega),w _ (by simp only[Option.getD_some];omega) (by simp only[Option.getD_some];omega),w _ (by simp only[Option.getD_some];omega) (by simp only[Option.getD_some];omega)⟩
theorem ZoK(x:ByteArray):-9223372036854775808<=(Ck x).getD 0/\(Ck x).getD 0<=9223372036854775807:=by
 cases h:Ck x with
 |none=>simp
 |some n=>have:=Zfs h;simp;omega
def FZ(ln:List UInt8)(p:Int)(e:Entry):Prop:=Yc e=true/\Be p 0 65520=true/\(XP e p).data.toList=ln++[10]
theorem ZnQ{ln:List UInt8}{e:Entry}(h:FZ ln p e):ln=Ff e++32::35::ZV (YH e p):=by
 have:=h.2.2;unfold XP at this;simp only at this;have e2:Ff e++32::35 ::(ZV (YH e p)++[10])=(Ff e++32::35::ZV (YH e p))++[10]:=by simp
 rw[e2]at this;exact(List.append_cancel_right this).symm
def Ig:List UInt8:=[97,100,100,32]
def LW:List UInt8:=[114,101,109,111,118,101,32]
def Fa:A7:=⟨0,0,⟨#[]⟩,⟨#[]⟩,⟨0,0,0⟩,0⟩
theorem ZjO(h:f.isZero=true):f=Fa:=by
 unfold A7.isZero at h;simp only[Zc,beq_iff_eq]at h;obtain⟨h1,h2,h3,h4,h5,h6,h7,h8⟩:=h;have e1:f.AL=⟨#[]⟩:=by rw[ByteArray.toList_eq]at h3;exact Dh (by simpa using h3)
 have e2:f.Z00=⟨#[]⟩:=by rw[ByteArray.toList_eq]at h4;exact Dh (by simpa using h4)
 obtain⟨fi,fk,ff,ft,⟨pt,px,py⟩,fw⟩:=f;simp only at h1 h2 e1 e2 h5 h6 h7 h8;rw[h1,h2,e1,e2,h5,h6,h7,h8];rfl
theorem JS{e:Entry}(h:Yc e=true):(∃ f,e=⟨false,0,f⟩/\Zy f=true/\Ff e=Ig++EG f)∨(∃ n,e=⟨true,n,Fa⟩/\(0<=n/\n<=99999)/\Ff e=LW++ZV n):=by
 obtain⟨r,n,f⟩:=e;unfold Yc at h;cases r with
 |true =>
  simp only[if_true,Zc,Y8]at h;exact .inr ⟨n,by rw[ZjO h.2],h.1,rfl⟩
 |false =>
  simp only[Bool.false_eq_true,if_false,Zc,beq_iff_eq]at h;exact .inl ⟨f,by rw[h.1],h.2,rfl⟩
theorem ZnP{e:Entry}(h:Yc e=true){c:UInt8}(hc:c=10∨c=35):∀ b∈Ff e,Cc c b=false:=by
 rcases JS h with⟨f,_,hv,he⟩|⟨n,_,_,he⟩
 .rw[he];intro b hb;rcases Z9.1 hb with hb|hb
  .have h1:∀ b∈Ig,Cc 10 b=false/\Cc 35 b=false:=by decide
   rcases hc with rfl|rfl
   .exact(h1 b hb).1
   .exact(h1 b hb).2
  .exact ZnN hv (.inr hc) b hb
 .rw[he];intro b hb;rcases Z9.1 hb with hb|hb
  .have h1:∀ b∈LW,Cc 10 b=false/\Cc 35 b=false:=by decide
   rcases hc with rfl|rfl
   .exact(h1 b hb).1
   .exact(h1 b hb).2
  .exact KQ (.inr (.inr (.inr hc))) (JM _ _ hb)
theorem wX{ln:List UInt8}{e:Entry}(h:FZ ln p e):∀ b∈ln,Cc 10 b=false:=by
 rw[ZnQ h];intro b hb;simp only[Z9,Zn]at hb;rcases hb with hb|rfl|rfl|hb
 .exact ZnP h.1 s_ b hb
 .decide
 .decide
 .exact KQ s_ (JM _ _ hb)
theorem Zaf:∀ (A X:List UInt8),(∀ b∈A,Cc 35 b=false)->Lib.index (A++32::35::X) [32,35]=A.length
 |[],X,_=>by simp[Lib.index]
 |a::A,X,h=>by
  have ih:=Zaf A X fun b hb=>h b (by simp[hb])
  have hp:List.isPrefixOf [32,35] (a ::(A++32::35::X))=false:=by
   cases A with
   |nil=>simp[List.isPrefixOf]
   |cons b A =>
    have hb:=h b s_;have hb:¬(35:UInt8)=b:=by intro e;rw[<- e]at hb;revert hb;decide
    simp[List.isPrefixOf,hb]
  rw[List.cons_append,Lib.index,hp,ih];have:¬((A.length:Int)== -1)=true:=by simp
  simp only[Bool.false_eq_true,if_false,if_neg this,Zt];omega
theorem aR{ln:List UInt8}{e:Entry}(h:FZ ln p e):Lib.cut ln [32,35]=(Ff e,ZV (YH e p),true):=by
 have hi:=Zaf (Ff e) (ZV (YH e p)) (ZnP h.1 s_);rw[ZnQ h];unfold Lib.cut;rw[hi,if_pos o_];simp
theorem Zmx{e g:Entry}(h:Yc e=true)(k:Yc g=true)(he:Ff e=Ff g):e=g:=by
 rcases JS h with⟨f,rfl,hv,h1⟩|⟨n,rfl,hn,h1⟩<;> rcases JS k with⟨f',rfl,hv',h2⟩|⟨n',rfl,hn',h2⟩
 .rw[h1,h2]at he;have he:=List.append_cancel_left he;rw[Zkl (s:=⟨(EG f).toArray⟩) ⟨hv,s_⟩ ⟨hv',by rw[<- he]⟩]
 .rw[h1,h2]at he;exact absurd (List.cons.inj he).1 AO
 .rw[h1,h2]at he;exact absurd (List.cons.inj he).1 AO
 .rw[h1,h2]at he;rw[vW o_ o_ o_ o_ (List.append_cancel_left he)]
theorem Zpq{ln:List UInt8}{q:Int}{e g:Entry}(h:FZ ln p e)(k:FZ ln q g):e=g:=by
 have a:=aR h;rw[aR k]at a;exact(Zmx k.1 h.1 (Prod.mk.inj a).1).symm
def Ho(r:List UInt8)(p:Int)(e:Entry):Prop:=Yc e=true/\Be p 0 65520=true/\∃ t,r=(XP e p).data.toList++t
theorem wY{r:List UInt8}{e:Entry}(h:Ho r p e):∃ ln t,r=ln++10::t/\FZ ln p e:=by
 obtain⟨h1,h2,t,rfl⟩:=h;refine⟨Ff e++32::35::ZV (YH e p),t,?_,h1,h2,?_⟩
 .unfold XP;simp
 .unfold XP;simp
theorem ZqZ{ln t:List UInt8}{e:Entry}(h:FZ ln p e):Ho (ln++10::t) p e :=
 ⟨h.1,h.2.1,t,by rw[h.2.2];simp⟩
theorem ZnB:∀ {a b t u:List UInt8},(∀ x∈a,Cc 10 x=false)->(∀ x∈b,Cc 10 x=false)->a++10::t=b++10::u->a=b/\t=u
 |[],[],t,u,_,_,h=>⟨rfl,(List.cons.inj h).2⟩
 |[],y::b,t,u,_,hb,h=>by
  have:=hb y s_
  rw[<-(List.cons.inj h).1]at this;exact absurd this AO
 |x::a,[],t,u,ha,_,h=>by
  have:=ha x s_
  rw[(List.cons.inj h).1]at this;exact absurd this AO
 |x::a,y::b,t,u,ha,hb,h=>by
  have h1:=List.cons.inj h
  obtain⟨h2,h3⟩:=ZnB (fun z hz=>ha z (by simp[hz])) (fun z hz=>hb z (by simp[hz])) h1.2
  exact⟨by rw[h1.1,h2],h3⟩
theorem Zny{ln t:List UInt8}{e:Entry}(hl:∀ x∈ln,Cc 10 x=false)(h:Ho (ln++10::t) p e):FZ ln p e:=by
 obtain⟨ln',t',he,h⟩:=wY h;obtain⟨h1,h2⟩:=ZnB hl (wX h) he;rw[h1];exact h
theorem ZqF{r:List UInt8}{e:Entry}(h:Ho r p e):10∈r:=by
 obtain⟨ln,t,rfl,_⟩:=wY h;simp
theorem ZoN{r:List UInt8}{q:Int}{e g:Entry}(h:Ho r p e)(k:Ho r q g):e=g:=by
 obtain⟨ln,t,rfl,h2⟩:=wY h;exact Zpq h2 (Zny (wX h2) k)
noncomputable def lG(r:List UInt8)(p:Int):Option Entry:=the (Ho r p)
theorem ZlU{r:List UInt8}{e:Entry}(h:Ho r p e):lG r p=some e:=kM (fun q hq=>ZoN hq h) h
theorem ZlV{r:List UInt8}(h:∀ e,¬ Ho r p e):lG r p=none:=kN h
theorem ZlT{r:List UInt8}{e:Entry}(h:lG r p=some e):Ho r p e:=vZ h
noncomputable def Ee:Nat->List UInt8->Int->List Entry×Nat×Int
 |0,_,p=>([],0,p)
 |k+1,r,p=>match lG r p with
  |none=>([],0,p)
  |some e=>(e ::(Ee k (r.drop (XP e p).size) (YH e p)).1,(XP e p).size+(Ee k (r.drop (XP e p).size) (YH e p)).2.1,(Ee k (r.drop (XP e p).size) (YH e p)).2.2)
theorem wZ{k:Nat}{r:List UInt8}(h:∀ e,¬ Ho r p e):Ee k r p=([],0,p):=by
 cases k with
 |zero=>rfl
 |succ k=>rw[Ee,ZlV h]
theorem Zfq{k:Nat}{r:List UInt8}{e:Entry}(h:Ho r p e):Ee (k+1) r p=(e ::(Ee k (r.drop (XP e p).size) (YH e p)).1,(XP e p).size+(Ee k (r.drop (XP e p).size) (YH e p)).2.1,(Ee k (r.drop (XP e p).size) (YH e p)).2.2):=by
 rw[Ee,ZlU h]
theorem Zg7{ln:List UInt8}{e:Entry}(h:FZ ln p e):(XP e p).size=ln.length+1:=by
 have h1:(XP e p).data.toList.length=(XP e p).size:=by simp
 rw[h.2.2]at h1;simp at h1;omega
def Ev(s:List UInt8)(l:List Entry)(n:Nat)(q:Int):Prop :=
 l.length<=60/\n<=s.length/\Ee 60 s 1=(l++(Ee (60-l.length) (s.drop n) q).1,n+(Ee (60-l.length) (s.drop n) q).2.1,(Ee (60-l.length) (s.drop n) q).2.2)
theorem ZeT(s:List UInt8):Ev s [] 0 1:=⟨s_,s_,s_⟩
theorem Ev.full{s:List UInt8}{n:Nat}{q:Int}(h:Ev s l n q)(hl:l.length=60):Ee 60 s 1=(l,n,q):=by
 obtain⟨_,_,h⟩:=h;rw[hl]at h;rw[h];simp[Ee]
theorem Ev.stop{s:List UInt8}{n:Nat}{q:Int}(h:Ev s l n q)(hn:∀ e,¬ Ho (s.drop n) q e):Ee 60 s 1=(l,n,q):=by
 obtain⟨_,_,h⟩:=h;rw[wZ hn]at h;rw[h];simp
theorem Ev.next{s:List UInt8}{n:Nat}{q:Int}{e:Entry}(h:Ev s l n q)(hl:l.length<60)(he:Ho (s.drop n) q e):Ev s (l++[e]) (n+(XP e q).size) (YH e q):=by
 obtain⟨_,h0,h⟩:=h;have hk:60-l.length=(60-(l++[e]).length)+1:=by simp;omega
 rw[hk,Zfq he,List.drop_drop]at h;refine⟨AR,?_,?_⟩
 .obtain⟨_,_,t,ht⟩:=he;have:=congrArg List.length ht;simp only[ZK,Zq]at this;have h1:(XP e q).data.toList.length=(XP e q).size:=by simp
  omega
 .rw[h];simp[Nat.add_assoc]
def Ed(w:World):Prop:=EX w/\∃ m,w.cell? ⟨0,0,none⟩=some (.int .i64 m)
theorem Ed.below{w:World}(h:Ed w)(hb:Below w.heap.size w w'):Ed w':=by
 obtain⟨h1,m,h2⟩:=h;exact⟨h1.below hb,m,Zm hb h2⟩
def QV(e:Entry):Value:=Ny e.remove e.id e.Bv.id e.Bv.kind e.Bv.AL e.Bv.Z00 e.Bv.Af.turn e.Bv.Af.x e.Bv.Af.y e.Bv.Ao
def xA(e:Entry):Prop:=e.Bv.AL.size<=4194304/\e.Bv.Z00.size<=4194304/\-9223372036854775808<=e.id/\e.id<=9223372036854775807
def ZrV(ln:List UInt8)(w:World)(e:Ending)(w':World):Prop :=
 ∃ (en:Entry) (ok:Bool),e=.returned (.tuple #[QV en,.bool ok])/\xA en/\(∀ p g,FZ ln p g->g=en/\ok=true)/\Below w.heap.size w w'
theorem xB(q r:List UInt8):Lib.hasPrefix (q++r) q=true/\Lib.trimPrefix (q++r) q=r:=by
 have h:Lib.hasPrefix (q++r) q=true:=by unfold Lib.hasPrefix;rw[List.isPrefixOf_iff_prefix];exact List.prefix_append _ _
 exact⟨h,by unfold Lib.trimPrefix;rw[if_pos h];simp⟩
theorem ZoL(r:List UInt8):Lib.hasPrefix (LW++r) Ig=false:=by
 simp[Lib.hasPrefix,LW,Ig,List.isPrefixOf]
theorem ZqG{ln A:List UInt8}(hc:Lib.cut ln [32,35]=(A,B,false))(p:Int)(g:Entry):¬ FZ ln p g:=by
 intro h;rw[aR h]at hc;simp at hc
theorem ZoQ{ln A:List UInt8}(hc:Lib.cut ln [32,35]=(A,B,true))(ha:Lib.hasPrefix A Ig=true){g:Entry}(h:FZ ln p g):∃ f,g=⟨false,0,f⟩/\Jf ⟨(Lib.trimPrefix A Ig).toArray⟩=some f:=by
 rw[aR h]at hc;have e1:A=Ff g:=(Prod.mk.inj hc).1.symm;rcases JS h.1 with⟨f,hg,hv,he⟩|⟨n,hg,hn,he⟩
 .refine⟨f,hg,aH ⟨hv,?_⟩⟩;rw[e1,he,(xB Ig (EG f)).2]
 .rw[e1,he,ZoL]at ha;cases ha
theorem ZoP{ln A:List UInt8}(hc:Lib.cut ln [32,35]=(A,B,true))(ha:Lib.hasPrefix A Ig=false){g:Entry}(h:FZ ln p g):∃ n,g=⟨true,n,Fa⟩/\Lib.hasPrefix A LW=true/\Ck ⟨(Lib.trimPrefix A LW).toArray⟩=some n:=by
 rw[aR h]at hc;have e1:A=Ff g:=(Prod.mk.inj hc).1.symm;rcases JS h.1 with⟨f,hg,hv,he⟩|⟨n,hg,hn,he⟩
 .rw[e1,he,(xB Ig (EG f)).1]at ha;cases ha
 .obtain⟨q1,q2⟩:=xB LW (ZV n);refine⟨n,hg,by rw[e1,he];exact q1,Jo o_ o_ ?_⟩;rw[e1,he,q2];rfl
theorem ZpA(ln sep:List UInt8):(Lib.cut ln sep).1.length<=ln.length:=by
 unfold Lib.cut;split
 .simp only[List.length_take];omega
 .exact Zd _
theorem Zf5(l p:List UInt8):(Lib.trimPrefix l p).length<=l.length:=by
 unfold Lib.trimPrefix;split
 .rw[ZK];omega
 .exact Zd _
theorem b10{a w:World}(h:Below a.heap.size a w){b:Nat}(hb:a.heap.size<=b)(u0 u1 u2 u3 u4 u5 u6 u7 u8 u9:Value):Below a.heap.size a ((((((((((w.setCell ⟨b,0,none⟩ u0).setCell ⟨b,1,none⟩ u1).setCell ⟨b,2,none⟩ u2).setCell ⟨b,3,none⟩ u3).setCell ⟨b,4,none⟩ u4).setCell ⟨b,5,none⟩ u5).setCell ⟨b,6,none⟩ u6).setCell ⟨b,7,none⟩ u7).setCell ⟨b,8,none⟩ u8).setCell ⟨b,9,none⟩ u9):=Dp (Dp (Dp (Dp (Dp (Dp (Dp (Dp (Dp (Dp h hb u0) hb u1) hb u2) hb u3) hb u4) hb u5) hb u6) hb u7) hb u8) hb u9
theorem T4(r:Bool){n:Int}(h0:-9223372036854775808<=n)(h1:n<=9223372036854775807):xA ⟨r,n,Fa⟩:=⟨by show(0:Nat)<=4194304;omega,by show(0:Nat)<=4194304;omega,h0,h1⟩
theorem Z5E(s:ByteArray)(w:World)(hs:s.size<=4194304)(hT:Ed w):Calls prog 69 #[.string s] w fun e w'=>ZrV s.data.toList w e w':=by
 obtain⟨hTE,mm,hmm⟩:=hT;have HT:=Z5 hTE;have hM:=Zm (Ze (Below.refl _ _) (.cells #[.bool false,.int .i64 0,.int .i64 0,.int .i64 0,.string ⟨#[]⟩,.string ⟨#[]⟩,.int .i64 0,.int .i64 0,.int .i64 0,.int .i64 0] 70)) hmm;have HM:=Z5 hM;obtain⟨A,B,fd,hcut⟩:∃ A B fd,Lib.cut s.data.toList [32,35]=(A,B,fd):=⟨_,_,_,rfl⟩;have hsl:s.data.toList.length=s.size:=by simp
 have hAl:A.length<=s.size:=by have:=ZpA s.data.toList [32,35];rw[hcut]at this;simp only at this;omega
 have hAs:(⟨A.toArray⟩:ByteArray).size=A.length:=by rw[Sb]
 have HC:=Z5 hcut;clear hTE hmm hM hcut;go_enter func69,ntmps69;go_wp2_with fail;refine Zb (YtcnbphnnfmphlaaGreatDoor.strings_Cut s _ mm _ o_ HM.out) ?_;rw[show Lib.cut s.data.toList (ByteArray.mk #[32,35]).data.toList=(A,B,fd)from HC.out];rintro e KS ⟨rfl,nd,hw1⟩;have bx1:Bk KS w.heap.size 70 [.bool false,.int .i64 0,.int .i64 0,.int .i64 0,.string ⟨#[]⟩,.string ⟨#[]⟩,.int .i64 0,.int .i64 0,.int .i64 0,.int .i64 0]:=by rw[hw1];exact(Bk.new w [.bool false,.int .i64 0,.int .i64 0,.int .i64 0,.string ⟨#[]⟩,.string ⟨#[]⟩,.int .i64 0,.int .i64 0,.int .i64 0,.int .i64 0] 70 _ rfl).below (Qh (Below.refl _ _) nd)
 have B1:Below w.heap.size w KS:=by rw[hw1];exact Qh (Ze (Below.refl _ _) (.cells #[.bool false,.int .i64 0,.int .i64 0,.int .i64 0,.string ⟨#[]⟩,.string ⟨#[]⟩,.int .i64 0,.int .i64 0,.int .i64 0,.int .i64 0] 70)) nd
 have HT1:=Z5 (HT.out.below B1);clear hw1 HM HT;cases fd with
 |false =>
  have HN:=Z5 (ZqG HC.out);have r0:=bx1.bx.cells 0 _ rfl;have r1:=bx1.bx.cells 1 _ rfl;have r2:=bx1.bx.cells 2 _ rfl;have r3:=bx1.bx.cells 3 _ rfl;have r4:=bx1.bx.cells 4 _ rfl;have r5:=bx1.bx.cells 5 _ rfl;have r6:=bx1.bx.cells 6 _ rfl;have r7:=bx1.bx.cells 7 _ rfl;have r8:=bx1.bx.cells 8 _ rfl;have r9:=bx1.bx.cells 9 _ rfl;have rf:=bx1.bx.Bf;have rz:=bx1.lt;go_wp2_with fail;refine bodyPost_ret (v:=.tuple #[QV (⟨false,0,Fa⟩),.bool false]) (by simp[*,QV,Fa,results,results69,go_sem]) rfl ⟨⟨false,0,Fa⟩,false,rfl,?_,?_,?_⟩
  .exact T4 _ o_ o_
  .intro p g h;exact absurd h (HN.out p g)
  .exact b10 B1 (Zd _) _ _ _ _ _ _ _ _ _ _
 |true =>
  cases US:Lib.hasPrefix A Ig with
  |true =>
   have T6:=Z5 (fun p g h=>ZoQ HC.out US (p:=p) (g:=g) h);have HP:=Z5 US;obtain⟨rest,hrest⟩:∃ x,x=(⟨(Lib.trimPrefix A Ig).toArray⟩:ByteArray):=⟨_,rfl⟩;have hrs:rest.size<=s.size:=by rw[hrest,Sb];have:=Zf5 A Ig;omega
   rw[<- hrest]at T6;have HR:=Z5 hrest;clear US hrest;go_wp2_with fail;refine Zb (YtcnbphnnfmphlaaGreatDoor.strings_CutPrefix ⟨A.toArray⟩ _ _) ?_;rw[show(ByteArray.mk #[97,100,100,32]).data.toList=Ig from rfl,show(ByteArray.mk A.toArray).data.toList=A from List.toList_toArray ..,<- HR.out,HP.out];rintro e SK ⟨rfl,hw2⟩;subst hw2;go_wp2_with fail;refine Zb (Z07 rest _ o_ HT1.out) ?_;rintro e Ej ⟨rfl,hb3⟩;have C4:=bx1.below hb3;have B3:=Zg B1 hb3;clear hb3 bx1 B1;cases Ey:Jf rest with
   |none =>
    rw[show aI none=.tuple #[Yx 0 0 ⟨#[]⟩ ⟨#[]⟩ 0 0 0 0,.bool false]from rfl];have HN:=Z5 (show ∀ p g,¬ FZ s.data.toList p g from fun p g h=>by obtain⟨f,_,hf⟩:=T6.out p g h;rw[Ey]at hf;cases hf);have Ci:=C4.Aj (.cells #[.int .i64 0,.int .i64 0,.string ⟨#[]⟩,.string ⟨#[]⟩,.int .i64 0,.int .i64 0,.int .i64 0,.int .i64 0] 35);have r0:=Ci.bx.cells 0 _ rfl;have r1:=Ci.bx.cells 1 _ rfl;have r2:=Ci.bx.cells 2 _ rfl;have r3:=Ci.bx.cells 3 _ rfl;have r4:=Ci.bx.cells 4 _ rfl;have r5:=Ci.bx.cells 5 _ rfl;have r6:=Ci.bx.cells 6 _ rfl;have r7:=Ci.bx.cells 7 _ rfl;have r8:=Ci.bx.cells 8 _ rfl;have r9:=Ci.bx.cells 9 _ rfl;have rf:=Ci.bx.Bf;have rz:=Ci.lt;clear Ey;go_wp2_with fail;refine bodyPost_ret (v:=.tuple #[QV (⟨false,0,Fa⟩),.bool false]) (by simp[*,QV,Fa,results,results69,go_sem]) rfl ⟨⟨false,0,Fa⟩,false,rfl,?_,?_,?_⟩
    .exact T4 _ o_ o_
    .intro p g h;exact absurd h (HN.out p g)
    .exact b10 (Ze B3 _) (Zd _) _ _ _ _ _ _ _ _ _ _
   |some f =>
    rw[show aI (some f)=.tuple #[Yx f.id f.kind f.AL f.Z00 f.Af.turn f.Af.x f.Af.y f.Ao,.bool true]from rfl];have HN:=Z5 (show ∀ p g,FZ s.data.toList p g->g=⟨false,0,f⟩/\true=true from fun p g h=>by obtain⟨f',hg,hf⟩:=T6.out p g h;rw[Ey]at hf;injection hf with hf;rw[hg,hf];exact⟨rfl,rfl⟩);have KM:=Z5 (UJ (kQ Ey).1);have Ci:=C4.Aj (.cells #[.int .i64 f.id,.int .i64 f.kind,.string f.AL,.string f.Z00,.int .i64 f.Af.turn,.int .i64 f.Af.x,.int .i64 f.Af.y,.int .i64 f.Ao] 35);have r0:=Ci.bx.cells 0 _ rfl;have r1:=Ci.bx.cells 1 _ rfl;have r2:=Ci.bx.cells 2 _ rfl;have r3:=Ci.bx.cells 3 _ rfl;have r4:=Ci.bx.cells 4 _ rfl;have r5:=Ci.bx.cells 5 _ rfl;have r6:=Ci.bx.cells 6 _ rfl;have r7:=Ci.bx.cells 7 _ rfl;have r8:=Ci.bx.cells 8 _ rfl;have r9:=Ci.bx.cells 9 _ rfl;have rf:=Ci.bx.Bf;have rz:=Ci.lt;clear Ey;go_wp2_with fail;refine bodyPost_ret (v:=.tuple #[QV (⟨false,0,f⟩),.bool true]) (by simp[*,QV,Fa,results,results69,go_sem]) rfl ⟨⟨false,0,f⟩,true,rfl,?_,?_,?_⟩
    .exact⟨KM.out.1,KM.out.2,by show(-9223372036854775808:Int)<=0;omega,by show(0:Int)<=_;omega⟩
    .intro p g h;exact⟨(HN.out p g h).1,rfl⟩
    .exact b10 (Ze B3 _) (Zd _) _ _ _ _ _ _ _ _ _ _
  |false =>
   have T6:=Z5 (fun p g h=>ZoP HC.out US (p:=p) (g:=g) h);have HP:=Z5 US;obtain⟨rest,hrest⟩:∃ x,x=(⟨(Lib.trimPrefix A LW).toArray⟩:ByteArray):=⟨_,rfl⟩;obtain⟨hp2,T7⟩:∃ x,x=Lib.hasPrefix A LW:=⟨_,rfl⟩;obtain⟨Z6s,R6⟩:∃ x,x=(⟨(Lib.trimPrefix A Ig).toArray⟩:ByteArray):=⟨_,rfl⟩;have hrs:rest.size<=s.size:=by rw[hrest,Sb];have:=Zf5 A LW;omega
   rw[<- hrest,<- T7]at T6;have HR:=Z5 hrest;have HR0:=Z5 R6;have HH:=Z5 T7;clear US hrest R6 T7;go_wp2_with fail;refine Zb (YtcnbphnnfmphlaaGreatDoor.strings_CutPrefix ⟨A.toArray⟩ _ _) ?_;rw[show(ByteArray.mk #[97,100,100,32]).data.toList=Ig from rfl,show(ByteArray.mk A.toArray).data.toList=A from List.toList_toArray ..,<- HR0.out,HP.out];rintro e SK ⟨rfl,hw2⟩;subst hw2;go_wp2_with fail;refine Zb (YtcnbphnnfmphlaaGreatDoor.strings_CutPrefix ⟨A.toArray⟩ _ _) ?_;rw[show(ByteArray.mk #[114,101,109,111,118,101,32]).data.toList=LW from rfl,show(ByteArray.mk A.toArray).data.toList=A from List.toList_toArray ..,<- HR.out,<- HH.out];rintro e SK ⟨rfl,hw2⟩;subst hw2;go_wp2_with fail;refine Zb (Yj rest _ o_ HT1.out) ?_;rintro e Ej ⟨rfl,hb3⟩;have C4:=bx1.below hb3;have B3:=Zg B1 hb3;clear hb3 bx1 B1;have hrg:=ZoK rest;have HV:=Z5 (UQ (Ck rest));have HN:=Z5 (show ∀ p g,FZ s.data.toList p g->g=⟨true,(Ck rest).getD 0,Fa⟩/\hp2=true/\(Ck rest).isSome=true from fun p g h=>by obtain⟨n,hg,h1,h2⟩:=T6.out p g h;rw[h2,hg];exact⟨rfl,h1,rfl⟩);rw[HV.out];clear HV T6;generalize (Ck rest).getD 0=n at *
   generalize (Ck rest).isSome=o at *
   have r0:=C4.bx.cells 0 _ rfl;have r1:=C4.bx.cells 1 _ rfl;have r2:=C4.bx.cells 2 _ rfl;have r3:=C4.bx.cells 3 _ rfl;have r4:=C4.bx.cells 4 _ rfl;have r5:=C4.bx.cells 5 _ rfl;have r6:=C4.bx.cells 6 _ rfl;have r7:=C4.bx.cells 7 _ rfl;have r8:=C4.bx.cells 8 _ rfl;have r9:=C4.bx.cells 9 _ rfl;have rf:=C4.bx.Bf;have rz:=C4.lt;cases hp2<;>cases o
   .go_wp2_with fail;refine bodyPost_ret (v:=.tuple #[QV (⟨true,n,Fa⟩),.bool false]) (by simp[*,QV,Fa,results,results69,go_sem]) rfl ⟨⟨true,n,Fa⟩,false,rfl,?_,?_,?_⟩
    .exact T4 _ o_ o_
    .intro p g h;obtain⟨_,h1,_⟩:=HN.out p g h;cases h1
    .exact b10 B3 (Zd _) _ _ _ _ _ _ _ _ _ _
   .go_wp2_with fail;refine bodyPost_ret (v:=.tuple #[QV (⟨true,n,Fa⟩),.bool false]) (by simp[*,QV,Fa,results,results69,go_sem]) rfl ⟨⟨true,n,Fa⟩,false,rfl,?_,?_,?_⟩
    .exact T4 _ o_ o_
    .intro p g h;obtain⟨_,h1,_⟩:=HN.out p g h;cases h1
    .exact b10 B3 (Zd _) _ _ _ _ _ _ _ _ _ _
   .go_wp2_with fail;refine bodyPost_ret (v:=.tuple #[QV (⟨true,n,Fa⟩),.bool false]) (by simp[*,QV,Fa,results,results69,go_sem]) rfl ⟨⟨true,n,Fa⟩,false,rfl,?_,?_,?_⟩
    .exact T4 _ o_ o_
    .intro p g h;obtain⟨_,_,h1⟩:=HN.out p g h;cases h1
    .exact b10 B3 (Zd _) _ _ _ _ _ _ _ _ _ _
   .go_wp2_with fail;refine bodyPost_ret (v:=.tuple #[QV (⟨true,n,Fa⟩),.bool true]) (by simp[*,QV,Fa,results,results69,go_sem]) rfl ⟨⟨true,n,Fa⟩,true,rfl,?_,?_,?_⟩
    .exact T4 _ o_ o_
    .intro p g h;exact⟨(HN.out p g h).1,rfl⟩
    .exact b10 B3 (Zd _) _ _ _ _ _ _ _ _ _ _
theorem lH(e:Entry)(p:Int):Be (YH e p) 0 65520=true:=by
 rw[Y8];exact wO e p
def DL:List Entry->Int->List UInt8
 |[],_=>[]
 |e::l,p=>(XP e p).data.toList++DL l (YH e p)
def R7:List Entry->Int->Int
 |[],p=>p
 |e::l,p=>R7 l (YH e p)
theorem ZfO:∀ (l m:List Entry) (p:Int),DL (l++m) p=DL l p++DL m (R7 l p)
 |[],m,p=>rfl
 |e::l,m,p=>by
  show _++DL (l++m) _=(_++DL l _)++_
  rw[ZfO l m,List.append_assoc];rfl
theorem Zmv{e:Entry}(h:Yc e=true)(hp:Be p 0 65520=true):∃ ln,FZ ln p e :=
 ⟨Ff e++32::35::ZV (YH e p),h,hp,by unfold XP;simp⟩
theorem xC{r:List UInt8}{q:Int}(h:∀ x∈r,Cc 10 x=false)(e:Entry):¬ Ho r p e:=by
 intro hp;have:=h 10 (ZqF hp);revert this;decide
theorem MB(s:ByteArray):s.data.toList.length=s.size:=by simp
theorem Zfp:∀ (l:List Entry) (p:Int) (f k:Nat),(∀ e∈l,Yc e=true)->Be p 0 65520=true->l.length<=f ->
  ∃ m,m<=l.length/\Ee f ((DL l p).take k) p=(l.take m,(DL (l.take m) p).length,R7 (l.take m) p)/\(DL (l.take m) p).length<=k/\((DL l p).length<=k->m=l.length)
 |[],p,f,k,_,_,_=>by
  refine⟨0,Zd _,?_,by simp[DL],fun _=>rfl⟩
  rw[wZ (xC (q:=0) (by simp[DL]))]
  simp[DL,R7]
 |e::l,p,f,k,h,hp,hf=>by
  obtain⟨f,rfl⟩:∃ g,f=g+1:=⟨f-1,by simp at hf;omega⟩
  obtain⟨ln,hln⟩:=Zmv (h e s_) hp
  have hsz:=Zg7 hln
  have hdl:=MB (XP e p)
  by_cases hk:(XP e p).size<=k
  .have ht:(DL (e::l) p).take k=(XP e p).data.toList++(DL l (YH e p)).take (k-(XP e p).size):=by
    show((XP e p).data.toList++DL l (YH e p)).take k=_;rw[List.take_append,Zp o_,hdl]
   obtain⟨m,hm,hr,hl,hw⟩:=Zfp l (YH e p) f (k-(XP e p).size) (fun g hg=>h g (by simp[hg])) (lH e p) (by simp at hf;omega);refine⟨m+1,AR,?_,?_,?_⟩
   .rw[Zfq (e:=e) ⟨h e s_,hp,_,ht⟩,ht,List.drop_append,List.drop_of_length_le o_,hdl,Nat.sub_self,List.drop_zero,List.nil_append,hr];simp only[List.take_succ_cons,DL,R7,Zq,hdl]
   .simp only[List.take_succ_cons,DL,Zq,hdl];omega
   .intro hle;simp only[DL,Zq,hdl]at hle;rw[hw o_];rfl
  .refine⟨0,Zs _,?_,by simp[DL],?_⟩
   .have ht:(DL (e::l) p).take k=ln.take k:=by
     show((XP e p).data.toList++DL l (YH e p)).take k=_;rw[hln.2.2,List.take_append,List.take_append];have e1:k-ln.length=0:=by omega
     have e2:k-(ln++[10]).length=0:=by simp;omega
     rw[e1,e2];simp
    rw[ht,wZ (xC (q:=0) fun x hx=>wX hln x (List.mem_of_mem_take hx))];simp[DL,R7]
   .intro hle;exfalso;simp only[DL,Zq,hdl]at hle;omega
theorem ZoG(h:∀ e∈l,Yc e=true)(hl:l.length<=60):Ee 60 (DL l 1) 1=(l,(DL l 1).length,R7 l 1):=by
 obtain⟨m,hm,hr,_,hw⟩:=Zfp l 1 60 (DL l 1).length h AO hl;rw[Zp (Zd _)]at hr;rw[hw (Zd _),Zp (Zd _)]at hr;exact hr
theorem Zet :(Tryz.prog.info? 70).map (fun i=>(i.zero,i.size,i.bytes))=some (some (.agg #[.bool false,.int .i64 0,.int .i64 0,.int .i64 0,.string ByteArray.empty,.string ByteArray.empty,.int .i64 0,.int .i64 0,.int .i64 0,.int .i64 0]),10,96):=by kernel_rfl
def Zt7:Value->Nat|.slice _ n _=>n|_=>0
def IE(w:World)(s:ByteArray)(e:Ending)(w':World):Prop :=
 ∃ v:Sv,e=.returned (.tuple #[.slice v.A v.n v.c,.int .i64 ((Ee 60 s.data.toList 1).2.1:Int),.int .i64 (Ee 60 s.data.toList 1).2.2])/\qU w' v (Ee 60 s.data.toList 1).1/\Ag w.heap.size w' (fpN v)/\Below w.heap.size w w'
theorem ZnJ:∀ r:List UInt8,(Lib.indexByte r 10 = -1/\∀ x∈r,Cc 10 x=false)∨∃ ln t,r=ln++10::t/\(∀ x∈ln,Cc 10 x=false)/\Lib.indexByte r 10=(ln.length:Int)
 |[]=>.inl ⟨rfl,s_⟩
 |b::r=>by
  by_cases hb:b=10
  .subst hb
   exact .inr ⟨[],r,rfl,s_,by simp[Lib.indexByte]⟩
  .have hbq:(b == 10)=false:=by simpa using hb
   rcases ZnJ r with⟨h1,h2⟩|⟨ln,t,h1,h2,h3⟩
   .refine .inl ⟨by rw[Lib.indexByte,hbq,h1];rfl,fun x hx=>?_⟩
    rcases Zn.1 hx with rfl|hx
    .exact hbq
    .exact h2 x hx
   .refine .inr ⟨b::ln,t,by rw[h1];rfl,fun x hx=>?_,?_⟩
    .rcases Zn.1 hx with rfl|hx
     .exact hbq
     .exact h2 x hx
    .rw[Lib.indexByte,hbq,h3]
     have:((ln.length:Int)== -1)=false:=by simp
     rw[this];simp
theorem Zm9{ln t:List UInt8}{q:Int}{en:Entry}{full:ByteArray}(hf:full.data.toList=ln++[10])(hE:FZ ln q en):XO en q=(XP en q,YH en q)/\((XO en q).1.toList == full.toList)=true/\Ho (ln++10::t) q en/\(XP en q).size=ln.length+1/\(XO en q).1.toList.isEmpty=false:=by
 have h1:XO en q=(XP en q,YH en q):=by unfold XO;rw[hE.1,hE.2.1];rfl
 have h2:XP en q=full:=Dh (hE.2.2.trans hf.symm);refine⟨h1,by rw[h1,h2];simp,ZqZ hE,Zg7 hE,?_⟩;rw[h1,h2,ByteArray.toList_eq,hf];simp
theorem Zp4{ln t:List UInt8}{q:Int}{en:Entry}{full:ByteArray}{ok:Bool}(hl:∀ x∈ln,Cc 10 x=false)(hf:full.data.toList=ln++[10])(hp:∀ p g,FZ ln p g->g=en/\ok=true)(hE:¬(FZ ln q en/\ok=true)):(∀ g,¬ Ho (ln++10::t) q g)/\(ok=true->((XO en q).1.toList == full.toList)=false):=by
 constructor
 .intro g hg;have h:=Zny hl hg;obtain⟨rfl,ho⟩:=hp _ _ h;exact hE ⟨h,ho⟩
 .intro ho;rw[Bool.eq_false_iff];intro h;have h2:=kL (eq_of_beq h);unfold XO at h2;by_cases hv:(Yc en && Be q 0 65520)=true
  .rw[if_pos hv]at h2;rw[Zc]at hv;exact hE ⟨⟨hv.1,hv.2,by rw[show(XP en q,YH en q).1=XP en q from rfl]at h2;rw[h2];exact hf⟩,ho⟩
  .rw[if_neg hv]at h2;have:=congrArg (fun x=>x.data.toList) h2;rw[hf]at this;simp at this
theorem Z4t(s:ByteArray)(w:World)(hs:s.size<=4194304)(hT:Ed w):Calls prog 47 #[.string s] w fun e w'=>IE w s e w':=by
 obtain⟨i0,hii,hq0,hq1,hq2⟩:=info_parts Zet;have HT:=Z5 hT;have hsl:s.data.toList.length=s.size:=by simp
 clear hT;go_enter func47,ntmps47;go_wp2_with fail;go_loopw [5,6,7] (fun lv nv qv wr=>∃ (l:List Entry) (A:Option Addr) (c n:Nat) (q:Int),lv=.slice A l.length c/\nv=.int .i64 (n:Int)/\qv=.int .i64 q/\Ev s.data.toList l n q/\Be q 0 65520=true/\Own wr w.heap.size 70 10 A l.length c (l.map Entry.cells)/\Below w.heap.size w wr) (fun lv _ _ _=>60-Zt7 lv)
 case atStart=>exact⟨[],_,0,0,1,rfl,rfl,rfl,ZeT _,AO,JV w _ 10 (Zd _),Ze (Below.refl _ _) _⟩
 case round =>
  obtain⟨l,A,c,n,q,rfl,rfl,rfl,hi,hq,ho,hb⟩:=hrel;have HI:=Z5 hi;have HO:=Z5 ho;have HB:=Z5 hb;have HQ:=Z5 hq;have Z6t:=hi.1;have hns:n<=s.size:=by have:=hi.2.1;omega
  have hn0:(0:Int)<=(n:Int):=by omega
  have hn1:(n:Int)<=(s.size:Int):=by omega
  clear hi ho hb hq;by_cases hlt:l.length<60
  .have Z6u:(l.length:Int)< 60:=by omega
   have hdr:(s.extract n s.size).data.toList=s.data.toList.drop n:=by rw[UL];exact Zp s_
   rcases ZnJ (s.data.toList.drop n)with⟨h1,h2⟩|⟨ln,t,h1,h2,h3⟩
   .have HS:=Z5 (HI.out.stop (xC (q:=0) h2));have HX:=Z5 h1;have HD:=Z5 hdr;clear h1 h2 hdr;go_wp2_with (go_at_call 68;refine(YtcnbphnnfmphlaaGreatDoor.strings_IndexByte _ 10 _).mono ?_;rw[HD.out,show(10:Int).toNat.toUInt8=10 from rfl,HX.out];rintro e KS ⟨rfl,hw1⟩;subst hw1);refine bodyPost_ret (v:=.tuple #[.slice A l.length c,.int .i64 (n:Int),.int .i64 q]) (by simp[*,results,results47,go_sem]) rfl ⟨⟨A,l.length,c⟩,by rw[HS.out],?_,YC HO.out,HB.out⟩;rw[HS.out];exact HO.out.zero
   .have hlen:s.size-n=ln.length+1+t.length:=by
     have:=congrArg List.length h1;simp only[ZK,Zq,Zt,hsl]at this;omega
    have hL1:(s.extract n (n+ln.length)).data.toList=ln:=by rw[UL,h1];simp
    have hL2:(s.extract n (n+ln.length+1)).data.toList=ln++[10]:=by
     rw[UL,h1,show n+ln.length+1-n=ln.length+1 by omega];simp[List.take_append,Zp]
    have hz1:(s.extract n (n+ln.length)).size<=s.size:=by
     have:=MB (s.extract n (n+ln.length));rw[hL1]at this;omega
    have HX:=Z5 h3;have HD:=Z5 hdr;have H2:=Z5 h2;have H1:=Z5 h1;have HL1:=Z5 hL1;have HL2:=Z5 hL2;obtain⟨E,hE⟩:∃ E,E=ln.length:=⟨_,rfl⟩;rw[<- hE]at hlen HX HL1 HL2 hz1;have hne:(n:Int)+(E:Int)<=(s.size:Int):=by omega
    have hne1:(n:Int)+(E:Int)+1<=(s.size:Int):=by omega
    have hE0:(0:Int)<=(E:Int):=by omega
    have hnE:(n:Int)<=(n:Int)+(E:Int):=by omega
    have Z6v:(n:Int)<=(n:Int)+(E:Int)+1:=by omega
    have hE1:¬(E:Int)< 0:=by omega
    have HE:=Z5 hE;clear h1 h2 h3 hdr hL1 hL2 hE;go_wp2_with (go_at_call 68;refine(YtcnbphnnfmphlaaGreatDoor.strings_IndexByte _ 10 _).mono ?_;rw[HD.out,show(10:Int).toNat.toUInt8=10 from rfl,HX.out];rintro e KS ⟨rfl,hw1⟩;subst hw1);refine Zb (Z5E (s.extract n (n+E)) _ o_ (HT.out.below HB.out)) ?_;rintro e SK ⟨en,ok,rfl,hok,hres,hb2⟩;rw[HL1.out]at hres;obtain⟨rm,Bz,⟨fi,fk,ff,ft,⟨pt,px,py⟩,fw⟩⟩:=en;rw[show QV ⟨rm,Bz,⟨fi,fk,ff,ft,⟨pt,px,py⟩,fw⟩⟩=Ny rm Bz fi fk ff ft pt px py fw from rfl];obtain⟨k1,k2,k3,k4⟩:=hok;have HB2:=Z5 (Zg HB.out hb2);have UT:=Z5 (HO.out.below hb2);have HT2:=Z5 (HT.out.below HB2.out);have bxe:=Bk.new SK [.bool rm,.int .i64 Bz,.int .i64 fi,.int .i64 fk,.string ff,.string ft,.int .i64 pt,.int .i64 px,.int .i64 py,.int .i64 fw] 70 _ rfl;have BXE:=Z5 bxe;clear hb2 bxe;by_cases T8:FZ ln q ⟨rm,Bz,⟨fi,fk,ff,ft,⟨pt,px,py⟩,fw⟩⟩/\ok=true
    .obtain⟨hEn,rfl⟩:=T8;obtain⟨y1,y2,y3,y4,_⟩:=Zm9 (t:=t) HL2.out hEn;rw[<- H1.out]at y3;have IC:=Z5 (HI.out.next hlt y3);rw[y4,<- HE.out]at IC;have lI:=Z5 y1;have En:=lH ⟨rm,Bz,⟨fi,fk,ff,ft,⟨pt,px,py⟩,fw⟩⟩ q;have LX:=Z5 En;rw[y1]at y2;simp only at y2;obtain⟨line,Gm⟩:∃ x,x=XP ⟨rm,Bz,⟨fi,fk,ff,ft,⟨pt,px,py⟩,fw⟩⟩ q:=⟨_,rfl⟩;obtain⟨sm,hsm⟩:∃ x,x=YH ⟨rm,Bz,⟨fi,fk,ff,ft,⟨pt,px,py⟩,fw⟩⟩ q:=⟨_,rfl⟩;rw[<- hsm]at IC LX;rw[<- Gm]at y2;rw[<- Gm,<- hsm]at lI;clear y1 y3 y4 hEn hres En Gm hsm
     go_wp2_with (first
      |(go_at_call 49;refine(XA rm Bz fi fk ff ft pt px py fw q _ ⟨k3,k4⟩ k1 k2 ((HT2.out.1.tab).below (Ze (Below.refl _ _) _))).mono ?_;rw[lI.out];rintro e Ej ⟨rfl,hb3⟩;have C4:=BXE.out.below hb3;have r0:=C4.bx.cells 0 _ rfl;have r1:=C4.bx.cells 1 _ rfl;have r2:=C4.bx.cells 2 _ rfl;have r3:=C4.bx.cells 3 _ rfl;have r4:=C4.bx.cells 4 _ rfl;have r5:=C4.bx.cells 5 _ rfl;have r6:=C4.bx.cells 6 _ rfl;have r7:=C4.bx.cells 7 _ rfl;have r8:=C4.bx.cells 8 _ rfl;have r9:=C4.bx.cells 9 _ rfl)
      |(at_builtin;refine ZX rfl (.tmp 52) (.tmp 54) 102 rfl w.heap.size 70 10 96 i0 _ underlying102 hii hq0 hq1 hq2 rfl o_ A l.length c (l.map Entry.cells) rfl ((((UT.out.Aj _).below hb3)).Aj _) _ 1 1 [Entry.cells ⟨rm,Bz,⟨fi,fk,ff,ft,⟨pt,px,py⟩,fw⟩⟩] rfl (Yh _ _ _ 10 _ s_) (by simp[Entry.cells,A7.cells]) (by simp[Entry.cells,A7.cells,Value.oneCell']) (by simp only[maxLen];omega) o_ (by have:=HB2.out.size;have:=hb3.size;simp at *;omega) ?_;intro A5 c5 R3 Cn hg5 Eo))
     exact⟨⟨l++[⟨rm,Bz,⟨fi,fk,ff,ft,⟨pt,px,py⟩,fw⟩⟩],A5,c5,n+(E+1),sm,s_,s_,rfl,IC.out,LX.out,by rw[Zq,List.map_append];exact Cn,Qn (Ze (Zg (Ze HB2.out _) hb3) _) hg5 (fun q hq=>(UT.out.lt q hq).1)⟩,by simp[Zt7];omega⟩
    .obtain⟨z1,z2⟩:=Zp4 (t:=t) H2.out HL2.out hres T8;rw[<- H1.out]at z1;have HS:=Z5 (HI.out.stop z1);obtain⟨fe,hfe⟩:∃ x,x=XO ⟨rm,Bz,⟨fi,fk,ff,ft,⟨pt,px,py⟩,fw⟩⟩ q:=⟨_,rfl⟩;have lI:=Z5 hfe;rw[<- hfe]at z2;clear z1 hres T8 hfe;obtain⟨line,sm⟩:=fe;cases ok
     all_goals
      (try have z3:=z2 rfl);clear z2;go_wp2_with (go_at_call 49;refine(XA rm Bz fi fk ff ft pt px py fw q _ ⟨k3,k4⟩ k1 k2 ((HT2.out.1.tab).below (Ze (Below.refl _ _) _))).mono ?_;rw[<- lI.out];rintro e Ej ⟨rfl,hb3⟩);refine bodyPost_ret (v:=.tuple #[.slice A l.length c,.int .i64 (n:Int),.int .i64 q]) (by simp[*,results,results47,go_sem]) rfl ⟨⟨A,l.length,c⟩,by rw[HS.out],?_,YC ((UT.out.Aj _).below hb3),Zg (Ze HB2.out _) hb3⟩;rw[HS.out];exact((UT.out.Aj _).below hb3).zero
  .have hl:l.length=60:=by omega
   have HS:=Z5 (HI.out.full hl);have hlI:¬(l.length:Int)< 60:=by omega
   go_wp2_with fail;refine bodyPost_ret (v:=.tuple #[.slice A l.length c,.int .i64 (n:Int),.int .i64 q]) (by simp[*,results,results47,go_sem]) rfl ⟨⟨A,l.length,c⟩,by rw[HS.out],?_,YC HO.out,HB.out⟩;rw[HS.out];exact HO.out.zero
def dl(T:List ByteArray):List (List UInt8):=T.map fun x=>x.data.toList
noncomputable def R8(s:ByteArray):List Entry:=(Ee 60 s.data.toList 1).1
noncomputable def PS(s:ByteArray):Nat:=(Ee 60 s.data.toList 1).2.1
noncomputable def PR(s:ByteArray):Int:=(Ee 60 s.data.toList 1).2.2
theorem ZiM:∀ (k:Nat) (r:List UInt8) (p:Int),(Ee k r p).1.length<=k
 |0,_,_=>Zd _
 |k+1,r,p=>by
  rw[Ee]
  split
  .simp
  .rename_i e _
   have:=ZiM k (r.drop (XP e p).size) (YH e p)
   simp;omega
theorem ZiL:∀ (k:Nat) (r:List UInt8) (p:Int),(Ee k r p).2.1<=r.length
 |0,_,_=>Zs _
 |k+1,r,p=>by
  rw[Ee]
  split
  .exact Zs _
  .rename_i e he
   obtain⟨_,_,t,ht⟩:=ZlT he
   have:=ZiL k (r.drop (XP e p).size) (YH e p)
   have h1:=congrArg List.length ht
   have h2:=MB (XP e p)
   simp only[Zq]at h1
   simp only[ZK]at this ⊢
   omega
theorem Znw:∀ (k:Nat) (r:List UInt8) (p:Int),Be p 0 65520=true->Be (Ee k r p).2.2 0 65520=true
 |0,_,_,h=>h
 |k+1,r,p,h=>by
  rw[Ee]
  split
  .exact h
  .rename_i e he
   exact Znw k _ _ (lH e p)
theorem Zqv(s:ByteArray):PS s<=s.size:=by have:=ZiL 60 s.data.toList 1;rw[MB]at this;exact this
theorem Zqu(s:ByteArray):Be (PR s) 0 65520=true:=Znw 60 _ 1 AO
theorem ZoH(s:ByteArray):(R8 s).length<=60:=ZiM 60 _ 1
noncomputable def EV(s:ByteArray)(e:Entry):ByteArray×Bool:=if Yc e=true/\(R8 s).length≠60 then (s.extract 0 (PS s)++XP e (PR s),true)else (s,false)
theorem Zrt{e:Entry}  :(XP e p).toList.isEmpty=false:=by
 rw[ByteArray.toList_eq];unfold XP;simp
theorem Zkd{e:Entry}(h:Yc e=true)(hp:Be p 0 65520=true):XO e p=(XP e p,YH e p):=by unfold XO;rw[h,hp];rfl
theorem Zkq{e:Entry}(h:Yc e=true)(hp:Be p 0 65520=true):(XP e p).size<=400:=by
 have hf:∀ f:A7,Zy f=true->(EG f).length<=116:=fun f hv=>by
  have h1:=XU f;have h2:=MB (YM f);rw[JR hv]at h2;omega
 have h2:=MB (XP e p);have h3:=wO e p;have h4:=Lib.itoa_length_le (YH e p) o_ o_;rw[<- h2];unfold XP;rcases JS h with⟨f,_,hv,he⟩|⟨n,_,hn,he⟩
 .have:=hf f hv;rw[he];simp[Ig];omega
 .have:=Lib.itoa_length_le n o_ o_;rw[he];simp[LW];omega
theorem IE.out{w:World}{s:ByteArray}{e:Ending}(h:IE w s e w'):∃ v:Sv,e=.returned (.tuple #[.slice v.A v.n v.c,.int .i64 (PS s:Int),.int .i64 (PR s)])/\(R8 s).length=v.n/\Below w.heap.size w w':=by
 obtain⟨v,h1,h2,_,h3⟩:=h;refine⟨v,h1,?_,h3⟩;have:=h2.rd.1;simpa [R8]using this
theorem ZsM{s:ByteArray}{e:Entry}(h:¬(Yc e=true/\(R8 s).length≠60)):EV s e=(s,false):=by unfold EV;rw[if_neg h]
theorem Zo4{s:ByteArray}{e:Entry}(h:Yc e=true)(h2:(R8 s).length≠60):EV s e=(s.extract 0 (PS s)++XP e (PR s),true):=by unfold EV;rw[if_pos ⟨h,h2⟩]
theorem Zrq(s:ByteArray)(a b:Nat):(s.extract a b).size<=s.size:=by rw[ByteArray.size_extract];omega
theorem Z09(s:ByteArray)(rm:Bool)(Bz id kind:Int)(fr Z00:ByteArray)(t x y wt:Int)(w:World)(hs:s.size<=4194304)(R9:-9223372036854775808<=Bz/\Bz<=9223372036854775807)(hf:fr.size<=4194304)(ht:Z00.size<=4194304)(hT:Ed w):
  Calls prog 26 #[.string s,Ny rm Bz id kind fr Z00 t x y wt] w fun e w'=>e=.returned (.tuple #[.string (EV s ⟨rm,Bz,⟨id,kind,fr,Z00,⟨t,x,y⟩,wt⟩⟩).1,.bool (EV s ⟨rm,Bz,⟨id,kind,fr,Z00,⟨t,x,y⟩,wt⟩⟩).2])/\Below w.heap.size w w':=by
 have HT:=Z5 hT;clear hT;have bx0:=Bk.new w [.bool rm,.int .i64 Bz,.int .i64 id,.int .i64 kind,.string fr,.string Z00,.int .i64 t,.int .i64 x,.int .i64 y,.int .i64 wt] 70 _ rfl;have B0:Below w.heap.size w (w.alloc (.cells #[.bool rm,.int .i64 Bz,.int .i64 id,.int .i64 kind,.string fr,.string Z00,.int .i64 t,.int .i64 x,.int .i64 y,.int .i64 wt] 70)):=Ze (Below.refl _ _) _;go_enter func26,ntmps26;go_wp2_with fail;refine Zb (Z4t s _ hs (HT.out.below B0)) ?_;rintro e w1 hpost;obtain⟨v,rfl,hl,hb1⟩:=hpost.out;have bx1:=bx0.below hb1;have B1:=Zg B0 hb1;have hqi:=Zqu s;have hn:=Zqv s;have hle:=ZoH s;have Fu:=Z5 (fun h=>ZsM (s:=s) (e:=⟨rm,Bz,⟨id,kind,fr,Z00,⟨t,x,y⟩,wt⟩⟩) h);have IG:=Z5 (fun h h2=>Zo4 (s:=s) (e:=⟨rm,Bz,⟨id,kind,fr,Z00,⟨t,x,y⟩,wt⟩⟩) h h2);obtain⟨n,hne⟩:∃ n,n=PS s:=⟨_,rfl⟩;obtain⟨q,hqe⟩:∃ q,q=PR s:=⟨_,rfl⟩;rw[<- hne]at IG hn ⊢;rw[<- hqe]at IG hqi ⊢;have HT1:=Z5 (HT.out.below B1);have HQ:=Z5 hqi;obtain⟨A,m,c⟩:=v;simp only at hl;rw[hl]at Fu IG hle;have r0:=bx1.bx.cells 0 _ rfl;have r1:=bx1.bx.cells 1 _ rfl;have r2:=bx1.bx.cells 2 _ rfl;have r3:=bx1.bx.cells 3 _ rfl;have r4:=bx1.bx.cells 4 _ rfl;have r5:=bx1.bx.cells 5 _ rfl;have r6:=bx1.bx.cells 6 _ rfl;have r7:=bx1.bx.cells 7 _ rfl;have r8:=bx1.bx.cells 8 _ rfl;have r9:=bx1.bx.cells 9 _ rfl;clear hpost bx0 B0 hb1 hne hqe hqi hl HT;cases hv:Yc ⟨rm,Bz,⟨id,kind,fr,Z00,⟨t,x,y⟩,wt⟩⟩with
 |false =>
  have HE:=Z5 (Fu.out (fun h=>by rw[hv]at h;cases h.1));have HV:=Z5 hv;clear hv Fu IG;go_wp2_with (go_at_call 48;refine(YE rm Bz id kind fr Z00 t x y wt _ hf ht).mono ?_;rw[HV.out];rintro e w2 ⟨rfl,hb2⟩;have Cw:=bx1.below hb2;have B2:=Zg B1 hb2;have s0:=Cw.bx.cells 0 _ rfl;have s1:=Cw.bx.cells 1 _ rfl;have s2:=Cw.bx.cells 2 _ rfl;have s3:=Cw.bx.cells 3 _ rfl;have s4:=Cw.bx.cells 4 _ rfl;have s5:=Cw.bx.cells 5 _ rfl;have s6:=Cw.bx.cells 6 _ rfl;have s7:=Cw.bx.cells 7 _ rfl;have s8:=Cw.bx.cells 8 _ rfl;have s9:=Cw.bx.cells 9 _ rfl);refine bodyPost_ret (v:=.tuple #[.string s,.bool false]) (by simp[*,results,results26,go_sem]) rfl ⟨by rw[HE.out],B2⟩
 |true =>
  have hfe:=Zkd hv HQ.out;have hsz:=Zkq hv HQ.out;have hne:=Zrt (e:=⟨rm,Bz,⟨id,kind,fr,Z00,⟨t,x,y⟩,wt⟩⟩) (p:=q);have HF:=Z5 hfe;clear hfe;by_cases Ra:m=60
  .have HE:=Z5 (Fu.out (fun h=>h.2 Ra));have h6:((m:Int)== 60)=true:=by rw[Ra];rfl
   have h6i:(m:Int)=60:=by omega
   have HV:=Z5 hv;clear hv Fu IG Ra hsz;clear hne;go_wp2_with (go_at_call 48;refine(YE rm Bz id kind fr Z00 t x y wt _ hf ht).mono ?_;rw[HV.out];rintro e w2 ⟨rfl,hb2⟩;have Cw:=bx1.below hb2;have B2:=Zg B1 hb2;have s0:=Cw.bx.cells 0 _ rfl;have s1:=Cw.bx.cells 1 _ rfl;have s2:=Cw.bx.cells 2 _ rfl;have s3:=Cw.bx.cells 3 _ rfl;have s4:=Cw.bx.cells 4 _ rfl;have s5:=Cw.bx.cells 5 _ rfl;have s6:=Cw.bx.cells 6 _ rfl;have s7:=Cw.bx.cells 7 _ rfl;have s8:=Cw.bx.cells 8 _ rfl;have s9:=Cw.bx.cells 9 _ rfl);refine bodyPost_ret (v:=.tuple #[.string s,.bool false]) (by simp[*,results,results26,go_sem]) rfl ⟨by rw[HE.out],B2⟩
  .have HE:=Z5 (IG.out hv Ra);have h6:((m:Int)== 60)=false:=by simp only[beq_eq_false_iff_ne];omega
   have h6i:¬(m:Int)=60:=by omega
   have HV:=Z5 hv;clear hv Fu IG Ra;obtain⟨line,Gm⟩:∃ l,l=XP ⟨rm,Bz,⟨id,kind,fr,Z00,⟨t,x,y⟩,wt⟩⟩ q:=⟨_,rfl⟩;rw[<- Gm]at hne hsz HF HE;clear Gm;obtain⟨u,e0,z0,c0⟩:=cat (s.extract 0 n) line 4194304 400 (Nat.le_trans (Zrq s 0 n) hs) hsz o_;have hn0:(0:Int)<=(n:Int):=by omega
   have hn1:(n:Int)<=(s.size:Int):=by omega
   clear hne;go_wp2_with (first |(go_at_call 48;refine(YE rm Bz id kind fr Z00 t x y wt _ hf ht).mono ?_;rw[HV.out];rintro e w2 ⟨rfl,hb2⟩;have Cw:=bx1.below hb2;have B2:=Zg B1 hb2;have s0:=Cw.bx.cells 0 _ rfl;have s1:=Cw.bx.cells 1 _ rfl;have s2:=Cw.bx.cells 2 _ rfl;have s3:=Cw.bx.cells 3 _ rfl;have s4:=Cw.bx.cells 4 _ rfl;have s5:=Cw.bx.cells 5 _ rfl;have s6:=Cw.bx.cells 6 _ rfl;have s7:=Cw.bx.cells 7 _ rfl;have s8:=Cw.bx.cells 8 _ rfl;have s9:=Cw.bx.cells 9 _ rfl)|(go_at_call 49;refine(XA rm Bz id kind fr Z00 t x y wt q _ R9 hf ht (HT1.out.below hb2).1.tab).mono ?_;rw[HF.out];rintro e w3 ⟨rfl,hb3⟩;have B3:=Zg B2 hb3));refine bodyPost_ret (v:=.tuple #[.string u,.bool true]) (by simp[*,results,results26,go_sem]) rfl ⟨by rw[HE.out,e0.out],B3⟩
noncomputable def pb(s:ByteArray):Br×Bool:=match KH s with|some b=>(b,true)| none=>(⟨0,[]⟩,false)
theorem Zrn(s:ByteArray):qW (pb s).1:=by
 unfold pb;cases h:KH s with
 |none=>show([]:List A7).length<=4194304;simp
 |some b =>
  have:=(YT (Z9V h).1).2.2.1;show b.Ab.length<=4194304;omega
theorem ZoO{w:World}{s:ByteArray}{e:Ending}(h:Zo9 w s e w'):∃ v:Sv,e=.returned (.tuple #[Xn (pb s).1.AU v.A v.n v.c,.bool (pb s).2])/\S7 w' v (pb s).1/\Ag w.heap.size w' (fpB v)/\Below w.heap.size w w':=by
 obtain⟨hb,⟨b,v,h1,rfl,h3,h4⟩|⟨h1,rfl⟩⟩:=h
 .unfold pb;rw[h1];exact⟨v,rfl,h3,h4,hb⟩
 .unfold pb;rw[h1];exact⟨⟨none,0,0⟩,rfl,Qz _ _ _ _,Ag.nil _ _,hb⟩
theorem Z4B(s:ByteArray)(w:World)(hs:s.size<=4194304)(hT:EX w):Calls prog 55 #[.string s] w fun e w'=>∃ v:Sv,e=.returned (.tuple #[Xn (pb s).1.AU v.A v.n v.c,.bool (pb s).2])/\S7 w' v (pb s).1/\Ag w.heap.size w' (fpB v)/\Below w.heap.size w w' :=
 (Z4C s w hs hT).mono fun _ _ h=>ZoO h
def Zsb(l:List A7)(e:Entry):List A7:=if e.remove then (ZoF l e.id).1 else (Qt l e.Bv).1
def II(l:List A7):Prop:=(∀ f∈l,Zy f=true)/\l.length<=40
theorem II.nil :II []:=⟨s_,s_⟩
theorem II.small{l:List A7}(h:II l):Qq l:=fun f hf=>UJ (h.1 f hf)
theorem II.few{l:List A7}(h:II l):El l:=by have:=h.2;unfold El;omega
theorem UK{l:List A7}(h:YW l=true):II l:=by
 refine⟨?_,Qo h⟩;unfold YW at h;simp only[Zc]at h;have ha:=h.2.1;revert ha
 have aux:∀ (l:List A7) (p:Option Int),JW l p=true->∀ f∈l,Zy f=true:=by
  intro l;induction l with
  |nil=>intro p _ f hf;simp at hf
  |cons a l ih =>
   intro p h f hf;simp only[JW,Zc]at h;rcases Zn.1 hf with rfl|hf
   .exact h.1
   .exact ih _ h.2.2 f hf
 exact aux l none
theorem ZfN:∀ (l:List Entry) (p:Int),(∀ e∈l,Yc e=true)->Be p 0 65520=true->(DL l p).length<=400*l.length
 |[],p,_,_=>by simp[DL]
 |e::l,p,h,hp=>by
  have h1:=Zkq (h e s_) hp
  have h2:=ZfN l (YH e p) (fun g hg=>h g (by simp[hg])) (lH e p)
  have h3:=MB (XP e p)
  simp only[DL,Zq,Zt]
  omega
theorem Zsc{s:ByteArray}(h:∀ e∈l,Yc e=true)(hl:l.length<=60)(hs:s.data.toList=DL l 1):R8 s=l/\PS s=s.size/\PR s=R7 l 1:=by
 have hr:=ZoG h hl;rw[<- hs]at hr;unfold R8 PS PR;rw[hr];exact⟨rfl,MB s,rfl⟩
theorem Zde{e:Entry}(h:Yc e=true):xA e/\A7.ok e.Bv/\F6 e.id/\e.Bv.bulk<=16:=by
 have nm:∀ (s:ByteArray) (c:Int),Xe s c=true->s.size<=8:=fun s c h=>by
  unfold Xe FH at h;simp only[Zc,decide_eq_true_eq]at h;exact h.1.1.2
 rcases JS h with⟨f,rfl,hv,_⟩|⟨n,rfl,hn,_⟩
 .have hs:=UJ hv;have hp:Jf (YM f)=some f:=aH (Zdd.2 ⟨hv,rfl⟩);have hg:gF (YM f)=f:=by unfold gF;rw[hp];rfl
  have hok:=Zsz (YM f);rw[hg]at hok;obtain⟨_,_,_,_,h5,h6,h7⟩:=Q1 hv;refine⟨⟨hs.1,hs.2,by show(-9223372036854775808:Int)<=0;omega,by show(0:Int)<=_;omega⟩,hok,FW 0 o_ o_,?_⟩
  have ha:f.AL.size<=8:=by
   by_cases k:f.kind=1
   .have e:=h5 k;rw[ByteArray.toList_eq]at e;have:=MB f.AL;rw[show f.AL.data.toList=[]by simpa using e]at this;simp at this;omega
   .exact nm _ _ (h6 k)
  have hb:f.Z00.size<=8:=by rcases h7 with h|h<;>exact nm _ _ h
  show f.AL.size+f.Z00.size<=16;omega
 .have z:=FW 0 o_ o_;exact⟨T4 _ o_ o_,⟨by show(0:Nat)<=maxLen;exact Zs _,by show(0:Nat)<=maxLen;exact Zs _,z,z,z,z,z,z⟩,FW n o_ o_,by show(0:Nat)<=16;omega⟩
theorem ZgU(f:A7):f.same f=true:=by simp[A7.same]
theorem kI:∀ l:List A7,Gc l l=true
 |[]=>rfl
 |f::l=>by simp[Gc,ZgU,kI l]
end Go.Proofs.YtcnbphnnfmphlaaGreatDoor
