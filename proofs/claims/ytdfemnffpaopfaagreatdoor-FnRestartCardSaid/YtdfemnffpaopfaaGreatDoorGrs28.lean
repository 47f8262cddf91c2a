/- Texts of this proof, one behind the other: ShelfC, PsBun, PsBunS, PrsE. -/
import Derived.Shelf.Small.Wraps
import Derived.Shelf.Small.Strs
import Derived.Shelf.Strings.Cut
import Derived.Test.YtdfemnffpaopfaaGreatDoorProg
import Derived.Lib.IndexMore
import Derived.Lib.IndexLaws
import Derived.Test.YtdfemnffpaopfaaGreatDoorGrs16
import Derived.Test.YtdfemnffpaopfaaGreatDoorGrs26
import Derived.Test.YtdfemnffpaopfaaGreatDoorGrs27
import Derived.Test.YtdfemnffpaopfaaGreatDoorGrs29
namespace Go.Proofs
open Go.Shelf
def YtdfemnffpaopfaaGreatDoor.lays103_ren:Go.Shelf.Ren:=⟨fun | 103=>140 | 210=>180 | 206=>202 | n=>n,fun | 9=>9 | 4=>4 | 24=>76 | 3=>3 | n=>n,fun | n=>n⟩
theorem YtdfemnffpaopfaaGreatDoor.lays103:Go.Proofs.Lays.n103 Tryz.prog YtdfemnffpaopfaaGreatDoor.lays103_ren:={
  mixed:=by kernel_rfl
  f103:=Tryz.func140.trans (congrArg some (by kernel_rfl))
  f206:=Tryz.func202.trans (congrArg some (by kernel_rfl))
  f210:=Tryz.func180.trans (congrArg some (by kernel_rfl))
  t3:=Tryz.underlying3
  a3:=Tryz.isAgg3
  z3:=Tryz.sizeOf3
  v3:=Tryz.zeroValue3
  t4:=Tryz.underlying4
  a4:=Tryz.isAgg4
  z4:=Tryz.sizeOf4
  v4:=Tryz.zeroValue4
  t9:=Tryz.underlying9
  a9:=Tryz.isAgg9
  z9:=Tryz.sizeOf9
  v9:=Tryz.zeroValue9
  t24:=Tryz.underlying76
  a24:=Tryz.isAgg76
  z24:=Tryz.sizeOf76
  v24:=Tryz.zeroValue76 }
open Go.RowKit in
theorem YtdfemnffpaopfaaGreatDoor.strings_CutPrefix (s p:ByteArray) (w:World) :
    Calls Tryz.prog 140 #[.string s,.string p] w fun e w'=>e=.returned (.tuple #[.string ⟨(Lib.trimPrefix s.data.toList p.data.toList).toArray⟩,.bool (Lib.hasPrefix s.data.toList p.data.toList)])∧w'=w:=Any.strings_CutPrefix YtdfemnffpaopfaaGreatDoor.lays103 s p w
def YtdfemnffpaopfaaGreatDoor.lays137_ren:Go.Shelf.Ren:=⟨fun | 137=>132 | 217=>174 | 266=>200 | n=>n,fun | 9=>9 | 5=>5 | 3=>3 | n=>n,fun | n=>n⟩
theorem YtdfemnffpaopfaaGreatDoor.lays137:Go.Proofs.Lays.n137 Tryz.prog YtdfemnffpaopfaaGreatDoor.lays137_ren:={
  mixed:=by kernel_rfl
  f137:=Tryz.func132.trans (congrArg some (by kernel_rfl))
  f217:=Tryz.func174.trans (congrArg some (by kernel_rfl))
  f266:=Tryz.func200.trans (congrArg some (by kernel_rfl))
  t3:=Tryz.underlying3
  a3:=Tryz.isAgg3
  z3:=Tryz.sizeOf3
  v3:=Tryz.zeroValue3
  t5:=Tryz.underlying5
  a5:=Tryz.isAgg5
  z5:=Tryz.sizeOf5
  v5:=Tryz.zeroValue5
  t9:=Tryz.underlying9
  a9:=Tryz.isAgg9
  z9:=Tryz.sizeOf9
  v9:=Tryz.zeroValue9 }
open Go.RowKit in
theorem YtdfemnffpaopfaaGreatDoor.strings_IndexByte (s:ByteArray) (c:Int) (w:World) :
    Calls Tryz.prog 132 #[.string s,.int .u8 c] w fun e w'=>e=.returned (.int .i64 (Lib.indexByte s.data.toList c.toNat.toUInt8))∧w'=w:=Any.strings_IndexByte YtdfemnffpaopfaaGreatDoor.lays137 s c w
def YtdfemnffpaopfaaGreatDoor.lays145_ren:Go.Shelf.Ren:=⟨fun | 145=>175 | 220=>201 | 219=>214 | 217=>174 | 225=>225 | 224=>226 | 267=>227 | 266=>200 | 314=>233 | n=>n,fun | 9=>9 | 4=>4 | 59=>191 | 3=>3 | 5=>5 | 46=>131 | 146=>240 | 51=>230 | n=>n,fun | 1=>0 | n=>n⟩
theorem YtdfemnffpaopfaaGreatDoor.lays145:Go.Proofs.Lays.n145 Tryz.prog YtdfemnffpaopfaaGreatDoor.lays145_ren:={
  mixed:=by kernel_rfl
  f145:=Tryz.func175.trans (congrArg some (by kernel_rfl))
  f217:=Tryz.func174.trans (congrArg some (by kernel_rfl))
  f219:=Tryz.func214.trans (congrArg some (by kernel_rfl))
  f220:=Tryz.func201.trans (congrArg some (by kernel_rfl))
  f224:=Tryz.func226.trans (congrArg some (by kernel_rfl))
  f225:=Tryz.func225.trans (congrArg some (by kernel_rfl))
  f266:=Tryz.func200.trans (congrArg some (by kernel_rfl))
  f267:=Tryz.func227.trans (congrArg some (by kernel_rfl))
  f314:=Tryz.func233.trans (congrArg some (by kernel_rfl))
  t3:=Tryz.underlying3
  a3:=Tryz.isAgg3
  z3:=Tryz.sizeOf3
  v3:=Tryz.zeroValue3
  t4:=Tryz.underlying4
  a4:=Tryz.isAgg4
  z4:=Tryz.sizeOf4
  v4:=Tryz.zeroValue4
  t5:=Tryz.underlying5
  a5:=Tryz.isAgg5
  z5:=Tryz.sizeOf5
  v5:=Tryz.zeroValue5
  t9:=Tryz.underlying9
  a9:=Tryz.isAgg9
  z9:=Tryz.sizeOf9
  v9:=Tryz.zeroValue9
  t46:=Tryz.underlying131
  a46:=Tryz.isAgg131
  z46:=Tryz.sizeOf131
  v46:=Tryz.zeroValue131
  t51:=Tryz.underlying230
  a51:=Tryz.isAgg230
  z51:=Tryz.sizeOf230
  v51:=Tryz.zeroValue230
  t59:=Tryz.underlying191
  a59:=Tryz.isAgg191
  z59:=Tryz.sizeOf191
  v59:=Tryz.zeroValue191
  t146:=Tryz.underlying240
  a146:=Tryz.isAgg240
  z146:=Tryz.sizeOf240
  v146:=Tryz.zeroValue240
  g1:=by kernel_rfl }
open Go.RowKit in
theorem YtdfemnffpaopfaaGreatDoor.strings_Cut (s sep:ByteArray) (m:Int) (w:World) (hs:s.size < 4294967281) (hm:w.cell? ⟨0,0,none⟩=some (.int .i64 m)) :
    Calls Tryz.prog 175 #[.string s,.string sep] w fun e w'=>e=.returned (.tuple #[.string ⟨(Lib.cut s.data.toList sep.data.toList).1.toArray⟩,.string ⟨(Lib.cut s.data.toList sep.data.toList).2.1.toArray⟩,.bool (Lib.cut s.data.toList sep.data.toList).2.2])∧∃ n,w'=w.drewN n:=Any.strings_Cut YtdfemnffpaopfaaGreatDoor.lays145 s sep m w hs hm
end Go.Proofs


namespace Go.Proofs.YtdfemnffpaopfaaGreatDoor
open Go.RowKit
set_option linter.unusedVariables false
set_option linter.unusedSimpArgs false
set_option maxHeartbeats 4000000
set_option maxRecDepth 100000
def PBPost (w:World) (s:ByteArray) (e:Ending) (w':World):Prop :=
  Below w.heap.size w w'∧((∃ (b:Bundle) (v:Sv),psBun s=some b∧e=.returned (.tuple #[vBundle b.robot v.A v.n v.c,.bool true])∧OwF w' v b.factors∧Fresh w.heap.size w' (fpF v))∨(psBun s=none∧e=.returned (.tuple #[vBundle 0 none 0 0,.bool false])))
theorem splitL_cnt (p:UInt8→Bool):∀ (l cur:List UInt8),(splitL p cur l).length≤l.length+1
  | [],cur=>by simp [splitL]
  | b :: l,cur=>by
    rw [splitL]
    split
    · have:=splitL_cnt p l []
      simp;omega
    · have:=splitL_cnt p l (cur++[b])
      simp;omega
theorem words_cnt {s:ByteArray} {c:UInt8} {L:List ByteArray} (hL:L.map (fun x=>x.data.toList)=splitL (isB c) [] s.data.toList):L.length≤s.size+1:=by
  have h:=splitL_cnt (isB c) s.data.toList []
  rw [← hL] at h
  simpa using h
theorem trim_of {w:ByteArray} {t:List UInt8}:Lib.hasPrefix w.data.toList bunL0=true→w.data.toList=bunL0++Lib.trimPrefix w.data.toList bunL0:=by
  intro h
  unfold Lib.trimPrefix
  rw [if_pos h]
  unfold Lib.hasPrefix at h
  obtain ⟨r,hr⟩:=List.isPrefixOf_iff_prefix.1 h
  rw [← hr];simp
theorem trim_app (r:List UInt8):Lib.hasPrefix (bunL0++r) bunL0=true∧Lib.trimPrefix (bunL0++r) bunL0=r:=by
  have h:Lib.hasPrefix (bunL0++r) bunL0=true:=by unfold Lib.hasPrefix;rw [List.isPrefixOf_iff_prefix];exact List.prefix_append _ _
  exact ⟨h,by unfold Lib.trimPrefix;rw [if_pos h];simp⟩
theorem head_num {w0:ByteArray} {r:Int} (h0:w0.data.toList=bunL0++Lib.itoa r) (h1:0≤r) (h2:r≤2):Lib.hasPrefix w0.data.toList bunL0=true∧psI ⟨(Lib.trimPrefix w0.data.toList bunL0).toArray⟩=some r:=by
  obtain ⟨a,b⟩:=trim_app (Lib.itoa r)
  rw [h0,b]
  exact ⟨a,psI_some (by omega) (by omega) rfl⟩
theorem num_head {w0:ByteArray} {r:Int} (h:Lib.hasPrefix w0.data.toList bunL0=true) (hp:psI ⟨(Lib.trimPrefix w0.data.toList bunL0).toArray⟩=some r):w0.data.toList=bunL0++Lib.itoa r:=by
  have e:=trim_of (t:=[]) h
  have:=(psI_text hp).2.2
  have h2:Lib.itoa r=Lib.trimPrefix w0.data.toList bunL0:=by
    have:=congrArg (fun x=>x.data.toList) this
    simpa [itoaB] using this
  rw [h2];exact e
theorem trim_size (w:ByteArray) (p:List UInt8):(⟨(Lib.trimPrefix w.data.toList p).toArray⟩:ByteArray).size≤w.size:=by
  have h2:w.data.toList.length=w.size:=by simp
  show (Lib.trimPrefix w.data.toList p).toArray.size≤_
  rw [List.size_toArray]
  unfold Lib.trimPrefix
  split
  · rw [List.length_drop];omega
  · omega
theorem Own.set_ {w:World} {B e sz n c:Nat} {A:Option Addr} {css:List (List Value)} (h:Own w B e sz A n c css) {p:Addr} (hp:p.block < B) (u:Value):Own (w.setCell p u) B e sz A n c css:=h.keep fun g hg=>Below.heap_setCell w p u g (by have:=(h.lt g hg).1;omega)
theorem bk_grown {w w':World} {row:Option Nat} {b:Nat} {t:TypeId} {cs:List Value} (hg:w.grownBy w' row) (h:Bk w b t cs) (hn:¬ row=some b):Bk w' b t cs:=(hg.block b h.lt (fun e=>hn e.symm)).trans h
theorem vld_sz {f:Factor} (h:vldFactor f=true):f.frm.size≤4194304∧f.to.size≤4194304:=by
  obtain ⟨_,_,_,_,h5,h6,h7⟩:=vld_parts h
  have nm:∀ (s:ByteArray) (c:Int),nmWith s c=true→s.size≤8:=fun s c h=>by
    unfold nmWith isNm at h
    simp only [Bool.and_eq_true,decide_eq_true_eq] at h
    exact h.1.1.2
  constructor
  · by_cases k:f.kind=1
    · have e:=h5 k
      rw [ByteArray.toList_eq] at e
      have:f.frm.data.toList.length=f.frm.size:=by simp
      rw [show f.frm.data.toList=[] by simpa using e] at this
      simp at this;omega
    · have:=nm _ _ (h6 k);omega
  · rcases h7 with h | h
    · have:=nm _ _ h;omega
    · have:=nm _ _ h;omega
theorem facs_sz {T:List ByteArray} {F:List Factor} (h:T.map psFac=F.map some):∀ f∈F,f.frm.size≤4194304∧f.to.size≤4194304:=by
  intro f hf
  have h1:some f∈T.map psFac:=by rw [h];exact List.mem_map.2 ⟨f,hf,rfl⟩
  obtain ⟨x,_,hx⟩:=List.mem_map.1 h1
  exact vld_sz (psFac_text hx).1
theorem bun_none_head {s w0:ByteArray} {T:List ByteArray} (hL:(w0 :: T).map (fun x=>x.data.toList)=splitL (isB 59) [] s.data.toList) (h:¬ (Lib.hasPrefix w0.data.toList bunL0=true∧(psI ⟨(Lib.trimPrefix w0.data.toList bunL0).toArray⟩).isSome=true)):psBun s=none:=by
  refine psBun_none fun b hb=>h ?_
  obtain ⟨v0,U,e,h0,hT⟩:=bun_words hb hL
  simp only [List.cons.injEq] at e
  obtain ⟨rfl,rfl⟩:=e
  have hp:=isBundle_parts hb.1
  obtain ⟨a,c⟩:=head_num h0 hp.1 hp.2.1
  rw [c];exact ⟨a,rfl⟩
theorem bun_none_part {s w0:ByteArray} {T:List ByteArray} (hL:(w0 :: T).map (fun x=>x.data.toList)=splitL (isB 59) [] s.data.toList) {k:Nat} {x:ByteArray} (hk:T[k]? = some x) (hx:psFac x=none):psBun s=none:=by
  refine psBun_none fun b hb=>?_
  obtain ⟨v0,U,e,h0,hT⟩:=bun_words hb hL
  simp only [List.cons.injEq] at e
  obtain ⟨rfl,rfl⟩:=e
  have h1:(T.map psFac)[k]? = some none:=by rw [List.getElem?_map,hk];simp [hx]
  rw [hT,List.getElem?_map] at h1
  cases hf:b.factors[k]? with
  | none=>rw [hf] at h1;cases h1
  | some f=>rw [hf] at h1;simp at h1
theorem bun_fin {s w0:ByteArray} {T:List ByteArray} {r:Int} {F:List Factor} (hL:(w0 :: T).map (fun x=>x.data.toList)=splitL (isB 59) [] s.data.toList) (h:Lib.hasPrefix w0.data.toList bunL0=true) (hp:psI ⟨(Lib.trimPrefix w0.data.toList bunL0).toArray⟩=some r) (hT:T.map psFac=F.map some) :
    (isBundle r F=true→psBun s=some ⟨r,F⟩)∧(isBundle r F=false→psBun s=none):=by
  constructor
  · intro hb
    exact psBun_some ⟨hb,bun_of hL (num_head h hp) hT⟩
  · intro hb
    refine psBun_none fun b hbo=>?_
    obtain ⟨v0,U,e,h0,hT2⟩:=bun_words hbo hL
    simp only [List.cons.injEq] at e
    obtain ⟨rfl,rfl⟩:=e
    rw [hT] at hT2
    have hl:=map_some_inj hT2
    have hq:=isBundle_parts hbo.1
    have hr:=(head_num h0 hq.1 hq.2.1).2
    rw [hp] at hr
    simp only [Option.some.injEq] at hr
    have:=hbo.1
    rw [← hl,← hr,hb] at this;cases this
def zFac':Factor:=⟨0,0,⟨#[]⟩,⟨#[]⟩,⟨0,0,0⟩,0⟩
theorem b2 {a w:World} (h:Below a.heap.size a w) {b:Nat} (hb:a.heap.size≤b) (u0 u1:Value):Below a.heap.size a ((w.setCell ⟨b,0,none⟩ u0).setCell ⟨b,1,none⟩ u1):=bSet (bSet h hb u0) hb u1
theorem map_snoc {T:List ByteArray} {F:List Factor} {k:Nat} {x:ByteArray} {f:Factor} (h:(T.take k).map psFac=F.map some) (hk:T[k]? = some x) (hf:psFac x=some f):(T.take (k+1)).map psFac=(F++[f]).map some:=by
  obtain ⟨hi,he⟩:=List.getElem?_eq_some_iff.1 hk
  rw [List.take_succ_eq_append_getElem hi,List.map_append,List.map_append,h,he]
  simp [hf]
theorem impl_ParseBundle_c (s:ByteArray) (w:World) (hs:s.size≤4194304) (hT:TabE w):Calls Tryz.prog 91 #[.string s] w fun e w'=>PBPost w s e w':=by
  obtain ⟨i0,hii,hq0,hq1,hq2⟩:=info_parts info_Factor
  have HT:=Lib.hid hT
  clear hT
  go_enter Tryz.func91,Tryz.ntmps91
  go_wp2_with fail
  refine Calls.mono (impl_SplitAny_k s 59 _ (by omega)) ?_
  rintro e w1_ ⟨v,L,rfl,ho,hL,hb1⟩
  have bx1:=(Bk.new w [.int .i64 0,.slice none 0 0] 80 _ rfl).below hb1
  have B1:Below w.heap.size w w1_:=bTrans (bAlloc (Below.refl _ _) _) hb1
  have HL:=Lib.hid hL
  have hlen:L.length=v.n:=by have:=ho.lens;simpa [Hid] using this
  have hrow:RowS w1_ v.A v.n L:=ho.row
  have hws:=word_size hL
  have hcnt:=words_cnt hL
  have hnc:=ho.nc
  simp only [maxLen] at hnc
  have HT1:=Lib.hid (HT.out.below B1)
  have hne:L≠[]:=by
    intro h;rw [h] at hL;exact splitL_ne _ _ _ hL.symm
  clear hb1 ho hL HT
  obtain ⟨A,n,c⟩:=v
  simp only at hlen hrow hnc
  obtain ⟨w0,T,rfl⟩:∃ w0 T,L=w0 :: T:=by
    cases L with
    | nil=>exact absurd rfl hne
    | cons a l=>exact ⟨a,l,rfl⟩
  obtain ⟨m,rfl⟩:∃ m,n=m+1:=⟨n - 1,by simp at hlen;omega⟩
  obtain ⟨d,rfl⟩:∃ d,c=d+1:=⟨c - 1,by omega⟩
  have hTl:T.length=m:=by simpa using hlen
  have hms:m≤4194304:=by simp at hcnt;omega
  obtain ⟨g,off,rfl⟩:=hrow.some_ (by omega)
  have c0:=RowS.get hrow (k:=0) (f:=w0) rfl
  simp only [Nat.add_zero] at c0
  have hz0:=hws w0 (by simp)
  have HWS:=Lib.hid (fun x hx=>hws x (List.mem_cons_of_mem w0 hx))
  have hrow1:RowS w1_ (some ⟨g,off+1,none⟩) m T:=by
    have:=Row.drop_ (c:=strCells) hrow (k:=1) (by omega)
    simpa using this
  have HROW:=Lib.hid hrow1
  obtain ⟨num,hnum⟩:∃ x,x=(⟨(Lib.trimPrefix w0.data.toList bunL0).toArray⟩:ByteArray):=⟨_,rfl⟩
  obtain ⟨hp,hhp⟩:∃ x,x=Lib.hasPrefix w0.data.toList bunL0:=⟨_,rfl⟩
  have hnz:num.size≤s.size:=by rw [hnum];have:=trim_size w0 bunL0;omega
  have hnc2:(m:Int)+1≤(d:Int)+1:=by omega
  clear hws hne hrow hrow1 hcnt
  have HNUM:=Lib.hid hnum
  have HHP:=Lib.hid hhp
  clear hnum hhp
  go_wp2_with (go_at_call 140;refine (YtdfemnffpaopfaaGreatDoor.strings_CutPrefix w0 _ _).mono ?_;rw [show (ByteArray.mk #[98,117,110,100,108,101,32]).data.toList=bunL0 from rfl,← HNUM.out,← HHP.out];rintro e w2_ ⟨rfl,rfl⟩)
  refine Calls.mono (impl_ParseInt_c num _ (by omega) HT1.out) ?_
  rintro e w3_ ⟨rfl,hb3⟩
  have B23:=Lib.hid hb3
  have bx3:=bx1.below hb3
  have B3:=bTrans B1 hb3
  have HT3:=Lib.hid (HT1.out.below hb3)
  have hz3:=hb3.size
  have hBsz:=B3.size
  have hg1:=cell_lt c0
  clear hb3 bx1 B1 c0
  by_cases hok:hp=true∧(psI num).isSome=true
  · obtain ⟨rfl,hsome⟩:=hok
    obtain ⟨r,hr⟩:=Option.isSome_iff_exists.1 hsome
    rw [hr,show vPair (some r)=.tuple #[.int .i64 r,.bool true] from rfl]
    have HEND:=Lib.hid (fun F hF=>bun_fin (F:=F) HL.out HHP.out.symm (HNUM.out ▸ hr) hF)
    clear hsome hr
    by_cases hd:d=0
    · subst hd
      have hm0:m=0:=by omega
      go_wp2_with fail
      go_loopw [40] (fun iv wr=>∃ (k:Nat) (A':Option Addr) (c':Nat) (F:List Factor),iv=.int .i64 (k:Int)∧k≤m∧F.length=k∧(T.take k).map psFac=F.map some∧Own wr (w3_.heap.size+1) 34 8 A' k c' (F.map Factor.cells)∧Bk wr w3_.heap.size 80 [.int .i64 r,.slice A' k c']∧Below w3_.heap.size w3_ wr) (fun iv _=>m - (intOf iv).toNat)
      case atStart=>exact ⟨0,none,0,[],rfl,by omega,rfl,rfl,Own.nil_ _ _ _ _,Bk.new w3_ [.int .i64 r,.slice none 0 0] 80 _ rfl,bAlloc (Below.refl _ _) _⟩
      case round =>
        obtain ⟨k,A',c',F,rfl,hk,hFl,hF,ho,hp,hbr⟩:=hrel
        have HO:=Lib.hid ho;have HF:=Lib.hid hF;clear ho hF
        have hszr:=hbr.size
        have hlt:¬ k < m:=by omega
        clear hm0 hnc hnc2
        obtain rfl:k=m:=by omega
        have hkk:¬ (k:Int) < (k:Int):=by omega
        have hTk:T.take k=T:=List.take_of_length_le (by omega)
        have hF2:=HF.out;rw [hTk] at hF2
        have hend:=HEND.out F hF2
        have hsz:∀ f∈F,f.frm.size≤4194304∧f.to.size≤4194304:=facs_sz hF2
        clear hF2 hTk
        have q0:=hp.bx.cells 0 _ rfl;have q1:=hp.bx.cells 1 _ rfl;have qf:=hp.bx.froz;have qz:=hp.lt
        cases hv:isBundle r F with
        | false =>
          have HN:=Lib.hid (hend.2 hv)
          have HV:=Lib.hid hv
          clear hend hv
          go_wp2_with (go_at_call 88;refine (impl_IsValidBundle_c r A' k c' F _ (by omega) (HO.out.row) hsz).mono ?_;rw [HV.out];rintro e w6_ ⟨rfl,hb6⟩;have hp6:=hp.below hb6;have hbr6:=bTrans hbr hb6;have bx6:=bx3.below hbr6;have s0:=hp6.bx.cells 0 _ rfl;have s1:=hp6.bx.cells 1 _ rfl;have sf:=hp6.bx.froz;have sz:=hp6.lt;have r0:=bx6.bx.cells 0 _ rfl;have r1:=bx6.bx.cells 1 _ rfl;have rf:=bx6.bx.froz;have rz:=bx6.lt)
          refine bodyPost_ret (v:=.tuple #[vBundle 0 none 0 0,.bool false]) (by simp [*,results,Tryz.results91,go_sem]) rfl ⟨?_,.inr ⟨HN.out,rfl⟩⟩
          exact b2 (bTrans B3 hbr6) (Nat.le_refl _) _ _
        | true =>
          have HP:=Lib.hid (hend.1 hv)
          have HV:=Lib.hid hv
          clear hend hv
          go_wp2_with (go_at_call 88;refine (impl_IsValidBundle_c r A' k c' F _ (by omega) (HO.out.row) hsz).mono ?_;rw [HV.out];rintro e w6_ ⟨rfl,hb6⟩;have hp6:=hp.below hb6;have hbr6:=bTrans hbr hb6;have bx6:=bx3.below hbr6;have s0:=hp6.bx.cells 0 _ rfl;have s1:=hp6.bx.cells 1 _ rfl;have sf:=hp6.bx.froz;have sz:=hp6.lt;have r0:=bx6.bx.cells 0 _ rfl;have r1:=bx6.bx.cells 1 _ rfl;have rf:=bx6.bx.froz;have rz:=bx6.lt)
          have ho7:=Own.set_ (Own.set_ (HO.out.below hb6) (p:=⟨w.heap.size,0,none⟩) (by simp only;omega) (.int .i64 r)) (p:=⟨w.heap.size,1,none⟩) (by simp only;omega) (.slice A' k c')
          refine bodyPost_ret (v:=.tuple #[vBundle r A' k c',.bool true]) (by simp [*,results,Tryz.results91,go_sem]) rfl ⟨?_,.inl ⟨⟨r,F⟩,⟨A',k,c'⟩,HP.out,rfl,ho7.zero,Fresh.rebase (Fresh.obl_ ho7) (by omega)⟩⟩
          exact b2 (bTrans B3 hbr6) (Nat.le_refl _) _ _
    · have hd1:(1:Int) < (d:Int)+1:=by omega
      go_wp2_with fail
      go_loopw [40] (fun iv wr=>∃ (k:Nat) (A':Option Addr) (c':Nat) (F:List Factor),iv=.int .i64 (k:Int)∧k≤m∧F.length=k∧(T.take k).map psFac=F.map some∧Own wr (w3_.heap.size+1) 34 8 A' k c' (F.map Factor.cells)∧Bk wr w3_.heap.size 80 [.int .i64 r,.slice A' k c']∧Below w3_.heap.size w3_ wr) (fun iv _=>m - (intOf iv).toNat)
      case atStart=>exact ⟨0,none,0,[],rfl,by omega,rfl,rfl,Own.nil_ _ _ _ _,Bk.new w3_ [.int .i64 r,.slice none 0 0] 80 _ rfl,bAlloc (Below.refl _ _) _⟩
      case round =>
        obtain ⟨k,A',c',F,rfl,hk,hFl,hF,ho,hp,hbr⟩:=hrel
        have HO:=Lib.hid ho;have HF:=Lib.hid hF;clear ho hF
        have hszr:=hbr.size
        by_cases hlt:k < m
        · obtain ⟨x,hx⟩:=ex_at (L:=T) (k:=k) (by omega)
          have cx:=bCell hbr (bCell B23.out (RowS.get HROW.out hx))
          have hxs:=HWS.out x (List.mem_of_getElem? hx)
          have hi0:(0:Int)≤(k:Int):=by omega
          have hi1:(k:Int) < (m:Int):=by omega
          have HXP:=Lib.hid hx
          clear hx
          go_wp2_with fail
          refine Calls.mono (impl_ParseFactor_c x _ (by omega) (HT3.out.below hbr)) ?_
          rintro e w4_ ⟨rfl,hb4⟩
          clear cx
          have hbr4:=bTrans hbr hb4
          have hp4:=hp.below hb4
          have HO4:=Lib.hid (HO.out.below hb4)
          cases hpf:psFac x with
          | none =>
            have HN:=Lib.hid (bun_none_part HL.out HXP.out hpf)
            rw [show vFacO none=.tuple #[vFactor 0 0 ⟨#[]⟩ ⟨#[]⟩ 0 0 0 0,.bool false] from rfl]
            have bx5:=(bx3.below hbr4).alloc_ (.cells #[.int .i64 0,.int .i64 0,.string ⟨#[]⟩,.string ⟨#[]⟩,.int .i64 0,.int .i64 0,.int .i64 0,.int .i64 0] 34)
            have r0:=bx5.bx.cells 0 _ rfl;have r1:=bx5.bx.cells 1 _ rfl;have rf:=bx5.bx.froz;have rz:=bx5.lt
            go_wp2_with fail
            refine bodyPost_ret (v:=.tuple #[vBundle 0 none 0 0,.bool false]) (by simp [*,results,Tryz.results91,go_sem]) rfl ⟨?_,.inr ⟨HN.out,rfl⟩⟩
            exact b2 (bAlloc (bTrans B3 hbr4) _) (Nat.le_refl _) _ _
          | some f =>
            rw [show vFacO (some f)=.tuple #[vFactor f.id f.kind f.frm f.to f.pose.turn f.pose.x f.pose.y f.weight,.bool true] from rfl]
            have HS:=Lib.hid (map_snoc HF.out HXP.out hpf)
            clear hpf HXP HF
            have hp5:=hp4.alloc_ (.cells f.cells.toArray 34)
            have hsz4:=hbr4.size
            have hnP:¬ w3_.heap.size=w4_.heap.size:=by have:=hp4.lt;omega
            have q0:=hp4.bx.cells 0 _ rfl;have q1:=hp4.bx.cells 1 _ rfl;have qf:=hp4.bx.froz;have qz:=hp4.lt
            have s0:=hp5.bx.cells 0 _ rfl;have s1:=hp5.bx.cells 1 _ rfl;have sf:=hp5.bx.froz;have sz:=hp5.lt
            go_wp2_with (at_builtin;refine wpList_append rfl (.tmp 53) (.tmp 55) 23 rfl (w3_.heap.size+1) 34 8 80 i0 _ Tryz.underlying23 hii hq0 hq1 hq2 rfl (by omega) A' k c' (F.map Factor.cells) rfl ((HO4.out.alloc_ _).alloc_ _) _ 1 1 [f.cells] rfl (Row.new1' _ _ f.cells 8 _ (by simp)) (by simp [Factor.cells]) (by simp [Factor.cells,Value.oneCell']) (by simp only [maxLen];omega) (by omega) (by simp;omega) ?_;intro A5 c5 w5_ ho5 hg5 hat5;have hp6:=(hp4.alloc_ (.cells f.cells.toArray 34)).alloc_ (.cells f.cells.toArray 34);have hp7:=bk_grown hg5 hp6 (fun e=>by have:=(HO4.out.lt _ e).1;omega);have t0:=hp7.bx.cells 0 _ rfl;have t1:=hp7.bx.cells 1 _ rfl;have tf:=hp7.bx.froz;have tz:=hp7.lt)
            have ho6:Own (w5_.setCell ⟨w3_.heap.size,1,none⟩ (.slice A5 (k+1) c5)) (w3_.heap.size+1) 34 8 A5 (k+1) c5 ((F++[f]).map Factor.cells):=by rw [List.map_append];exact Own.set_ ho5 (by simp only;omega) _
            exact ⟨⟨k+1,A5,c5,F++[f],by simp,by omega,by simp [hFl],HS.out,ho6,hp7.set 1 _,bSet (bGrown (bAlloc (bAlloc hbr4 _) _) hg5 (fun q hq=>by have:=(HO4.out.lt q hq).1;omega)) (Nat.le_refl _) _⟩,by simp only [intOf];omega⟩
        · obtain rfl:k=m:=by omega
          have hkk:¬ (k:Int) < (k:Int):=by omega
          have hTk:T.take k=T:=List.take_of_length_le (by omega)
          have hF2:=HF.out;rw [hTk] at hF2
          have hend:=HEND.out F hF2
          have hsz:∀ f∈F,f.frm.size≤4194304∧f.to.size≤4194304:=facs_sz hF2
          clear hF2 hTk
          have q0:=hp.bx.cells 0 _ rfl;have q1:=hp.bx.cells 1 _ rfl;have qf:=hp.bx.froz;have qz:=hp.lt
          cases hv:isBundle r F with
          | false =>
            have HN:=Lib.hid (hend.2 hv)
            have HV:=Lib.hid hv
            clear hend hv
            go_wp2_with (go_at_call 88;refine (impl_IsValidBundle_c r A' k c' F _ (by omega) (HO.out.row) hsz).mono ?_;rw [HV.out];rintro e w6_ ⟨rfl,hb6⟩;have hp6:=hp.below hb6;have hbr6:=bTrans hbr hb6;have bx6:=bx3.below hbr6;have s0:=hp6.bx.cells 0 _ rfl;have s1:=hp6.bx.cells 1 _ rfl;have sf:=hp6.bx.froz;have sz:=hp6.lt;have r0:=bx6.bx.cells 0 _ rfl;have r1:=bx6.bx.cells 1 _ rfl;have rf:=bx6.bx.froz;have rz:=bx6.lt)
            refine bodyPost_ret (v:=.tuple #[vBundle 0 none 0 0,.bool false]) (by simp [*,results,Tryz.results91,go_sem]) rfl ⟨?_,.inr ⟨HN.out,rfl⟩⟩
            exact b2 (bTrans B3 hbr6) (Nat.le_refl _) _ _
          | true =>
            have HP:=Lib.hid (hend.1 hv)
            have HV:=Lib.hid hv
            clear hend hv
            go_wp2_with (go_at_call 88;refine (impl_IsValidBundle_c r A' k c' F _ (by omega) (HO.out.row) hsz).mono ?_;rw [HV.out];rintro e w6_ ⟨rfl,hb6⟩;have hp6:=hp.below hb6;have hbr6:=bTrans hbr hb6;have bx6:=bx3.below hbr6;have s0:=hp6.bx.cells 0 _ rfl;have s1:=hp6.bx.cells 1 _ rfl;have sf:=hp6.bx.froz;have sz:=hp6.lt;have r0:=bx6.bx.cells 0 _ rfl;have r1:=bx6.bx.cells 1 _ rfl;have rf:=bx6.bx.froz;have rz:=bx6.lt)
            have ho7:=Own.set_ (Own.set_ (HO.out.below hb6) (p:=⟨w.heap.size,0,none⟩) (by simp only;omega) (.int .i64 r)) (p:=⟨w.heap.size,1,none⟩) (by simp only;omega) (.slice A' k c')
            refine bodyPost_ret (v:=.tuple #[vBundle r A' k c',.bool true]) (by simp [*,results,Tryz.results91,go_sem]) rfl ⟨?_,.inl ⟨⟨r,F⟩,⟨A',k,c'⟩,HP.out,rfl,ho7.zero,Fresh.rebase (Fresh.obl_ ho7) (by omega)⟩⟩
            exact b2 (bTrans B3 hbr6) (Nat.le_refl _) _ _
  · have HN:=Lib.hid (bun_none_head HL.out (by rw [← HHP.out,← HNUM.out];exact hok))
    have HV:=Lib.hid (vPair_eq (psI num))
    rw [HV.out]
    generalize (psI num).isSome=o at *
    have r0:=bx3.bx.cells 0 _ rfl;have r1:=bx3.bx.cells 1 _ rfl;have rf:=bx3.bx.froz;have rz:=bx3.lt
    cases hp <;> cases o <;> first | (exact absurd ⟨rfl,rfl⟩ hok) | (clear hok;go_wp2_with fail;(refine bodyPost_ret (v:=.tuple #[vBundle 0 none 0 0,.bool false]) (by simp [*,results,Tryz.results91,go_sem]) rfl ⟨?_,.inr ⟨HN.out,rfl⟩⟩);exact b2 B3 (Nat.le_refl _) _ _)
noncomputable def gF (x:ByteArray):Factor:=(psFac x).getD zFac'
theorem wfz (n:Int) (h0:-9223372036854775808≤n) (h1:n≤9223372036854775807):wfI n:=by
  simp [wfI,Lit.wf,IntKind.min,IntKind.max,IntKind.signed,IntKind.bits]
  omega
theorem gF_ok (x:ByteArray):Factor.ok (gF x):=by
  unfold gF
  cases h:psFac x with
  | none=>exact ⟨by decide,by decide,wfz _ (by decide) (by decide),wfz _ (by decide) (by decide),wfz _ (by decide) (by decide),wfz _ (by decide) (by decide),wfz _ (by decide) (by decide),wfz _ (by decide) (by decide)⟩
  | some f =>
    have hv:=(psFac_text h).1
    obtain ⟨h1,h2,h3,h4,_⟩:=vld_parts hv
    obtain ⟨t,x,y⟩:=pose_rng h3
    have i1:=inR_iff.1 h1;have i2:=inR_iff.1 h2
    have hs:=vld_sz hv
    have w:=wfz
    exact ⟨by simp only [maxLen,Option.getD_some];omega,by simp only [maxLen,Option.getD_some];omega,w _ (by simp only [Option.getD_some];omega) (by simp only [Option.getD_some];omega),w _ (by simp only [Option.getD_some];omega) (by simp only [Option.getD_some];omega),w _ (by simp only [Option.getD_some];omega) (by simp only [Option.getD_some];omega),w _ (by simp only [Option.getD_some];omega) (by simp only [Option.getD_some];omega),w _ (by simp only [Option.getD_some];omega) (by simp only [Option.getD_some];omega),w _ (by simp only [Option.getD_some];omega) (by simp only [Option.getD_some];omega)⟩
theorem psI_rng (x:ByteArray):-9223372036854775808≤(psI x).getD 0∧(psI x).getD 0≤9223372036854775807:=by
  cases h:psI x with
  | none=>simp
  | some n=>have:=psI_text h;simp;omega
def EntOf (ln:List UInt8) (p:Int) (e:Entry):Prop:=vldEntry e=true∧inR p 0 65520=true∧(entT e p).data.toList=ln++[10]
theorem ent_ln {ln:List UInt8} {p:Int} {e:Entry} (h:EntOf ln p e):ln=entL e++32 :: 35 :: Lib.itoa (entSum e p):=by
  have:=h.2.2
  unfold entT at this
  simp only at this
  have e2:entL e++32 :: 35 :: (Lib.itoa (entSum e p)++[10])=(entL e++32 :: 35 :: Lib.itoa (entSum e p))++[10]:=by simp
  rw [e2] at this
  exact (List.append_cancel_right this).symm
def addL:List UInt8:=[97,100,100,32]
def remL:List UInt8:=[114,101,109,111,118,101,32]
def zFac:Factor:=⟨0,0,⟨#[]⟩,⟨#[]⟩,⟨0,0,0⟩,0⟩
theorem isZero_eq {f:Factor} (h:f.isZero=true):f=zFac:=by
  unfold Factor.isZero at h
  simp only [Bool.and_eq_true,beq_iff_eq] at h
  obtain ⟨h1,h2,h3,h4,h5,h6,h7,h8⟩:=h
  have e1:f.frm=⟨#[]⟩:=by rw [ByteArray.toList_eq] at h3;exact bext (by simpa using h3)
  have e2:f.to=⟨#[]⟩:=by rw [ByteArray.toList_eq] at h4;exact bext (by simpa using h4)
  obtain ⟨fi,fk,ff,ft,⟨pt,px,py⟩,fw⟩:=f
  simp only at h1 h2 e1 e2 h5 h6 h7 h8
  rw [h1,h2,e1,e2,h5,h6,h7,h8];rfl
theorem ent_kinds {e:Entry} (h:vldEntry e=true):(∃ f,e=⟨false,0,f⟩∧vldFactor f=true∧entL e=addL++facL f)∨(∃ n,e=⟨true,n,zFac⟩∧(0≤n∧n≤99999)∧entL e=remL++Lib.itoa n):=by
  obtain ⟨r,n,f⟩:=e
  unfold vldEntry at h
  cases r with
  | true =>
    simp only [if_true,Bool.and_eq_true,inR_iff] at h
    exact .inr ⟨n,by rw [isZero_eq h.2],h.1,rfl⟩
  | false =>
    simp only [Bool.false_eq_true,if_false,Bool.and_eq_true,beq_iff_eq] at h
    exact .inl ⟨f,by rw [h.1],h.2,rfl⟩
theorem ent_no {e:Entry} (h:vldEntry e=true) {c:UInt8} (hc:c=10∨c=35):∀ b∈entL e,isB c b=false:=by
  rcases ent_kinds h with ⟨f,_,hv,he⟩ | ⟨n,_,_,he⟩
  · rw [he]
    intro b hb
    rcases List.mem_append.1 hb with hb | hb
    · have h1:∀ b∈addL,isB 10 b=false∧isB 35 b=false:=by decide
      rcases hc with rfl | rfl
      · exact (h1 b hb).1
      · exact (h1 b hb).2
    · exact fac_no hv (.inr hc) b hb
  · rw [he]
    intro b hb
    rcases List.mem_append.1 hb with hb | hb
    · have h1:∀ b∈remL,isB 10 b=false∧isB 35 b=false:=by decide
      rcases hc with rfl | rfl
      · exact (h1 b hb).1
      · exact (h1 b hb).2
    · exact wd_no (.inr (.inr (.inr hc))) (itoa_wd _ _ hb)
theorem ent_no10 {ln:List UInt8} {p:Int} {e:Entry} (h:EntOf ln p e):∀ b∈ln,isB 10 b=false:=by
  rw [ent_ln h]
  intro b hb
  simp only [List.mem_append,List.mem_cons] at hb
  rcases hb with hb | rfl | rfl | hb
  · exact ent_no h.1 (by simp) b hb
  · decide
  · decide
  · exact wd_no (by simp) (itoa_wd _ _ hb)
theorem index_hash:∀ (A X:List UInt8),(∀ b∈A,isB 35 b=false)→Lib.index (A++32 :: 35 :: X) [32,35]=A.length
  | [],X,_=>by simp [Lib.index]
  | a :: A,X,h=>by
    have ih:=index_hash A X fun b hb=>h b (by simp [hb])
    have hp:List.isPrefixOf [32,35] (a :: (A++32 :: 35 :: X))=false:=by
      cases A with
      | nil=>simp [List.isPrefixOf]
      | cons b A =>
        have hb:=h b (by simp)
        have hb:¬ (35:UInt8)=b:=by intro e;rw [← e] at hb;revert hb;decide
        simp [List.isPrefixOf,hb]
    rw [List.cons_append,Lib.index,hp,ih]
    have:¬ ((A.length:Int) == -1)=true:=by simp
    simp only [Bool.false_eq_true,if_false,if_neg this,List.length_cons]
    omega
theorem ent_cut {ln:List UInt8} {p:Int} {e:Entry} (h:EntOf ln p e):Lib.cut ln [32,35]=(entL e,Lib.itoa (entSum e p),true):=by
  have hi:=index_hash (entL e) (Lib.itoa (entSum e p)) (ent_no h.1 (by simp))
  rw [ent_ln h]
  unfold Lib.cut
  rw [hi,if_pos (by omega)]
  simp
theorem entL_inj {e g:Entry} (h:vldEntry e=true) (k:vldEntry g=true) (he:entL e=entL g):e=g:=by
  rcases ent_kinds h with ⟨f,rfl,hv,h1⟩ | ⟨n,rfl,hn,h1⟩ <;> rcases ent_kinds k with ⟨f',rfl,hv',h2⟩ | ⟨n',rfl,hn',h2⟩
  · rw [h1,h2] at he
    have he:=List.append_cancel_left he
    rw [fac_one (s:=⟨(facL f).toArray⟩) ⟨hv,by simp⟩ ⟨hv',by rw [← he]⟩]
  · rw [h1,h2] at he
    exact absurd (List.cons.inj he).1 (by decide)
  · rw [h1,h2] at he
    exact absurd (List.cons.inj he).1 (by decide)
  · rw [h1,h2] at he
    rw [itoa_inj (by omega) (by omega) (by omega) (by omega) (List.append_cancel_left he)]
theorem ent_one {ln:List UInt8} {p q:Int} {e g:Entry} (h:EntOf ln p e) (k:EntOf ln q g):e=g:=by
  have a:=ent_cut h
  rw [ent_cut k] at a
  exact (entL_inj k.1 h.1 (Prod.mk.inj a).1).symm
def PfxOf (r:List UInt8) (p:Int) (e:Entry):Prop:=vldEntry e=true∧inR p 0 65520=true∧∃ t,r=(entT e p).data.toList++t
theorem pfx_ln {r:List UInt8} {p:Int} {e:Entry} (h:PfxOf r p e):∃ ln t,r=ln++10 :: t∧EntOf ln p e:=by
  obtain ⟨h1,h2,t,rfl⟩:=h
  refine ⟨entL e++32 :: 35 :: Lib.itoa (entSum e p),t,?_,h1,h2,?_⟩
  · unfold entT;simp
  · unfold entT;simp
theorem ln_pfx {ln t:List UInt8} {p:Int} {e:Entry} (h:EntOf ln p e):PfxOf (ln++10 :: t) p e :=
  ⟨h.1,h.2.1,t,by rw [h.2.2];simp⟩
theorem nl_one:∀ {a b t u:List UInt8},(∀ x∈a,isB 10 x=false)→(∀ x∈b,isB 10 x=false)→a++10 :: t=b++10 :: u→a=b∧t=u
  | [],[],t,u,_,_,h=>⟨rfl,(List.cons.inj h).2⟩
  | [],y :: b,t,u,_,hb,h=>by
    have:=hb y (by simp)
    rw [← (List.cons.inj h).1] at this;exact absurd this (by decide)
  | x :: a,[],t,u,ha,_,h=>by
    have:=ha x (by simp)
    rw [(List.cons.inj h).1] at this;exact absurd this (by decide)
  | x :: a,y :: b,t,u,ha,hb,h=>by
    have h1:=List.cons.inj h
    obtain ⟨h2,h3⟩:=nl_one (fun z hz=>ha z (by simp [hz])) (fun z hz=>hb z (by simp [hz])) h1.2
    exact ⟨by rw [h1.1,h2],h3⟩
theorem pfx_at {ln t:List UInt8} {p:Int} {e:Entry} (hl:∀ x∈ln,isB 10 x=false) (h:PfxOf (ln++10 :: t) p e):EntOf ln p e:=by
  obtain ⟨ln',t',he,h⟩:=pfx_ln h
  obtain ⟨h1,h2⟩:=nl_one hl (ent_no10 h) he
  rw [h1];exact h
theorem pfx_nl {r:List UInt8} {p:Int} {e:Entry} (h:PfxOf r p e):10∈r:=by
  obtain ⟨ln,t,rfl,_⟩:=pfx_ln h
  simp
theorem pfx_one {r:List UInt8} {p q:Int} {e g:Entry} (h:PfxOf r p e) (k:PfxOf r q g):e=g:=by
  obtain ⟨ln,t,rfl,h2⟩:=pfx_ln h
  exact ent_one h2 (pfx_at (ent_no10 h2) k)
noncomputable def nxt (r:List UInt8) (p:Int):Option Entry:=the (PfxOf r p)
theorem nxt_some {r:List UInt8} {p:Int} {e:Entry} (h:PfxOf r p e):nxt r p=some e:=the_some (fun q hq=>pfx_one hq h) h
theorem nxt_none {r:List UInt8} {p:Int} (h:∀ e,¬ PfxOf r p e):nxt r p=none:=the_none h
theorem nxt_text {r:List UInt8} {p:Int} {e:Entry} (h:nxt r p=some e):PfxOf r p e:=the_text h
noncomputable def rdj:Nat→List UInt8→Int→List Entry × Nat × Int
  | 0,_,p=>([],0,p)
  | k+1,r,p=>match nxt r p with
    | none=>([],0,p)
    | some e=>(e :: (rdj k (r.drop (entT e p).size) (entSum e p)).1,(entT e p).size+(rdj k (r.drop (entT e p).size) (entSum e p)).2.1,(rdj k (r.drop (entT e p).size) (entSum e p)).2.2)
theorem rdj_none {k:Nat} {r:List UInt8} {p:Int} (h:∀ e,¬ PfxOf r p e):rdj k r p=([],0,p):=by
  cases k with
  | zero=>rfl
  | succ k=>rw [rdj,nxt_none h]
theorem rdj_some {k:Nat} {r:List UInt8} {p:Int} {e:Entry} (h:PfxOf r p e):rdj (k+1) r p=(e :: (rdj k (r.drop (entT e p).size) (entSum e p)).1,(entT e p).size+(rdj k (r.drop (entT e p).size) (entSum e p)).2.1,(rdj k (r.drop (entT e p).size) (entSum e p)).2.2):=by
  rw [rdj,nxt_some h]
theorem ent_size {ln:List UInt8} {p:Int} {e:Entry} (h:EntOf ln p e):(entT e p).size=ln.length+1:=by
  have h1:(entT e p).data.toList.length=(entT e p).size:=by simp
  rw [h.2.2] at h1
  simp at h1;omega
def RjInv (s:List UInt8) (l:List Entry) (n:Nat) (q:Int):Prop :=
  l.length≤60∧n≤s.length∧rdj 60 s 1=(l++(rdj (60 - l.length) (s.drop n) q).1,n+(rdj (60 - l.length) (s.drop n) q).2.1,(rdj (60 - l.length) (s.drop n) q).2.2)
theorem RjInv.start (s:List UInt8):RjInv s [] 0 1:=⟨by simp,by simp,by simp⟩
theorem RjInv.full {s:List UInt8} {l:List Entry} {n:Nat} {q:Int} (h:RjInv s l n q) (hl:l.length=60):rdj 60 s 1=(l,n,q):=by
  obtain ⟨_,_,h⟩:=h
  rw [hl] at h
  rw [h];simp [rdj]
theorem RjInv.stop {s:List UInt8} {l:List Entry} {n:Nat} {q:Int} (h:RjInv s l n q) (hn:∀ e,¬ PfxOf (s.drop n) q e):rdj 60 s 1=(l,n,q):=by
  obtain ⟨_,_,h⟩:=h
  rw [rdj_none hn] at h
  rw [h];simp
theorem RjInv.next {s:List UInt8} {l:List Entry} {n:Nat} {q:Int} {e:Entry} (h:RjInv s l n q) (hl:l.length < 60) (he:PfxOf (s.drop n) q e):RjInv s (l++[e]) (n+(entT e q).size) (entSum e q):=by
  obtain ⟨_,h0,h⟩:=h
  have hk:60 - l.length=(60 - (l++[e]).length)+1:=by simp;omega
  rw [hk,rdj_some he,List.drop_drop] at h
  refine ⟨by simp;omega,?_,?_⟩
  · obtain ⟨_,_,t,ht⟩:=he
    have:=congrArg List.length ht
    simp only [List.length_drop,List.length_append] at this
    have h1:(entT e q).data.toList.length=(entT e q).size:=by simp
    omega
  · rw [h]
    simp [Nat.add_assoc]
end Go.Proofs.YtdfemnffpaopfaaGreatDoor
