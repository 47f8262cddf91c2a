/- Texts of this proof, one behind the other: ShelfC, PsBun, PsBunS, PrsE, PsEnt. -/
import Derived.Shelf.Small.Wraps
import Derived.Shelf.Small.Strs
import Derived.Shelf.Strings.Cut
import Derived.Test.YtdfemnffpaopfaaGreatDoorProg
import Derived.Lib.IndexMore
import Derived.Lib.IndexLaws
import Derived.Test.YtdfemnffpaopfaaGreatDoorGmf13
import Derived.Test.YtdfemnffpaopfaaGreatDoorGmf22
import Derived.Test.YtdfemnffpaopfaaGreatDoorGmf24
namespace Go.Proofs
open Go.Shelf
def YtdfemnffpaopfaaGreatDoor.lays103_ren:Go.Shelf.Ren:=⟨fun | 103=>140 | 210=>180 | 206=>202 | n=>n,fun | 9=>9 | 4=>4 | 24=>76 | 3=>3 | n=>n,fun | n=>n⟩
theorem YtdfemnffpaopfaaGreatDoor.lays103:Go.Proofs.Lays.n103 Tryz.prog YtdfemnffpaopfaaGreatDoor.lays103_ren:={
  mixed:=by kernel_rfl
  f103:=Tryz.func140.trans (congrArg some (by kernel_rfl))
  f206:=Tryz.func202.trans (congrArg some (by kernel_rfl))
  f210:=Tryz.func180.trans (congrArg some (by kernel_rfl))
  t3:=Tryz.underlying3
  a3:=Tryz.isAgg3
  z3:=Tryz.sizeOf3
  v3:=Tryz.zeroValue3
  t4:=Tryz.underlying4
  a4:=Tryz.isAgg4
  z4:=Tryz.sizeOf4
  v4:=Tryz.zeroValue4
  t9:=Tryz.underlying9
  a9:=Tryz.isAgg9
  z9:=Tryz.sizeOf9
  v9:=Tryz.zeroValue9
  t24:=Tryz.underlying76
  a24:=Tryz.isAgg76
  z24:=Tryz.sizeOf76
  v24:=Tryz.zeroValue76 }
open Go.RowKit in
theorem YtdfemnffpaopfaaGreatDoor.strings_CutPrefix (s p:ByteArray) (w:World) :
    Calls Tryz.prog 140 #[.string s,.string p] w fun e w'=>e=.returned (.tuple #[.string ⟨(Lib.trimPrefix s.data.toList p.data.toList).toArray⟩,.bool (Lib.hasPrefix s.data.toList p.data.toList)])∧w'=w:=Any.strings_CutPrefix YtdfemnffpaopfaaGreatDoor.lays103 s p w
def YtdfemnffpaopfaaGreatDoor.lays137_ren:Go.Shelf.Ren:=⟨fun | 137=>132 | 217=>174 | 266=>200 | n=>n,fun | 9=>9 | 5=>5 | 3=>3 | n=>n,fun | n=>n⟩
theorem YtdfemnffpaopfaaGreatDoor.lays137:Go.Proofs.Lays.n137 Tryz.prog YtdfemnffpaopfaaGreatDoor.lays137_ren:={
  mixed:=by kernel_rfl
  f137:=Tryz.func132.trans (congrArg some (by kernel_rfl))
  f217:=Tryz.func174.trans (congrArg some (by kernel_rfl))
  f266:=Tryz.func200.trans (congrArg some (by kernel_rfl))
  t3:=Tryz.underlying3
  a3:=Tryz.isAgg3
  z3:=Tryz.sizeOf3
  v3:=Tryz.zeroValue3
  t5:=Tryz.underlying5
  a5:=Tryz.isAgg5
  z5:=Tryz.sizeOf5
  v5:=Tryz.zeroValue5
  t9:=Tryz.underlying9
  a9:=Tryz.isAgg9
  z9:=Tryz.sizeOf9
  v9:=Tryz.zeroValue9 }
open Go.RowKit in
theorem YtdfemnffpaopfaaGreatDoor.strings_IndexByte (s:ByteArray) (c:Int) (w:World) :
    Calls Tryz.prog 132 #[.string s,.int .u8 c] w fun e w'=>e=.returned (.int .i64 (Lib.indexByte s.data.toList c.toNat.toUInt8))∧w'=w:=Any.strings_IndexByte YtdfemnffpaopfaaGreatDoor.lays137 s c w
def YtdfemnffpaopfaaGreatDoor.lays145_ren:Go.Shelf.Ren:=⟨fun | 145=>175 | 220=>201 | 219=>214 | 217=>174 | 225=>225 | 224=>226 | 267=>227 | 266=>200 | 314=>233 | n=>n,fun | 9=>9 | 4=>4 | 59=>191 | 3=>3 | 5=>5 | 46=>131 | 146=>240 | 51=>230 | n=>n,fun | 1=>0 | n=>n⟩
theorem YtdfemnffpaopfaaGreatDoor.lays145:Go.Proofs.Lays.n145 Tryz.prog YtdfemnffpaopfaaGreatDoor.lays145_ren:={
  mixed:=by kernel_rfl
  f145:=Tryz.func175.trans (congrArg some (by kernel_rfl))
  f217:=Tryz.func174.trans (congrArg some (by kernel_rfl))
  f219:=Tryz.func214.trans (congrArg some (by kernel_rfl))
  f220:=Tryz.func201.trans (congrArg some (by kernel_rfl))
  f224:=Tryz.func226.trans (congrArg some (by kernel_rfl))
  f225:=Tryz.func225.trans (congrArg some (by kernel_rfl))
  f266:=Tryz.func200.trans (congrArg some (by kernel_rfl))
  f267:=Tryz.func227.trans (congrArg some (by kernel_rfl))
  f314:=Tryz.func233.trans (congrArg some (by kernel_rfl))
  t3:=Tryz.underlying3
  a3:=Tryz.isAgg3
  z3:=Tryz.sizeOf3
  v3:=Tryz.zeroValue3
  t4:=Tryz.underlying4
  a4:=Tryz.isAgg4
  z4:=Tryz.sizeOf4
  v4:=Tryz.zeroValue4
  t5:=Tryz.underlying5
  a5:=Tryz.isAgg5
  z5:=Tryz.sizeOf5
  v5:=Tryz.zeroValue5
  t9:=Tryz.underlying9
  a9:=Tryz.isAgg9
  z9:=Tryz.sizeOf9
  v9:=Tryz.zeroValue9
  t46:=Tryz.underlying131
  a46:=Tryz.isAgg131
  z46:=Tryz.sizeOf131
  v46:=Tryz.zeroValue131
  t51:=Tryz.underlying230
  a51:=Tryz.isAgg230
  z51:=Tryz.sizeOf230
  v51:=Tryz.zeroValue230
  t59:=Tryz.underlying191
  a59:=Tryz.isAgg191
  z59:=Tryz.sizeOf191
  v59:=Tryz.zeroValue191
  t146:=Tryz.underlying240
  a146:=Tryz.isAgg240
  z146:=Tryz.sizeOf240
  v146:=Tryz.zeroValue240
  g1:=by kernel_rfl }
open Go.RowKit in
theorem YtdfemnffpaopfaaGreatDoor.strings_Cut (s sep:ByteArray) (m:Int) (w:World) (hs:s.size < 4294967281) (hm:w.cell? ⟨0,0,none⟩=some (.int .i64 m)) :
    Calls Tryz.prog 175 #[.string s,.string sep] w fun e w'=>e=.returned (.tuple #[.string ⟨(Lib.cut s.data.toList sep.data.toList).1.toArray⟩,.string ⟨(Lib.cut s.data.toList sep.data.toList).2.1.toArray⟩,.bool (Lib.cut s.data.toList sep.data.toList).2.2])∧∃ n,w'=w.drewN n:=Any.strings_Cut YtdfemnffpaopfaaGreatDoor.lays145 s sep m w hs hm
end Go.Proofs


namespace Go.Proofs.YtdfemnffpaopfaaGreatDoor
open Go.RowKit
set_option linter.unusedVariables false
set_option linter.unusedSimpArgs false
set_option maxHeartbeats 4000000
set_option maxRecDepth 100000
theorem splitL_cnt (p:UInt8→Bool):∀ (l cur:List UInt8),(splitL p cur l).length≤l.length+1
  | [],cur=>by simp [splitL]
  | b :: l,cur=>by
    rw [splitL]
    split
    · have:=splitL_cnt p l []
      simp;omega
    · have:=splitL_cnt p l (cur++[b])
      simp;omega
theorem words_cnt {s:ByteArray} {c:UInt8} {L:List ByteArray} (hL:L.map (fun x=>x.data.toList)=splitL (isB c) [] s.data.toList):L.length≤s.size+1:=by
  have h:=splitL_cnt (isB c) s.data.toList []
  rw [← hL] at h
  simpa using h
theorem Own.set_ {w:World} {B e sz n c:Nat} {A:Option Addr} {css:List (List Value)} (h:Own w B e sz A n c css) {p:Addr} (hp:p.block < B) (u:Value):Own (w.setCell p u) B e sz A n c css:=h.keep fun g hg=>Below.heap_setCell w p u g (by have:=(h.lt g hg).1;omega)
theorem vld_sz {f:Factor} (h:vldFactor f=true):f.frm.size≤4194304∧f.to.size≤4194304:=by
  obtain ⟨_,_,_,_,h5,h6,h7⟩:=vld_parts h
  have nm:∀ (s:ByteArray) (c:Int),nmWith s c=true→s.size≤8:=fun s c h=>by
    unfold nmWith isNm at h
    simp only [Bool.and_eq_true,decide_eq_true_eq] at h
    exact h.1.1.2
  constructor
  · by_cases k:f.kind=1
    · have e:=h5 k
      rw [ByteArray.toList_eq] at e
      have:f.frm.data.toList.length=f.frm.size:=by simp
      rw [show f.frm.data.toList=[] by simpa using e] at this
      simp at this;omega
    · have:=nm _ _ (h6 k);omega
  · rcases h7 with h | h
    · have:=nm _ _ h;omega
    · have:=nm _ _ h;omega
def zFac':Factor:=⟨0,0,⟨#[]⟩,⟨#[]⟩,⟨0,0,0⟩,0⟩
theorem vFacO_eq (o:Option Factor):vFacO o=.tuple #[vFactor (o.getD zFac').id (o.getD zFac').kind (o.getD zFac').frm (o.getD zFac').to (o.getD zFac').pose.turn (o.getD zFac').pose.x (o.getD zFac').pose.y (o.getD zFac').weight,.bool o.isSome]:=by cases o <;> rfl
theorem b2 {a w:World} (h:Below a.heap.size a w) {b:Nat} (hb:a.heap.size≤b) (u0 u1:Value):Below a.heap.size a ((w.setCell ⟨b,0,none⟩ u0).setCell ⟨b,1,none⟩ u1):=bSet (bSet h hb u0) hb u1
noncomputable def gF (x:ByteArray):Factor:=(psFac x).getD zFac'
theorem fmtBun_ne {b:Bundle} (h:isBundle b.robot b.factors=true):fmtBun b=bunT b.robot b.factors∧(fmtBun b).toList.isEmpty=false:=by
  have e:fmtBun b=bunT b.robot b.factors:=by unfold fmtBun;rw [if_pos h]
  refine ⟨e,?_⟩
  rw [e,ByteArray.toList_eq,bun_data];simp [bunL0]
theorem psI_rng (x:ByteArray):-9223372036854775808≤(psI x).getD 0∧(psI x).getD 0≤9223372036854775807:=by
  cases h:psI x with
  | none=>simp
  | some n=>have:=psI_text h;simp;omega
theorem vFac_gF (x:ByteArray):∃ o,vFacO (psFac x)=.tuple #[vFactor (gF x).id (gF x).kind (gF x).frm (gF x).to (gF x).pose.turn (gF x).pose.x (gF x).pose.y (gF x).weight,.bool o]:=⟨_,vFacO_eq _⟩
def EntOf (ln:List UInt8) (p:Int) (e:Entry):Prop:=vldEntry e=true∧inR p 0 65520=true∧(entT e p).data.toList=ln++[10]
theorem ent_ln {ln:List UInt8} {p:Int} {e:Entry} (h:EntOf ln p e):ln=entL e++32 :: 35 :: Lib.itoa (entSum e p):=by
  have:=h.2.2
  unfold entT at this
  simp only at this
  have e2:entL e++32 :: 35 :: (Lib.itoa (entSum e p)++[10])=(entL e++32 :: 35 :: Lib.itoa (entSum e p))++[10]:=by simp
  rw [e2] at this
  exact (List.append_cancel_right this).symm
def addL:List UInt8:=[97,100,100,32]
def remL:List UInt8:=[114,101,109,111,118,101,32]
def zFac:Factor:=⟨0,0,⟨#[]⟩,⟨#[]⟩,⟨0,0,0⟩,0⟩
theorem isZero_eq {f:Factor} (h:f.isZero=true):f=zFac:=by
  unfold Factor.isZero at h
  simp only [Bool.and_eq_true,beq_iff_eq] at h
  obtain ⟨h1,h2,h3,h4,h5,h6,h7,h8⟩:=h
  have e1:f.frm=⟨#[]⟩:=by rw [ByteArray.toList_eq] at h3;exact bext (by simpa using h3)
  have e2:f.to=⟨#[]⟩:=by rw [ByteArray.toList_eq] at h4;exact bext (by simpa using h4)
  obtain ⟨fi,fk,ff,ft,⟨pt,px,py⟩,fw⟩:=f
  simp only at h1 h2 e1 e2 h5 h6 h7 h8
  rw [h1,h2,e1,e2,h5,h6,h7,h8];rfl
theorem ent_kinds {e:Entry} (h:vldEntry e=true):(∃ f,e=⟨false,0,f⟩∧vldFactor f=true∧entL e=addL++facL f)∨(∃ n,e=⟨true,n,zFac⟩∧(0≤n∧n≤99999)∧entL e=remL++Lib.itoa n):=by
  obtain ⟨r,n,f⟩:=e
  unfold vldEntry at h
  cases r with
  | true =>
    simp only [if_true,Bool.and_eq_true,inR_iff] at h
    exact .inr ⟨n,by rw [isZero_eq h.2],h.1,rfl⟩
  | false =>
    simp only [Bool.false_eq_true,if_false,Bool.and_eq_true,beq_iff_eq] at h
    exact .inl ⟨f,by rw [h.1],h.2,rfl⟩
theorem ent_no {e:Entry} (h:vldEntry e=true) {c:UInt8} (hc:c=10∨c=35):∀ b∈entL e,isB c b=false:=by
  rcases ent_kinds h with ⟨f,_,hv,he⟩ | ⟨n,_,_,he⟩
  · rw [he]
    intro b hb
    rcases List.mem_append.1 hb with hb | hb
    · have h1:∀ b∈addL,isB 10 b=false∧isB 35 b=false:=by decide
      rcases hc with rfl | rfl
      · exact (h1 b hb).1
      · exact (h1 b hb).2
    · exact fac_no hv (.inr hc) b hb
  · rw [he]
    intro b hb
    rcases List.mem_append.1 hb with hb | hb
    · have h1:∀ b∈remL,isB 10 b=false∧isB 35 b=false:=by decide
      rcases hc with rfl | rfl
      · exact (h1 b hb).1
      · exact (h1 b hb).2
    · exact wd_no (.inr (.inr (.inr hc))) (itoa_wd _ _ hb)
theorem ent_no10 {ln:List UInt8} {p:Int} {e:Entry} (h:EntOf ln p e):∀ b∈ln,isB 10 b=false:=by
  rw [ent_ln h]
  intro b hb
  simp only [List.mem_append,List.mem_cons] at hb
  rcases hb with hb | rfl | rfl | hb
  · exact ent_no h.1 (by simp) b hb
  · decide
  · decide
  · exact wd_no (by simp) (itoa_wd _ _ hb)
theorem index_hash:∀ (A X:List UInt8),(∀ b∈A,isB 35 b=false)→Lib.index (A++32 :: 35 :: X) [32,35]=A.length
  | [],X,_=>by simp [Lib.index]
  | a :: A,X,h=>by
    have ih:=index_hash A X fun b hb=>h b (by simp [hb])
    have hp:List.isPrefixOf [32,35] (a :: (A++32 :: 35 :: X))=false:=by
      cases A with
      | nil=>simp [List.isPrefixOf]
      | cons b A =>
        have hb:=h b (by simp)
        have hb:¬ (35:UInt8)=b:=by intro e;rw [← e] at hb;revert hb;decide
        simp [List.isPrefixOf,hb]
    rw [List.cons_append,Lib.index,hp,ih]
    have:¬ ((A.length:Int) == -1)=true:=by simp
    simp only [Bool.false_eq_true,if_false,if_neg this,List.length_cons]
    omega
theorem ent_cut {ln:List UInt8} {p:Int} {e:Entry} (h:EntOf ln p e):Lib.cut ln [32,35]=(entL e,Lib.itoa (entSum e p),true):=by
  have hi:=index_hash (entL e) (Lib.itoa (entSum e p)) (ent_no h.1 (by simp))
  rw [ent_ln h]
  unfold Lib.cut
  rw [hi,if_pos (by omega)]
  simp
theorem entL_inj {e g:Entry} (h:vldEntry e=true) (k:vldEntry g=true) (he:entL e=entL g):e=g:=by
  rcases ent_kinds h with ⟨f,rfl,hv,h1⟩ | ⟨n,rfl,hn,h1⟩ <;> rcases ent_kinds k with ⟨f',rfl,hv',h2⟩ | ⟨n',rfl,hn',h2⟩
  · rw [h1,h2] at he
    have he:=List.append_cancel_left he
    rw [fac_one (s:=⟨(facL f).toArray⟩) ⟨hv,by simp⟩ ⟨hv',by rw [← he]⟩]
  · rw [h1,h2] at he
    exact absurd (List.cons.inj he).1 (by decide)
  · rw [h1,h2] at he
    exact absurd (List.cons.inj he).1 (by decide)
  · rw [h1,h2] at he
    rw [itoa_inj (by omega) (by omega) (by omega) (by omega) (List.append_cancel_left he)]
theorem ent_one {ln:List UInt8} {p q:Int} {e g:Entry} (h:EntOf ln p e) (k:EntOf ln q g):e=g:=by
  have a:=ent_cut h
  rw [ent_cut k] at a
  exact (entL_inj k.1 h.1 (Prod.mk.inj a).1).symm
theorem splitL_end {p:UInt8→Bool} {c:UInt8} (hc:p c=true) (z:List UInt8) (hz:∀ b∈z,p b=false):∀ (l cur:List UInt8),splitL p cur (l++c :: z)=splitL p cur l++[z]
  | [],cur=>by
    rw [List.nil_append,show splitL p cur (c :: z)=cur :: splitL p [] z by rw [splitL,if_pos hc],splitL_last _ _ hz];rfl
  | b :: l,cur=>by
    rw [List.cons_append,splitL,splitL]
    split
    · rw [splitL_end hc z hz l []];rfl
    · exact splitL_end hc z hz l _
theorem hash_no (n:Int):∀ b∈35 :: Lib.itoa n,isB 32 b=false:=by
  intro b hb
  rcases List.mem_cons.1 hb with rfl | hb
  · decide
  · exact wd_no (by simp) (itoa_wd _ _ hb)
theorem ent_words {ln:List UInt8} {p:Int} {e:Entry} {L:List ByteArray} (h:EntOf ln p e) (hL:L.map (fun x=>x.data.toList)=splitL (isB 32) [] ln) :
    (∃ f w0 T z,e=⟨false,0,f⟩∧vldFactor f=true∧L=w0 :: (T++[z])∧w0.data.toList=[97,100,100]∧joinL 32 (T.map fun x=>x.data.toList)=facL f) ∨
    (∃ n w0 w1 z,e=⟨true,n,zFac⟩∧L=[w0,w1,z]∧w0.data.toList=[114,101,109,111,118,101]∧psI w1=some n):=by
  rw [ent_ln h] at hL
  rcases ent_kinds h.1 with ⟨f,hf,hv,h1⟩ | ⟨n,hf,hn,h1⟩
  · refine .inl ⟨f,?_⟩
    rw [h1,splitL_end (isB_self 32) _ (hash_no _),show addL++facL f=[97,100,100]++32 :: facL f from rfl,splitL_word (isB_self 32) _ _ _ (by decide)] at hL
    have hlen:=congrArg List.length hL
    simp only [List.length_map,List.length_append,List.length_cons,List.length_nil] at hlen
    have hsp:=List.length_pos_iff.2 (splitL_ne (isB 32) (facL f) [])
    rcases L with _ | ⟨w0,L⟩
    · simp at hlen
    · have hLn:L≠[]:=by intro hn;rw [hn] at hlen;simp at hlen
      simp only [List.map_cons,List.cons_append,List.cons.injEq] at hL
      have hd:=List.dropLast_concat_getLast hLn
      have hm:=hL.2
      rw [← hd,List.map_append] at hm
      have hm:=List.append_inj' hm (by simp)
      refine ⟨w0,L.dropLast,L.getLast hLn,hf,hv,by rw [hd],hL.1,?_⟩
      rw [hm.1,joinL_split,List.nil_append]
  · refine .inr ⟨n,?_⟩
    have e2:(remL++Lib.itoa n)++32 :: 35 :: Lib.itoa (entSum e p)=[114,101,109,111,118,101]++32 :: (Lib.itoa n++32 :: (35 :: Lib.itoa (entSum e p))):=by simp [remL]
    rw [h1,e2,splitL_word (isB_self 32) _ _ _ (by decide),splitL_word (isB_self 32) _ _ _ (no_of (by simp) (itoa_wd n)),splitL_last _ _ (hash_no _)] at hL
    rcases L with _ | ⟨a,_ | ⟨b,_ | ⟨c,_ | ⟨d,L⟩⟩⟩⟩
    all_goals simp only [List.map_cons,List.map_nil,List.nil_append,List.cons.injEq,reduceCtorEq,and_false,and_true,List.nil_eq,List.cons_ne_nil] at hL
    exact ⟨a,b,c,hf,rfl,hL.1,psI_some (by omega) (by omega) (bext (by rw [hL.2.1];simp [itoaB]))⟩
def PfxOf (r:List UInt8) (p:Int) (e:Entry):Prop:=vldEntry e=true∧inR p 0 65520=true∧∃ t,r=(entT e p).data.toList++t
theorem pfx_ln {r:List UInt8} {p:Int} {e:Entry} (h:PfxOf r p e):∃ ln t,r=ln++10 :: t∧EntOf ln p e:=by
  obtain ⟨h1,h2,t,rfl⟩:=h
  refine ⟨entL e++32 :: 35 :: Lib.itoa (entSum e p),t,?_,h1,h2,?_⟩
  · unfold entT;simp
  · unfold entT;simp
theorem ln_pfx {ln t:List UInt8} {p:Int} {e:Entry} (h:EntOf ln p e):PfxOf (ln++10 :: t) p e :=
  ⟨h.1,h.2.1,t,by rw [h.2.2];simp⟩
theorem nl_one:∀ {a b t u:List UInt8},(∀ x∈a,isB 10 x=false)→(∀ x∈b,isB 10 x=false)→a++10 :: t=b++10 :: u→a=b∧t=u
  | [],[],t,u,_,_,h=>⟨rfl,(List.cons.inj h).2⟩
  | [],y :: b,t,u,_,hb,h=>by
    have:=hb y (by simp)
    rw [← (List.cons.inj h).1] at this;exact absurd this (by decide)
  | x :: a,[],t,u,ha,_,h=>by
    have:=ha x (by simp)
    rw [(List.cons.inj h).1] at this;exact absurd this (by decide)
  | x :: a,y :: b,t,u,ha,hb,h=>by
    have h1:=List.cons.inj h
    obtain ⟨h2,h3⟩:=nl_one (fun z hz=>ha z (by simp [hz])) (fun z hz=>hb z (by simp [hz])) h1.2
    exact ⟨by rw [h1.1,h2],h3⟩
theorem pfx_at {ln t:List UInt8} {p:Int} {e:Entry} (hl:∀ x∈ln,isB 10 x=false) (h:PfxOf (ln++10 :: t) p e):EntOf ln p e:=by
  obtain ⟨ln',t',he,h⟩:=pfx_ln h
  obtain ⟨h1,h2⟩:=nl_one hl (ent_no10 h) he
  rw [h1];exact h
theorem pfx_nl {r:List UInt8} {p:Int} {e:Entry} (h:PfxOf r p e):10∈r:=by
  obtain ⟨ln,t,rfl,_⟩:=pfx_ln h
  simp
theorem pfx_one {r:List UInt8} {p q:Int} {e g:Entry} (h:PfxOf r p e) (k:PfxOf r q g):e=g:=by
  obtain ⟨ln,t,rfl,h2⟩:=pfx_ln h
  exact ent_one h2 (pfx_at (ent_no10 h2) k)
noncomputable def nxt (r:List UInt8) (p:Int):Option Entry:=the (PfxOf r p)
theorem nxt_some {r:List UInt8} {p:Int} {e:Entry} (h:PfxOf r p e):nxt r p=some e:=the_some (fun q hq=>pfx_one hq h) h
theorem nxt_none {r:List UInt8} {p:Int} (h:∀ e,¬ PfxOf r p e):nxt r p=none:=the_none h
theorem nxt_text {r:List UInt8} {p:Int} {e:Entry} (h:nxt r p=some e):PfxOf r p e:=the_text h
noncomputable def rdj:Nat→List UInt8→Int→List Entry × Nat × Int
  | 0,_,p=>([],0,p)
  | k+1,r,p=>match nxt r p with
    | none=>([],0,p)
    | some e=>(e :: (rdj k (r.drop (entT e p).size) (entSum e p)).1,(entT e p).size+(rdj k (r.drop (entT e p).size) (entSum e p)).2.1,(rdj k (r.drop (entT e p).size) (entSum e p)).2.2)
theorem rdj_none {k:Nat} {r:List UInt8} {p:Int} (h:∀ e,¬ PfxOf r p e):rdj k r p=([],0,p):=by
  cases k with
  | zero=>rfl
  | succ k=>rw [rdj,nxt_none h]
theorem rdj_some {k:Nat} {r:List UInt8} {p:Int} {e:Entry} (h:PfxOf r p e):rdj (k+1) r p=(e :: (rdj k (r.drop (entT e p).size) (entSum e p)).1,(entT e p).size+(rdj k (r.drop (entT e p).size) (entSum e p)).2.1,(rdj k (r.drop (entT e p).size) (entSum e p)).2.2):=by
  rw [rdj,nxt_some h]
theorem ent_size {ln:List UInt8} {p:Int} {e:Entry} (h:EntOf ln p e):(entT e p).size=ln.length+1:=by
  have h1:(entT e p).data.toList.length=(entT e p).size:=by simp
  rw [h.2.2] at h1
  simp at h1;omega
def RjInv (s:List UInt8) (l:List Entry) (n:Nat) (q:Int):Prop :=
  l.length≤60∧n≤s.length∧rdj 60 s 1=(l++(rdj (60 - l.length) (s.drop n) q).1,n+(rdj (60 - l.length) (s.drop n) q).2.1,(rdj (60 - l.length) (s.drop n) q).2.2)
theorem RjInv.start (s:List UInt8):RjInv s [] 0 1:=⟨by simp,by simp,by simp⟩
theorem RjInv.full {s:List UInt8} {l:List Entry} {n:Nat} {q:Int} (h:RjInv s l n q) (hl:l.length=60):rdj 60 s 1=(l,n,q):=by
  obtain ⟨_,_,h⟩:=h
  rw [hl] at h
  rw [h];simp [rdj]
theorem RjInv.stop {s:List UInt8} {l:List Entry} {n:Nat} {q:Int} (h:RjInv s l n q) (hn:∀ e,¬ PfxOf (s.drop n) q e):rdj 60 s 1=(l,n,q):=by
  obtain ⟨_,_,h⟩:=h
  rw [rdj_none hn] at h
  rw [h];simp
theorem RjInv.next {s:List UInt8} {l:List Entry} {n:Nat} {q:Int} {e:Entry} (h:RjInv s l n q) (hl:l.length < 60) (he:PfxOf (s.drop n) q e):RjInv s (l++[e]) (n+(entT e q).size) (entSum e q):=by
  obtain ⟨_,h0,h⟩:=h
  have hk:60 - l.length=(60 - (l++[e]).length)+1:=by simp;omega
  rw [hk,rdj_some he,List.drop_drop] at h
  refine ⟨by simp;omega,?_,?_⟩
  · obtain ⟨_,_,t,ht⟩:=he
    have:=congrArg List.length ht
    simp only [List.length_drop,List.length_append] at this
    have h1:(entT e q).data.toList.length=(entT e q).size:=by simp
    omega
  · rw [h]
    simp [Nat.add_assoc]
def TabJ (w:World):Prop:=TabE w∧∃ m,w.cell? ⟨0,0,none⟩=some (.int .i64 m)
theorem TabJ.below {w w':World} (h:TabJ w) (hb:Below w.heap.size w w'):TabJ w':=by
  obtain ⟨h1,m,h2⟩:=h
  exact ⟨h1.below hb,m,bCell hb h2⟩
def vEntryE (e:Entry):Value:=vEntry e.remove e.id e.factor.id e.factor.kind e.factor.frm e.factor.to e.factor.pose.turn e.factor.pose.x e.factor.pose.y e.factor.weight
def entOk (e:Entry):Prop:=e.factor.frm.size≤4194304∧e.factor.to.size≤4194304∧-9223372036854775808≤e.id∧e.id≤9223372036854775807
def EntRes (ln:List UInt8) (w:World) (e:Ending) (w':World):Prop :=
  ∃ (en:Entry) (ok:Bool),e=.returned (.tuple #[vEntryE en,.bool ok])∧entOk en∧(∀ p g,EntOf ln p g→g=en∧ok=true)∧Below w.heap.size w w'
theorem pre_app (q r:List UInt8):Lib.hasPrefix (q++r) q=true∧Lib.trimPrefix (q++r) q=r:=by
  have h:Lib.hasPrefix (q++r) q=true:=by unfold Lib.hasPrefix;rw [List.isPrefixOf_iff_prefix];exact List.prefix_append _ _
  exact ⟨h,by unfold Lib.trimPrefix;rw [if_pos h];simp⟩
theorem pre_rem (r:List UInt8):Lib.hasPrefix (remL++r) addL=false:=by
  simp [Lib.hasPrefix,remL,addL,List.isPrefixOf]
theorem par_no {ln A B:List UInt8} (hc:Lib.cut ln [32,35]=(A,B,false)) (p:Int) (g:Entry):¬ EntOf ln p g:=by
  intro h
  rw [ent_cut h] at hc
  simp at hc
theorem par_add {ln A B:List UInt8} (hc:Lib.cut ln [32,35]=(A,B,true)) (ha:Lib.hasPrefix A addL=true) {p:Int} {g:Entry} (h:EntOf ln p g):∃ f,g=⟨false,0,f⟩∧psFac ⟨(Lib.trimPrefix A addL).toArray⟩=some f:=by
  rw [ent_cut h] at hc
  have e1:A=entL g:=(Prod.mk.inj hc).1.symm
  rcases ent_kinds h.1 with ⟨f,hg,hv,he⟩ | ⟨n,hg,hn,he⟩
  · refine ⟨f,hg,psFac_some ⟨hv,?_⟩⟩
    rw [e1,he,(pre_app addL (facL f)).2]
  · rw [e1,he,pre_rem] at ha;cases ha
theorem par_rem {ln A B:List UInt8} (hc:Lib.cut ln [32,35]=(A,B,true)) (ha:Lib.hasPrefix A addL=false) {p:Int} {g:Entry} (h:EntOf ln p g):∃ n,g=⟨true,n,zFac⟩∧Lib.hasPrefix A remL=true∧psI ⟨(Lib.trimPrefix A remL).toArray⟩=some n:=by
  rw [ent_cut h] at hc
  have e1:A=entL g:=(Prod.mk.inj hc).1.symm
  rcases ent_kinds h.1 with ⟨f,hg,hv,he⟩ | ⟨n,hg,hn,he⟩
  · rw [e1,he,(pre_app addL (facL f)).1] at ha;cases ha
  · obtain ⟨q1,q2⟩:=pre_app remL (Lib.itoa n)
    refine ⟨n,hg,by rw [e1,he];exact q1,psI_some (by omega) (by omega) ?_⟩
    rw [e1,he,q2];rfl
theorem cut_len (ln sep:List UInt8):(Lib.cut ln sep).1.length≤ln.length:=by
  unfold Lib.cut
  split
  · simp only [List.length_take];omega
  · exact Nat.le_refl _
theorem trim_len (l p:List UInt8):(Lib.trimPrefix l p).length≤l.length:=by
  unfold Lib.trimPrefix
  split
  · rw [List.length_drop];omega
  · exact Nat.le_refl _
theorem b10 {a w:World} (h:Below a.heap.size a w) {b:Nat} (hb:a.heap.size≤b) (u0 u1 u2 u3 u4 u5 u6 u7 u8 u9:Value):Below a.heap.size a ((((((((((w.setCell ⟨b,0,none⟩ u0).setCell ⟨b,1,none⟩ u1).setCell ⟨b,2,none⟩ u2).setCell ⟨b,3,none⟩ u3).setCell ⟨b,4,none⟩ u4).setCell ⟨b,5,none⟩ u5).setCell ⟨b,6,none⟩ u6).setCell ⟨b,7,none⟩ u7).setCell ⟨b,8,none⟩ u8).setCell ⟨b,9,none⟩ u9):=bSet (bSet (bSet (bSet (bSet (bSet (bSet (bSet (bSet (bSet h hb u0) hb u1) hb u2) hb u3) hb u4) hb u5) hb u6) hb u7) hb u8) hb u9
theorem zFac_ok (r:Bool) {n:Int} (h0:-9223372036854775808≤n) (h1:n≤9223372036854775807):entOk ⟨r,n,zFac⟩:=⟨by show (0:Nat)≤4194304;omega,by show (0:Nat)≤4194304;omega,h0,h1⟩
theorem impl_parseEntry_c (s:ByteArray) (w:World) (hs:s.size≤4194304) (hT:TabJ w):Calls Tryz.prog 133 #[.string s] w fun e w'=>EntRes s.data.toList w e w':=by
  obtain ⟨hTE,mm,hmm⟩:=hT
  have HT:=Lib.hid hTE
  have hM:=bCell (bAlloc (Below.refl _ _) (.cells #[.bool false,.int .i64 0,.int .i64 0,.int .i64 0,.string ⟨#[]⟩,.string ⟨#[]⟩,.int .i64 0,.int .i64 0,.int .i64 0,.int .i64 0] 42)) hmm
  have HM:=Lib.hid hM
  obtain ⟨A,B,fd,hcut⟩:∃ A B fd,Lib.cut s.data.toList [32,35]=(A,B,fd):=⟨_,_,_,rfl⟩
  have hsl:s.data.toList.length=s.size:=by simp
  have hAl:A.length≤s.size:=by have:=cut_len s.data.toList [32,35];rw [hcut] at this;simp only at this;omega
  have hAs:(⟨A.toArray⟩:ByteArray).size=A.length:=by rw [bsz]
  have HC:=Lib.hid hcut
  clear hTE hmm hM hcut
  go_enter Tryz.func133,Tryz.ntmps133
  go_wp2_with fail
  refine Calls.mono (YtdfemnffpaopfaaGreatDoor.strings_Cut s _ mm _ (by omega) HM.out) ?_
  rw [show Lib.cut s.data.toList (ByteArray.mk #[32,35]).data.toList=(A,B,fd) from HC.out]
  rintro e w1_ ⟨rfl,nd,hw1⟩
  have bx1:Bk w1_ w.heap.size 42 [.bool false,.int .i64 0,.int .i64 0,.int .i64 0,.string ⟨#[]⟩,.string ⟨#[]⟩,.int .i64 0,.int .i64 0,.int .i64 0,.int .i64 0]:=by rw [hw1];exact (Bk.new w [.bool false,.int .i64 0,.int .i64 0,.int .i64 0,.string ⟨#[]⟩,.string ⟨#[]⟩,.int .i64 0,.int .i64 0,.int .i64 0,.int .i64 0] 42 _ rfl).below (bDrewN (Below.refl _ _) nd)
  have B1:Below w.heap.size w w1_:=by rw [hw1];exact bDrewN (bAlloc (Below.refl _ _) (.cells #[.bool false,.int .i64 0,.int .i64 0,.int .i64 0,.string ⟨#[]⟩,.string ⟨#[]⟩,.int .i64 0,.int .i64 0,.int .i64 0,.int .i64 0] 42)) nd
  have HT1:=Lib.hid (HT.out.below B1)
  clear hw1 HM HT
  cases fd with
  | false =>
    have HN:=Lib.hid (par_no HC.out)
    have r0:=bx1.bx.cells 0 _ rfl;have r1:=bx1.bx.cells 1 _ rfl;have r2:=bx1.bx.cells 2 _ rfl;have r3:=bx1.bx.cells 3 _ rfl;have r4:=bx1.bx.cells 4 _ rfl;have r5:=bx1.bx.cells 5 _ rfl;have r6:=bx1.bx.cells 6 _ rfl;have r7:=bx1.bx.cells 7 _ rfl;have r8:=bx1.bx.cells 8 _ rfl;have r9:=bx1.bx.cells 9 _ rfl;have rf:=bx1.bx.froz;have rz:=bx1.lt
    go_wp2_with fail
    refine bodyPost_ret (v:=.tuple #[vEntryE (⟨false,0,zFac⟩),.bool false]) (by simp [*,vEntryE,zFac,results,Tryz.results133,go_sem]) rfl ⟨⟨false,0,zFac⟩,false,rfl,?_,?_,?_⟩
    · exact zFac_ok _ (by omega) (by omega)
    · intro p g h;exact absurd h (HN.out p g)
    · exact b10 B1 (Nat.le_refl _) _ _ _ _ _ _ _ _ _ _
  | true =>
    cases hpa:Lib.hasPrefix A addL with
    | true =>
      have HPA:=Lib.hid (fun p g h=>par_add HC.out hpa (p:=p) (g:=g) h)
      have HP:=Lib.hid hpa
      obtain ⟨rest,hrest⟩:∃ x,x=(⟨(Lib.trimPrefix A addL).toArray⟩:ByteArray):=⟨_,rfl⟩
      have hrs:rest.size≤s.size:=by rw [hrest,bsz];have:=trim_len A addL;omega
      rw [← hrest] at HPA
      have HR:=Lib.hid hrest
      clear hpa hrest
      go_wp2_with fail
      refine Calls.mono (YtdfemnffpaopfaaGreatDoor.strings_CutPrefix ⟨A.toArray⟩ _ _) ?_
      rw [show (ByteArray.mk #[97,100,100,32]).data.toList=addL from rfl,show (ByteArray.mk A.toArray).data.toList=A from List.toList_toArray ..,← HR.out,HP.out]
      rintro e w2_ ⟨rfl,hw2⟩
      subst hw2
      go_wp2_with fail
      refine Calls.mono (impl_ParseFactor_c rest _ (by omega) HT1.out) ?_
      rintro e w3_ ⟨rfl,hb3⟩
      have bx3:=bx1.below hb3
      have B3:=bTrans B1 hb3
      clear hb3 bx1 B1
      cases hpf:psFac rest with
      | none =>
        rw [show vFacO none=.tuple #[vFactor 0 0 ⟨#[]⟩ ⟨#[]⟩ 0 0 0 0,.bool false] from rfl]
        have HN:=Lib.hid (show ∀ p g,¬ EntOf s.data.toList p g from fun p g h=>by obtain ⟨f,_,hf⟩:=HPA.out p g h;rw [hpf] at hf;cases hf)
        have bx4:=bx3.alloc_ (.cells #[.int .i64 0,.int .i64 0,.string ⟨#[]⟩,.string ⟨#[]⟩,.int .i64 0,.int .i64 0,.int .i64 0,.int .i64 0] 34)
        have r0:=bx4.bx.cells 0 _ rfl;have r1:=bx4.bx.cells 1 _ rfl;have r2:=bx4.bx.cells 2 _ rfl;have r3:=bx4.bx.cells 3 _ rfl;have r4:=bx4.bx.cells 4 _ rfl;have r5:=bx4.bx.cells 5 _ rfl;have r6:=bx4.bx.cells 6 _ rfl;have r7:=bx4.bx.cells 7 _ rfl;have r8:=bx4.bx.cells 8 _ rfl;have r9:=bx4.bx.cells 9 _ rfl;have rf:=bx4.bx.froz;have rz:=bx4.lt
        clear hpf
        go_wp2_with fail
        refine bodyPost_ret (v:=.tuple #[vEntryE (⟨false,0,zFac⟩),.bool false]) (by simp [*,vEntryE,zFac,results,Tryz.results133,go_sem]) rfl ⟨⟨false,0,zFac⟩,false,rfl,?_,?_,?_⟩
        · exact zFac_ok _ (by omega) (by omega)
        · intro p g h;exact absurd h (HN.out p g)
        · exact b10 (bAlloc B3 _) (Nat.le_refl _) _ _ _ _ _ _ _ _ _ _
      | some f =>
        rw [show vFacO (some f)=.tuple #[vFactor f.id f.kind f.frm f.to f.pose.turn f.pose.x f.pose.y f.weight,.bool true] from rfl]
        have HN:=Lib.hid (show ∀ p g,EntOf s.data.toList p g→g=⟨false,0,f⟩∧true=true from fun p g h=>by obtain ⟨f',hg,hf⟩:=HPA.out p g h;rw [hpf] at hf;injection hf with hf;rw [hg,hf];exact ⟨rfl,rfl⟩)
        have HSZ:=Lib.hid (vld_sz (psFac_text hpf).1)
        have bx4:=bx3.alloc_ (.cells #[.int .i64 f.id,.int .i64 f.kind,.string f.frm,.string f.to,.int .i64 f.pose.turn,.int .i64 f.pose.x,.int .i64 f.pose.y,.int .i64 f.weight] 34)
        have r0:=bx4.bx.cells 0 _ rfl;have r1:=bx4.bx.cells 1 _ rfl;have r2:=bx4.bx.cells 2 _ rfl;have r3:=bx4.bx.cells 3 _ rfl;have r4:=bx4.bx.cells 4 _ rfl;have r5:=bx4.bx.cells 5 _ rfl;have r6:=bx4.bx.cells 6 _ rfl;have r7:=bx4.bx.cells 7 _ rfl;have r8:=bx4.bx.cells 8 _ rfl;have r9:=bx4.bx.cells 9 _ rfl;have rf:=bx4.bx.froz;have rz:=bx4.lt
        clear hpf
        go_wp2_with fail
        refine bodyPost_ret (v:=.tuple #[vEntryE (⟨false,0,f⟩),.bool true]) (by simp [*,vEntryE,zFac,results,Tryz.results133,go_sem]) rfl ⟨⟨false,0,f⟩,true,rfl,?_,?_,?_⟩
        · exact ⟨HSZ.out.1,HSZ.out.2,by show (-9223372036854775808:Int)≤0;omega,by show (0:Int)≤_;omega⟩
        · intro p g h;exact ⟨(HN.out p g h).1,rfl⟩
        · exact b10 (bAlloc B3 _) (Nat.le_refl _) _ _ _ _ _ _ _ _ _ _
    | false =>
      have HPA:=Lib.hid (fun p g h=>par_rem HC.out hpa (p:=p) (g:=g) h)
      have HP:=Lib.hid hpa
      obtain ⟨rest,hrest⟩:∃ x,x=(⟨(Lib.trimPrefix A remL).toArray⟩:ByteArray):=⟨_,rfl⟩
      obtain ⟨hp2,hhp2⟩:∃ x,x=Lib.hasPrefix A remL:=⟨_,rfl⟩
      obtain ⟨rst0,hrst0⟩:∃ x,x=(⟨(Lib.trimPrefix A addL).toArray⟩:ByteArray):=⟨_,rfl⟩
      have hrs:rest.size≤s.size:=by rw [hrest,bsz];have:=trim_len A remL;omega
      rw [← hrest,← hhp2] at HPA
      have HR:=Lib.hid hrest
      have HR0:=Lib.hid hrst0
      have HH:=Lib.hid hhp2
      clear hpa hrest hrst0 hhp2
      go_wp2_with fail
      refine Calls.mono (YtdfemnffpaopfaaGreatDoor.strings_CutPrefix ⟨A.toArray⟩ _ _) ?_
      rw [show (ByteArray.mk #[97,100,100,32]).data.toList=addL from rfl,show (ByteArray.mk A.toArray).data.toList=A from List.toList_toArray ..,← HR0.out,HP.out]
      rintro e w2_ ⟨rfl,hw2⟩
      subst hw2
      go_wp2_with fail
      refine Calls.mono (YtdfemnffpaopfaaGreatDoor.strings_CutPrefix ⟨A.toArray⟩ _ _) ?_
      rw [show (ByteArray.mk #[114,101,109,111,118,101,32]).data.toList=remL from rfl,show (ByteArray.mk A.toArray).data.toList=A from List.toList_toArray ..,← HR.out,← HH.out]
      rintro e w2_ ⟨rfl,hw2⟩
      subst hw2
      go_wp2_with fail
      refine Calls.mono (impl_ParseInt_c rest _ (by omega) HT1.out) ?_
      rintro e w3_ ⟨rfl,hb3⟩
      have bx3:=bx1.below hb3
      have B3:=bTrans B1 hb3
      clear hb3 bx1 B1
      have hrg:=psI_rng rest
      have HV:=Lib.hid (vPair_eq (psI rest))
      have HN:=Lib.hid (show ∀ p g,EntOf s.data.toList p g→g=⟨true,(psI rest).getD 0,zFac⟩∧hp2=true∧(psI rest).isSome=true from fun p g h=>by obtain ⟨n,hg,h1,h2⟩:=HPA.out p g h;rw [h2,hg];exact ⟨rfl,h1,rfl⟩)
      rw [HV.out]
      clear HV HPA
      generalize (psI rest).getD 0=n at *
      generalize (psI rest).isSome=o at *
      have r0:=bx3.bx.cells 0 _ rfl;have r1:=bx3.bx.cells 1 _ rfl;have r2:=bx3.bx.cells 2 _ rfl;have r3:=bx3.bx.cells 3 _ rfl;have r4:=bx3.bx.cells 4 _ rfl;have r5:=bx3.bx.cells 5 _ rfl;have r6:=bx3.bx.cells 6 _ rfl;have r7:=bx3.bx.cells 7 _ rfl;have r8:=bx3.bx.cells 8 _ rfl;have r9:=bx3.bx.cells 9 _ rfl;have rf:=bx3.bx.froz;have rz:=bx3.lt
      cases hp2 <;> cases o
      · go_wp2_with fail
        refine bodyPost_ret (v:=.tuple #[vEntryE (⟨true,n,zFac⟩),.bool false]) (by simp [*,vEntryE,zFac,results,Tryz.results133,go_sem]) rfl ⟨⟨true,n,zFac⟩,false,rfl,?_,?_,?_⟩
        · exact zFac_ok _ (by omega) (by omega)
        · intro p g h;obtain ⟨_,h1,_⟩:=HN.out p g h;cases h1
        · exact b10 B3 (Nat.le_refl _) _ _ _ _ _ _ _ _ _ _
      · go_wp2_with fail
        refine bodyPost_ret (v:=.tuple #[vEntryE (⟨true,n,zFac⟩),.bool false]) (by simp [*,vEntryE,zFac,results,Tryz.results133,go_sem]) rfl ⟨⟨true,n,zFac⟩,false,rfl,?_,?_,?_⟩
        · exact zFac_ok _ (by omega) (by omega)
        · intro p g h;obtain ⟨_,h1,_⟩:=HN.out p g h;cases h1
        · exact b10 B3 (Nat.le_refl _) _ _ _ _ _ _ _ _ _ _
      · go_wp2_with fail
        refine bodyPost_ret (v:=.tuple #[vEntryE (⟨true,n,zFac⟩),.bool false]) (by simp [*,vEntryE,zFac,results,Tryz.results133,go_sem]) rfl ⟨⟨true,n,zFac⟩,false,rfl,?_,?_,?_⟩
        · exact zFac_ok _ (by omega) (by omega)
        · intro p g h;obtain ⟨_,_,h1⟩:=HN.out p g h;cases h1
        · exact b10 B3 (Nat.le_refl _) _ _ _ _ _ _ _ _ _ _
      · go_wp2_with fail
        refine bodyPost_ret (v:=.tuple #[vEntryE (⟨true,n,zFac⟩),.bool true]) (by simp [*,vEntryE,zFac,results,Tryz.results133,go_sem]) rfl ⟨⟨true,n,zFac⟩,true,rfl,?_,?_,?_⟩
        · exact zFac_ok _ (by omega) (by omega)
        · intro p g h;exact ⟨(HN.out p g h).1,rfl⟩
        · exact b10 B3 (Nat.le_refl _) _ _ _ _ _ _ _ _ _ _
end Go.Proofs.YtdfemnffpaopfaaGreatDoor
