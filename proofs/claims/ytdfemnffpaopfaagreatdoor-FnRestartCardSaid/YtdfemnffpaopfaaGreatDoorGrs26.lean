/- Texts of this proof, one behind the other: PsFac, EntP, DigP, PrsB. -/
import Derived.Test.YtdfemnffpaopfaaGreatDoorGrs8
import Derived.Test.YtdfemnffpaopfaaGreatDoorGrs20
import Derived.Test.YtdfemnffpaopfaaGreatDoorGrs23
import Derived.Test.YtdfemnffpaopfaaGreatDoorGrs25
namespace Go.Proofs.YtdfemnffpaopfaaGreatDoor
open Go.RowKit
set_option linter.unusedVariables false
set_option linter.unusedSimpArgs false
set_option maxHeartbeats 4000000
set_option maxRecDepth 100000
def vFacO (o:Option Factor):Value:=match o with | some f=>.tuple #[vFactor f.id f.kind f.frm f.to f.pose.turn f.pose.x f.pose.y f.weight,.bool true] | none=>.tuple #[vFactor 0 0 ⟨#[]⟩ ⟨#[]⟩ 0 0 0 0,.bool false]
theorem fac_none_len {s:ByteArray} {L:List ByteArray} (hL:L.map (fun x=>x.data.toList)=splitL (isB 32) [] s.data.toList) (h:L.length≠5) (h6:L.length≠6):psFac s=none:=by
  refine psFac_none fun f hf=>?_
  rcases (fac_words hf hL).1 with ⟨h1,_⟩ | ⟨h1,_⟩ <;> omega
theorem fac_none_x {s:ByteArray} {L:List ByteArray} {w1 w4 w5:ByteArray} (hL:L.map (fun x=>x.data.toList)=splitL (isB 32) [] s.data.toList) (h1:L[1]? = some w1) (h4:L[L.length - 2]? = some w4) (h5:L[L.length - 1]? = some w5) (h:¬ ((psI w1).isSome=true∧(psPose w4).isSome=true∧(psI w5).isSome=true)):psFac s=none:=by
  refine psFac_none fun f hf=>h ?_
  obtain ⟨_,_,⟨v1,e1,g1⟩,_,⟨v4,e4,g4⟩,v5,e5,g5⟩:=fac_words hf hL
  rw [h1] at e1;rw [h4] at e4;rw [h5] at e5
  simp only [Option.some.injEq] at e1 e4 e5
  subst e1 e4 e5
  rw [g1,g4,g5];exact ⟨rfl,rfl,rfl⟩
theorem fac_none_all {s:ByteArray} {L:List ByteArray} {w1 w3 w4 w5 fr:ByteArray} (hL:L.map (fun x=>x.data.toList)=splitL (isB 32) [] s.data.toList) (h1:L[1]? = some w1) (h3:L[L.length - 3]? = some w3) (h4:L[L.length - 2]? = some w4) (h5:L[L.length - 1]? = some w5)
    (hfr:(L.length=6→L[2]? = some fr)∧(L.length≠6→fr=⟨#[]⟩)) (h:∀ j:Nat,1≤j→j < 5→¬ FacOf s ⟨(psI w1).getD 0,j,fr,w3,(psPose w4).getD ⟨0,0,0⟩,(psI w5).getD 0⟩):psFac s=none:=by
  refine psFac_none fun f hf=>?_
  obtain ⟨g0,_,⟨v1,e1,g1⟩,e3,⟨v4,e4,g4⟩,v5,e5,g5⟩:=fac_words hf hL
  rw [h1] at e1;rw [h3] at e3;rw [h4] at e4;rw [h5] at e5
  simp only [Option.some.injEq] at e1 e3 e4 e5
  subst e1 e4 e5
  rw [g1,g4,g5] at h
  have hk:=(vld_parts hf.1).2.2.2.1
  have hfr':fr=f.frm:=by
    rcases g0 with ⟨n1,_,r1⟩ | ⟨n1,_,r1⟩
    · rw [r1];exact hfr.2 (by omega)
    · have:=hfr.1 n1;rw [r1] at this;simpa using this.symm
  obtain ⟨fi,fk,ff,ft,fp,fw⟩:=f
  simp only at hk hfr' e3
  subst hfr' e3
  simp only [Option.getD_some] at h
  obtain ⟨u,rfl⟩:=Int.eq_ofNat_of_zero_le (show 0≤fk by omega)
  exact h u (by omega) (by omega) hf
theorem fac_iff {s:ByteArray} {f:Factor} (hv:vldFactor f=true):((fmtFac f).toList == s.toList)=true ↔ FacOf s f:=by
  rw [facOf_iff]
  constructor
  · intro h;exact ⟨hv,toL_inj (eq_of_beq h)⟩
  · intro h;rw [h.2];simp
theorem vPoseO_eq (o:Option Pose):vPoseO o=.tuple #[vPose (o.getD ⟨0,0,0⟩).turn (o.getD ⟨0,0,0⟩).x (o.getD ⟨0,0,0⟩).y,.bool o.isSome]:=by cases o <;> rfl
theorem b8 {a w:World} (h:Below a.heap.size a w) {b:Nat} (hb:a.heap.size≤b) (u0 u1 u2 u3 u4 u5 u6 u7:Value):Below a.heap.size a ((((((((w.setCell ⟨b,0,none⟩ u0).setCell ⟨b,1,none⟩ u1).setCell ⟨b,2,none⟩ u2).setCell ⟨b,3,none⟩ u3).setCell ⟨b,4,none⟩ u4).setCell ⟨b,5,none⟩ u5).setCell ⟨b,6,none⟩ u6).setCell ⟨b,7,none⟩ u7):=bSet (bSet (bSet (bSet (bSet (bSet (bSet (bSet h hb u0) hb u1) hb u2) hb u3) hb u4) hb u5) hb u6) hb u7
theorem Bk.alloc_ {w:World} {b:Nat} {t:TypeId} {cs:List Value} (h:Bk w b t cs) (o:Obj):Bk (w.alloc o) b t cs:=h.below (bAlloc (Below.refl _ _) o)
theorem RowS.get {w:World} {g off n:Nat} {L:List ByteArray} (h:RowS w (some ⟨g,off,none⟩) n L) {k:Nat} {f:ByteArray} (hk:L[k]? = some f):w.cell? ⟨g,off+k,none⟩=some (.string f):=by
  have hl:L.length=n:=h.len.out
  have hkn:=(List.getElem?_eq_some_iff.1 hk).1
  obtain ⟨f',g',off',hf,hA,hc⟩:=RowS.at_ h (k:=k) (by omega)
  simp only [Option.some.injEq,Addr.mk.injEq,and_true] at hA
  obtain ⟨rfl,rfl⟩:=hA
  rw [hk] at hf
  have:=hf.out
  simp only [Option.some.injEq] at this
  rw [this];exact hc
theorem RowS.some_ {w:World} {A:Option Addr} {n:Nat} {L:List ByteArray} (h:RowS w A n L) (hn:0 < n):∃ g off,A=some ⟨g,off,none⟩:=by
  obtain ⟨f',g',off',hf,hA,hc⟩:=RowS.at_ h (k:=0) hn
  exact ⟨g',off',hA⟩
theorem ex_at {α:Type} {L:List α} {k:Nat} (h:k < L.length):∃ x,L[k]? = some x:=⟨L[k],by simp [h]⟩
theorem facL_len {f:Factor} (h:vldFactor f=true):(facL f).length≤116:=by
  obtain ⟨p1,p2,p3,p4,p5,p6,p7⟩:=vld_parts h
  have h1:=kindL_len f.kind
  have h2:=itoa_len p1 (by omega) (by omega)
  have h3:=itoa_len p2 (by omega) (by omega)
  have h4:=pose_len p3
  have h5:f.to.data.toList.length≤8:=by rw [Array.length_toList];rcases p7 with h | h <;> exact nm_size8 h
  have h6:(frmL f.kind f.frm).length≤9:=by
    unfold frmL
    split
    · decide
    · rename_i hk
      have:=nm_size8 (p6 hk)
      have e:f.frm.data.toList.length≤8:=by rw [Array.length_toList];exact this
      simp only [List.length_append,List.length_cons,List.length_nil];omega
  simp only [facL,List.length_append,List.length_cons]
  omega
theorem fmtFac_size (f:Factor):(fmtFac f).size≤116:=by
  unfold fmtFac
  split
  · rename_i h;rw [bsz];exact facL_len h
  · decide
theorem fmtFac_data {f:Factor} (h:vldFactor f=true):(fmtFac f).data.toList=facL f:=by simp [fmtFac,h]
theorem entL_len {e:Entry} (h:vldEntry e=true):(entL e).length≤120:=by
  unfold vldEntry at h
  unfold entL
  split at h
  · rename_i hr
    simp only [Bool.and_eq_true] at h
    have:=itoa_len h.1 (by omega) (by omega)
    rw [if_pos hr]
    simp only [List.length_append,List.length_cons,List.length_nil];omega
  · rename_i hr
    simp only [Bool.and_eq_true] at h
    have:=facL_len h.2
    rw [if_neg hr]
    simp only [List.length_append,List.length_cons,List.length_nil];omega
theorem entSum_bound (e:Entry) (p:Int):0≤entSum e p∧entSum e p≤65520:=chk_bound _
theorem entT_size {e:Entry} (h:vldEntry e=true) (p:Int):(entT e p).size≤144:=by
  have h1:=entL_len h
  have h2:=entSum_bound e p
  have h3:=Lib.itoa_length_le (entSum e p) (by omega) (by omega)
  unfold entT
  rw [bsz]
  simp only [List.length_append,List.length_cons,List.length_nil];omega
theorem ent_fin {e:Entry} {p n:Int} {s a0 a1 b0 b1 b2:ByteArray} (hs:s.data.toList=entL e) (h0:itoaB p++⟨#[32]⟩=a0) (h1:a0++s=a1) (hn:chk a1=n) (h2:s++⟨#[32,35]⟩=b0) (h3:b0++itoaB n=b1) (h4:b1++⟨#[10]⟩=b2) :
    b2=entT e p∧n=entSum e p:=by
  have hN:n=entSum e p:=by
    rw [← hn,entSum]
    congr 1
    rw [← h1,← h0]
    apply bext
    simp [itoaB,ByteArray.data_append,hs]
  refine ⟨?_,hN⟩
  rw [← h4,← h3,← h2,hN]
  apply bext
  simp [itoaB,ByteArray.data_append,hs,entT]
def fmtBun (b:Bundle):ByteArray:=if isBundle b.robot b.factors then bunT b.robot b.factors else ⟨#[]⟩
def BtInv (r:Int) (l:List Factor) (k:Nat) (s:ByteArray):Prop:=s.data.toList++facsL (l.drop k)=(bunT r l).data.toList
theorem BtInv.next {r:Int} {l:List Factor} {k:Nat} {f:Factor} {s u:ByteArray} (h:BtInv r l k s) (hf:Hid (l[k]? = some f)) (hv:vldFactor f=true) (hu:u.data.toList=s.data.toList++59 :: (fmtFac f).data.toList):BtInv r l (k+1) u:=by
  unfold BtInv at *
  rw [← h,drop_at hf,hu,fmtFac_data hv]
  simp [facsL]
theorem BtInv.done {r:Int} {l:List Factor} {k n:Nat} {s:ByteArray} (h:BtInv r l k s) (hl:Hid (l.length=n)) (hk:¬ k < n):s=bunT r l:=by
  unfold BtInv at h
  rw [drop_end hl hk] at h
  apply bext
  simpa [facsL] using h
theorem bunL_vld {r:Int}:∀ {l:List Factor} {p:Option Int},bunL r l p=true→∀ f∈l,vldFactor f=true
  | [],_,_,f,hf=>by cases hf
  | g :: l,p,h,f,hf=>by
    simp only [bunL,Bool.and_eq_true] at h
    rcases List.mem_cons.1 hf with rfl | hf
    · exact h.1
    · exact bunL_vld h.2.2.2 f hf
theorem isBundle_parts {r:Int} {l:List Factor} (h:isBundle r l=true):0≤r∧r≤2∧l.length≤4∧∀ f∈l,vldFactor f=true:=by
  simp only [isBundle,Bool.and_eq_true] at h
  obtain ⟨h1,h2,h3⟩:=h
  have:=inR_iff.1 h1;have:=inR_iff.1 h2
  exact ⟨by omega,by omega,by omega,bunL_vld h3⟩
def joinL (c:UInt8):List (List UInt8)→List UInt8
  | []=>[]
  | [a]=>a
  | a :: b :: l=>a++c :: joinL c (b :: l)
theorem joinL_cons (c:UInt8) (a:List UInt8) {l:List (List UInt8)} (h:l≠[]):joinL c (a :: l)=a++c :: joinL c l:=by
  cases l with
  | nil=>exact absurd rfl h
  | cons b l=>rfl
theorem joinL_split (c:UInt8):∀ (l cur:List UInt8),joinL c (splitL (isB c) cur l)=cur++l
  | [],cur=>by simp [splitL,joinL]
  | b :: l,cur=>by
    rw [splitL]
    split
    · rename_i hb
      have hb:b=c:=by simpa [isB] using hb
      rw [joinL_cons _ _ (splitL_ne _ _ _),joinL_split c l [],hb]
      rfl
    · rw [joinL_split c l (cur++[b])]
      simp
theorem joinL_flat (c:UInt8):∀ (T:List (List UInt8)) (a:List UInt8),joinL c (a :: T)=a++T.flatMap (fun x=>c :: x)
  | [],a=>by simp [joinL]
  | b :: T,a=>by
    rw [joinL_cons _ _ (by simp),joinL_flat c T b]
    simp
theorem fac_no {f:Factor} (h:vldFactor f=true) {c:UInt8} (hc:c=59∨c=10∨c=35):∀ b∈facL f,isB c b=false:=by
  obtain ⟨h1,h2,h3,h4,h5,h6,h7⟩:=vld_parts h
  have hc':c=44∨c=32∨c=59∨c=10∨c=35:=.inr (.inr hc)
  have h32:isB c 32=false:=by rcases hc with rfl | rfl | rfl <;> decide
  intro b hb
  unfold facL at hb
  simp only [List.mem_append,List.mem_cons] at hb
  rcases hb with hb | rfl | hb | rfl | hb | hb | rfl | hb | rfl | hb
  · exact wd_no hc' (kind_wd _ _ hb)
  · exact h32
  · exact wd_no hc' (itoa_wd _ _ hb)
  · exact h32
  · unfold frmL at hb
    split at hb
    · simp at hb
    · rename_i hk
      simp only [List.mem_append,List.mem_cons,List.not_mem_nil,or_false] at hb
      rcases hb with hb | rfl
      · exact wd_no hc' (nm_wd (h6 hk) _ hb)
      · exact h32
  · exact wd_no hc' (to_wd h _ hb)
  · exact h32
  · exact pose_no32 h3 (.inr hc) _ hb
  · exact h32
  · exact wd_no hc' (itoa_wd _ _ hb)
theorem facs_split:∀ (l:List Factor) (w:List UInt8),(∀ b∈w,isB 59 b=false)→(∀ f∈l,vldFactor f=true)→splitL (isB 59) [] (w++facsL l)=w :: l.map facL
  | [],w,hw,_=>by
    show splitL (isB 59) [] (w++[]) = _
    rw [List.append_nil,splitL_last _ _ hw];rfl
  | f :: l,w,hw,hl=>by
    show splitL (isB 59) [] (w++59 :: (facL f++facsL l)) = _
    rw [splitL_word (isB_self 59) _ _ _ hw,facs_split l (facL f) (fac_no (hl f (by simp)) (by simp)) (fun g hg=>hl g (by simp [hg]))]
    rfl
theorem facs_flat:∀ l:List Factor,facsL l=(l.map facL).flatMap (fun x=>59 :: x)
  | []=>rfl
  | f :: l=>by
    show 59 :: (facL f++facsL l) = _
    rw [facs_flat l];simp
def bunL0:List UInt8:=[98,117,110,100,108,101,32]
def BunOf (s:ByteArray) (b:Bundle):Prop:=isBundle b.robot b.factors=true∧bunT b.robot b.factors=s
theorem bun_data (r:Int) (l:List Factor):(bunT r l).data.toList=(bunL0++Lib.itoa r)++facsL l:=by
  unfold bunT bunL0;simp
theorem head_no (r:Int):∀ b∈bunL0++Lib.itoa r,isB 59 b=false:=by
  intro b hb
  rcases List.mem_append.1 hb with hb | hb
  · have:∀ b∈bunL0,isB 59 b=false:=by decide
    exact this b hb
  · exact wd_no (by simp) (itoa_wd _ _ hb)
theorem map_some {α:Type} {T:List ByteArray} {l:List α} {p:ByteArray→Option α} {t:α→List UInt8} (hT:T.map (fun x=>x.data.toList)=l.map t) (hp:∀ a∈l,∀ x:ByteArray,x.data.toList=t a→p x=some a):T.map p=l.map some:=by
  induction T generalizing l with
  | nil=>cases l with
    | nil=>rfl
    | cons a l=>cases hT
  | cons x T ih=>cases l with
    | nil=>cases hT
    | cons a l =>
      simp only [List.map_cons,List.cons.injEq] at hT ⊢
      exact ⟨hp a (by simp) x hT.1,ih hT.2 fun b hb=>hp b (by simp [hb])⟩
theorem bun_words {s:ByteArray} {b:Bundle} {L:List ByteArray} (h:BunOf s b) (hL:L.map (fun x=>x.data.toList)=splitL (isB 59) [] s.data.toList) :
    ∃ w0 T,L=w0 :: T∧w0.data.toList=bunL0++Lib.itoa b.robot∧T.map psFac=b.factors.map some:=by
  obtain ⟨_,_,_,hv⟩:=isBundle_parts h.1
  rw [← h.2,bun_data,facs_split _ _ (head_no _) hv] at hL
  cases L with
  | nil=>cases hL
  | cons w0 T =>
    simp only [List.map_cons,List.cons.injEq] at hL
    exact ⟨w0,T,rfl,hL.1,map_some hL.2 fun f hf x hx=>psFac_some ⟨hv f hf,hx.symm⟩⟩
theorem map_text {α:Type} {T:List ByteArray} {l:List α} {p:ByteArray→Option α} {t:α→List UInt8} (hT:T.map p=l.map some) (hp:∀ a x,p x=some a→t a=x.data.toList):T.map (fun x=>x.data.toList)=l.map t:=by
  induction T generalizing l with
  | nil=>cases l with
    | nil=>rfl
    | cons a l=>cases hT
  | cons x T ih=>cases l with
    | nil=>cases hT
    | cons a l =>
      simp only [List.map_cons,List.cons.injEq] at hT ⊢
      exact ⟨(hp a x hT.1).symm,ih hT.2⟩
theorem bun_of {s w0:ByteArray} {T:List ByteArray} {r:Int} {l:List Factor} (hL:(w0 :: T).map (fun x=>x.data.toList)=splitL (isB 59) [] s.data.toList) (h0:w0.data.toList=bunL0++Lib.itoa r) (hT:T.map psFac=l.map some):bunT r l=s:=by
  apply bext
  have hj:=joinL_split 59 s.data.toList []
  have hT':=map_text (t:=facL) hT fun a x h=>(psFac_text h).2
  rw [← hL,List.map_cons,h0,hT',joinL_flat,List.nil_append,← facs_flat] at hj
  rw [bun_data,hj]
theorem map_some_inj {α:Type} {l m:List α} (h:l.map some=m.map some):l=m:=by
  have:=congrArg (List.filterMap id) h
  simpa using this
theorem bun_one {s:ByteArray} {b c:Bundle} (h:BunOf s b) (k:BunOf s c):b=c:=by
  obtain ⟨L,hL⟩:=words_of s 59
  obtain ⟨w0,T,rfl,h0,hT⟩:=bun_words h hL
  obtain ⟨v0,U,e,k0,kT⟩:=bun_words k hL
  simp only [List.cons.injEq] at e
  obtain ⟨rfl,rfl⟩:=e
  rw [hT] at kT
  have hl:=map_some_inj kT
  have hr:Lib.itoa b.robot=Lib.itoa c.robot:=List.append_cancel_left (h0.symm.trans k0)
  have r1:=isBundle_parts h.1
  have r2:=isBundle_parts k.1
  have hr:=itoa_inj (by omega) (by omega) (by omega) (by omega) hr
  obtain ⟨br,bl⟩:=b
  obtain ⟨cr,cl⟩:=c
  simp only at hl hr
  rw [hl,hr]
noncomputable def psBun (s:ByteArray):Option Bundle:=the (BunOf s)
theorem psBun_some {s:ByteArray} {p:Bundle} (h:BunOf s p):psBun s=some p:=the_some (fun q hq=>bun_one hq h) h
theorem psBun_none {s:ByteArray} (h:∀ p,¬ BunOf s p):psBun s=none:=the_none h
theorem psBun_text {s:ByteArray} {p:Bundle} (h:psBun s=some p):BunOf s p:=the_text h
end Go.Proofs.YtdfemnffpaopfaaGreatDoor
