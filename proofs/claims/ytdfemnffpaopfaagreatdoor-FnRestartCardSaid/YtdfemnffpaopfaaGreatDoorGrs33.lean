/- Texts of this proof, one behind the other: PsApp, PsBunK, Rpl, ChnP, ChnM, RplS. -/
import Derived.Test.YtdfemnffpaopfaaGreatDoorGrs4
import Derived.Test.YtdfemnffpaopfaaGreatDoorGrs10
import Derived.Test.YtdfemnffpaopfaaGreatDoorGrs12
import Derived.Test.YtdfemnffpaopfaaGreatDoorGrs17
import Derived.Test.YtdfemnffpaopfaaGreatDoorGrs28
import Derived.Test.YtdfemnffpaopfaaGreatDoorGrs32
import Derived.Test.YtdfemnffpaopfaaGreatDoorGrs39
import Derived.Test.YtdfemnffpaopfaaGreatDoorGrs41
namespace Go.Proofs.YtdfemnffpaopfaaGreatDoor
open Go.RowKit
set_option linter.unusedVariables false
set_option linter.unusedSimpArgs false
set_option maxHeartbeats 4000000
set_option maxRecDepth 100000
theorem rdj_len:∀ (k:Nat) (r:List UInt8) (p:Int),(rdj k r p).2.1≤r.length
  | 0,_,_=>Nat.zero_le _
  | k+1,r,p=>by
    rw [rdj]
    split
    · exact Nat.zero_le _
    · rename_i e he
      obtain ⟨_,_,t,ht⟩:=nxt_text he
      have:=rdj_len k (r.drop (entT e p).size) (entSum e p)
      have h1:=congrArg List.length ht
      have h2:=bsize (entT e p)
      simp only [List.length_append] at h1
      simp only [List.length_drop] at this ⊢
      omega
theorem rdj_in:∀ (k:Nat) (r:List UInt8) (p:Int),inR p 0 65520=true→inR (rdj k r p).2.2 0 65520=true
  | 0,_,_,h=>h
  | k+1,r,p,h=>by
    rw [rdj]
    split
    · exact h
    · rename_i e he
      exact rdj_in k _ _ (entSum_in e p)
theorem rdN_le (s:ByteArray):rdN s≤s.size:=by have:=rdj_len 60 s.data.toList 1;rw [bsize] at this;exact this
theorem rdQ_in (s:ByteArray):inR (rdQ s) 0 65520=true:=rdj_in 60 _ 1 (by decide)
theorem rdE_len (s:ByteArray):(rdE s).length≤60:=rdj_few 60 _ 1
noncomputable def apE (s:ByteArray) (e:Entry):ByteArray × Bool:=if vldEntry e=true∧(rdE s).length≠60 then (s.extract 0 (rdN s)++entT e (rdQ s),true) else (s,false)
theorem ent_ne {e:Entry} {p:Int}:(entT e p).toList.isEmpty=false:=by
  rw [ByteArray.toList_eq];unfold entT;simp
theorem fmtEnt_ok {e:Entry} {p:Int} (h:vldEntry e=true) (hp:inR p 0 65520=true):fmtEnt e p=(entT e p,entSum e p):=by unfold fmtEnt;rw [h,hp];rfl
theorem entT_sz {e:Entry} {p:Int} (h:vldEntry e=true) (hp:inR p 0 65520=true):(entT e p).size≤400:=by
  have hf:∀ f:Factor,vldFactor f=true→(facL f).length≤116:=fun f hv=>by
    have h1:=fmtFac_size f
    have h2:=bsize (fmtFac f)
    rw [fmtFac_data hv] at h2
    omega
  have h2:=bsize (entT e p)
  have h3:=entSum_bound e p
  have h4:=Lib.itoa_length_le (entSum e p) (by omega) (by omega)
  rw [← h2]
  unfold entT
  rcases ent_kinds h with ⟨f,_,hv,he⟩ | ⟨n,_,hn,he⟩
  · have:=hf f hv
    rw [he];simp [addL];omega
  · have:=Lib.itoa_length_le n (by omega) (by omega)
    rw [he];simp [remL];omega
theorem RjPost.out {w w':World} {s:ByteArray} {e:Ending} (h:RjPost w s e w'):∃ v:Sv,e=.returned (.tuple #[.slice v.A v.n v.c,.int .i64 (rdN s:Int),.int .i64 (rdQ s)])∧(rdE s).length=v.n∧Below w.heap.size w w':=by
  obtain ⟨v,h1,h2,_,h3⟩:=h
  refine ⟨v,h1,?_,h3⟩
  have:=h2.rd.1
  simpa [rdE] using this
theorem ap_no {s:ByteArray} {e:Entry} (h:¬ (vldEntry e=true∧(rdE s).length≠60)):apE s e=(s,false):=by unfold apE;rw [if_neg h]
theorem ap_yes {s:ByteArray} {e:Entry} (h:vldEntry e=true) (h2:(rdE s).length≠60):apE s e=(s.extract 0 (rdN s)++entT e (rdQ s),true):=by unfold apE;rw [if_pos ⟨h,h2⟩]
theorem ext_sz (s:ByteArray) (a b:Nat):(s.extract a b).size≤s.size:=by rw [ByteArray.size_extract];omega
theorem impl_AppendEntry_c (s:ByteArray) (rm:Bool) (eid id kind:Int) (fr to:ByteArray) (t x y wt:Int) (w:World) (hs:s.size≤4194304) (hwe:-9223372036854775808≤eid∧eid≤9223372036854775807) (hf:fr.size≤4194304) (ht:to.size≤4194304) (hT:TabJ w) :
    Calls Tryz.prog 37 #[.string s,vEntry rm eid id kind fr to t x y wt] w fun e w'=>e=.returned (.tuple #[.string (apE s ⟨rm,eid,⟨id,kind,fr,to,⟨t,x,y⟩,wt⟩⟩).1,.bool (apE s ⟨rm,eid,⟨id,kind,fr,to,⟨t,x,y⟩,wt⟩⟩).2])∧Below w.heap.size w w':=by
  have HT:=Lib.hid hT
  clear hT
  have bx0:=Bk.new w [.bool rm,.int .i64 eid,.int .i64 id,.int .i64 kind,.string fr,.string to,.int .i64 t,.int .i64 x,.int .i64 y,.int .i64 wt] 42 _ rfl
  have B0:Below w.heap.size w (w.alloc (.cells #[.bool rm,.int .i64 eid,.int .i64 id,.int .i64 kind,.string fr,.string to,.int .i64 t,.int .i64 x,.int .i64 y,.int .i64 wt] 42)):=bAlloc (Below.refl _ _) _
  go_enter Tryz.func37,Tryz.ntmps37
  go_wp2_with fail
  refine Calls.mono (impl_readJournal_c s _ hs (HT.out.below B0)) ?_
  rintro e w1 hpost
  obtain ⟨v,rfl,hl,hb1⟩:=hpost.out
  have bx1:=bx0.below hb1
  have B1:=bTrans B0 hb1
  have hqi:=rdQ_in s
  have hn:=rdN_le s
  have hle:=rdE_len s
  have HNO:=Lib.hid (fun h=>ap_no (s:=s) (e:=⟨rm,eid,⟨id,kind,fr,to,⟨t,x,y⟩,wt⟩⟩) h)
  have HYES:=Lib.hid (fun h h2=>ap_yes (s:=s) (e:=⟨rm,eid,⟨id,kind,fr,to,⟨t,x,y⟩,wt⟩⟩) h h2)
  obtain ⟨n,hne⟩:∃ n,n=rdN s:=⟨_,rfl⟩
  obtain ⟨q,hqe⟩:∃ q,q=rdQ s:=⟨_,rfl⟩
  rw [← hne] at HYES hn ⊢
  rw [← hqe] at HYES hqi ⊢
  have HT1:=Lib.hid (HT.out.below B1)
  have HQ:=Lib.hid hqi
  obtain ⟨A,m,c⟩:=v
  simp only at hl
  rw [hl] at HNO HYES hle
  have r0:=bx1.bx.cells 0 _ rfl;have r1:=bx1.bx.cells 1 _ rfl;have r2:=bx1.bx.cells 2 _ rfl;have r3:=bx1.bx.cells 3 _ rfl;have r4:=bx1.bx.cells 4 _ rfl;have r5:=bx1.bx.cells 5 _ rfl;have r6:=bx1.bx.cells 6 _ rfl;have r7:=bx1.bx.cells 7 _ rfl;have r8:=bx1.bx.cells 8 _ rfl;have r9:=bx1.bx.cells 9 _ rfl
  clear hpost bx0 B0 hb1 hne hqe hqi hl HT
  cases hv:vldEntry ⟨rm,eid,⟨id,kind,fr,to,⟨t,x,y⟩,wt⟩⟩ with
  | false =>
    have HE:=Lib.hid (HNO.out (fun h=>by rw [hv] at h;cases h.1))
    have HV:=Lib.hid hv
    clear hv HNO HYES
    go_wp2_with (go_at_call 44;refine (impl_IsValidEntry_c rm eid id kind fr to t x y wt _ hf ht).mono ?_;rw [HV.out];rintro e w2 ⟨rfl,hb2⟩;have bx2:=bx1.below hb2;have B2:=bTrans B1 hb2;have s0:=bx2.bx.cells 0 _ rfl;have s1:=bx2.bx.cells 1 _ rfl;have s2:=bx2.bx.cells 2 _ rfl;have s3:=bx2.bx.cells 3 _ rfl;have s4:=bx2.bx.cells 4 _ rfl;have s5:=bx2.bx.cells 5 _ rfl;have s6:=bx2.bx.cells 6 _ rfl;have s7:=bx2.bx.cells 7 _ rfl;have s8:=bx2.bx.cells 8 _ rfl;have s9:=bx2.bx.cells 9 _ rfl)
    refine bodyPost_ret (v:=.tuple #[.string s,.bool false]) (by simp [*,results,Tryz.results37,go_sem]) rfl ⟨by rw [HE.out],B2⟩
  | true =>
    have hfe:=fmtEnt_ok hv HQ.out
    have hsz:=entT_sz hv HQ.out
    have hne:=ent_ne (e:=⟨rm,eid,⟨id,kind,fr,to,⟨t,x,y⟩,wt⟩⟩) (p:=q)
    have HF:=Lib.hid hfe
    clear hfe
    by_cases h60:m=60
    · have HE:=Lib.hid (HNO.out (fun h=>h.2 h60))
      have h6:((m:Int) == 60)=true:=by rw [h60];rfl
      have h6i:(m:Int)=60:=by omega
      have HV:=Lib.hid hv
      clear hv HNO HYES h60 hsz
      clear hne
      go_wp2_with (go_at_call 44;refine (impl_IsValidEntry_c rm eid id kind fr to t x y wt _ hf ht).mono ?_;rw [HV.out];rintro e w2 ⟨rfl,hb2⟩;have bx2:=bx1.below hb2;have B2:=bTrans B1 hb2;have s0:=bx2.bx.cells 0 _ rfl;have s1:=bx2.bx.cells 1 _ rfl;have s2:=bx2.bx.cells 2 _ rfl;have s3:=bx2.bx.cells 3 _ rfl;have s4:=bx2.bx.cells 4 _ rfl;have s5:=bx2.bx.cells 5 _ rfl;have s6:=bx2.bx.cells 6 _ rfl;have s7:=bx2.bx.cells 7 _ rfl;have s8:=bx2.bx.cells 8 _ rfl;have s9:=bx2.bx.cells 9 _ rfl)
      refine bodyPost_ret (v:=.tuple #[.string s,.bool false]) (by simp [*,results,Tryz.results37,go_sem]) rfl ⟨by rw [HE.out],B2⟩
    · have HE:=Lib.hid (HYES.out hv h60)
      have h6:((m:Int) == 60)=false:=by simp only [beq_eq_false_iff_ne];omega
      have h6i:¬ (m:Int)=60:=by omega
      have HV:=Lib.hid hv
      clear hv HNO HYES h60
      obtain ⟨line,hline⟩:∃ l,l=entT ⟨rm,eid,⟨id,kind,fr,to,⟨t,x,y⟩,wt⟩⟩ q:=⟨_,rfl⟩
      rw [← hline] at hne hsz HF HE
      clear hline
      obtain ⟨u,e0,z0,c0⟩:=cat (s.extract 0 n) line 4194304 400 (Nat.le_trans (ext_sz s 0 n) hs) hsz (by omega)
      have hn0:(0:Int)≤(n:Int):=by omega
      have hn1:(n:Int)≤(s.size:Int):=by omega
      clear hne
      go_wp2_with (first | (go_at_call 44;refine (impl_IsValidEntry_c rm eid id kind fr to t x y wt _ hf ht).mono ?_;rw [HV.out];rintro e w2 ⟨rfl,hb2⟩;have bx2:=bx1.below hb2;have B2:=bTrans B1 hb2;have s0:=bx2.bx.cells 0 _ rfl;have s1:=bx2.bx.cells 1 _ rfl;have s2:=bx2.bx.cells 2 _ rfl;have s3:=bx2.bx.cells 3 _ rfl;have s4:=bx2.bx.cells 4 _ rfl;have s5:=bx2.bx.cells 5 _ rfl;have s6:=bx2.bx.cells 6 _ rfl;have s7:=bx2.bx.cells 7 _ rfl;have s8:=bx2.bx.cells 8 _ rfl;have s9:=bx2.bx.cells 9 _ rfl) | (go_at_call 13;refine (impl_FormatEntry_c rm eid id kind fr to t x y wt q _ hwe hf ht (HT1.out.below hb2).1.tab).mono ?_;rw [HF.out];rintro e w3 ⟨rfl,hb3⟩;have B3:=bTrans B2 hb3))
      refine bodyPost_ret (v:=.tuple #[.string u,.bool true]) (by simp [*,results,Tryz.results37,go_sem]) rfl ⟨by rw [HE.out,e0.out],B3⟩
noncomputable def pb (s:ByteArray):Bundle × Bool:=match psBun s with | some b=>(b,true) | none=>(⟨0,[]⟩,false)
theorem few_pb (s:ByteArray):fewB (pb s).1:=by
  unfold pb
  cases h:psBun s with
  | none=>show ([]:List Factor).length≤4194304;simp
  | some b =>
    have:=(isBundle_parts (psBun_text h).1).2.2.1
    show b.factors.length≤4194304
    omega
theorem pb_post {w w':World} {s:ByteArray} {e:Ending} (h:PBPost w s e w'):∃ v:Sv,e=.returned (.tuple #[vBundle (pb s).1.robot v.A v.n v.c,.bool (pb s).2])∧OwB w' v (pb s).1∧Fresh w.heap.size w' (fpB v)∧Below w.heap.size w w':=by
  obtain ⟨hb,⟨b,v,h1,rfl,h3,h4⟩ | ⟨h1,rfl⟩⟩:=h
  · unfold pb;rw [h1]
    exact ⟨v,rfl,h3,h4,hb⟩
  · unfold pb;rw [h1]
    exact ⟨⟨none,0,0⟩,rfl,Own.nil_ _ _ _ _,Fresh.nil _ _,hb⟩
theorem impl_ParseBundle_k (s:ByteArray) (w:World) (hs:s.size≤4194304) (hT:TabE w):Calls Tryz.prog 91 #[.string s] w fun e w'=>∃ v:Sv,e=.returned (.tuple #[vBundle (pb s).1.robot v.A v.n v.c,.bool (pb s).2])∧OwB w' v (pb s).1∧Fresh w.heap.size w' (fpB v)∧Below w.heap.size w w' :=
  (impl_ParseBundle_c s w hs hT).mono fun _ _ h=>pb_post h
def rstep (l:List Factor) (e:Entry):List Factor:=if e.remove then (removeF l e.id).1 else (addF l e.factor).1
def RpOk (l:List Factor):Prop:=(∀ f∈l,vldFactor f=true)∧l.length≤40
theorem RpOk.nil:RpOk []:=⟨by simp,by simp⟩
theorem RpOk.small {l:List Factor} (h:RpOk l):smallFs l:=fun f hf=>vld_sz (h.1 f hf)
theorem RpOk.few {l:List Factor} (h:RpOk l):fewF l:=by have:=h.2;unfold fewF;omega
theorem fl_rp {l:List Factor} (h:isFL l=true):RpOk l:=by
  refine ⟨?_,isFL_len h⟩
  unfold isFL at h
  simp only [Bool.and_eq_true] at h
  have ha:=h.2.1
  revert ha
  have aux:∀ (l:List Factor) (p:Option Int),ascL l p=true→∀ f∈l,vldFactor f=true:=by
    intro l
    induction l with
    | nil=>intro p _ f hf;simp at hf
    | cons a l ih =>
      intro p h f hf
      simp only [ascL,Bool.and_eq_true] at h
      rcases List.mem_cons.1 hf with rfl | hf
      · exact h.1
      · exact ih _ h.2.2 f hf
  exact aux l none
theorem RpOk.step {l:List Factor} (h:RpOk l) (e:Entry):RpOk (rstep l e):=by
  unfold rstep
  split
  · unfold removeF
    split
    · exact ⟨fun f hf=>h.1 f (List.mem_filter.1 hf).1,Nat.le_trans (List.length_filter_le _ _) h.2⟩
    · exact h
  · unfold addF
    split
    · rename_i hc;simp only [Bool.and_eq_true] at hc;exact fl_rp hc.2
    · exact h
noncomputable def rpl (s:ByteArray):List Factor:=(rdE s).foldl rstep []
theorem rpok_fold:∀ (es:List Entry) (l:List Factor),RpOk l→RpOk (es.foldl rstep l)
  | [],_,h=>h
  | e :: es,l,h=>rpok_fold es _ (h.step e)
theorem rdj_vld:∀ (k:Nat) (r:List UInt8) (p:Int),∀ e∈(rdj k r p).1,vldEntry e=true
  | 0,_,_,e,he=>by simp [rdj] at he
  | k+1,r,p,e,he=>by
    rw [rdj] at he
    split at he
    · simp at he
    · rename_i g hg
      rcases List.mem_cons.1 he with rfl | he
      · exact (nxt_text hg).1
      · exact rdj_vld k _ _ e he
theorem take_step {α β:Type} {f:β→α→β} {es:List α} {b:β} {k:Nat} {e:α} (h:es[k]? = some e):(es.take (k+1)).foldl f b=f ((es.take k).foldl f b) e:=by
  obtain ⟨hi,he⟩:=List.getElem?_eq_some_iff.1 h
  rw [List.take_succ_eq_append_getElem hi,List.foldl_append,he];rfl
theorem impl_ReplayJournal_k (s:ByteArray) (w:World) (hs:s.size≤4194304) (hT:TabJ w):Calls Tryz.prog 50 #[.string s] w fun e w'=>∃ v:Sv,e=.returned (.slice v.A v.n v.c)∧OwF w' v (rpl s)∧Fresh w.heap.size w' (fpF v)∧Below w.heap.size w w':=by
  go_enter Tryz.func50,Tryz.ntmps50
  go_wp2_with fail
  refine Calls.mono (impl_ReadJournal_k s _ hs (hT.below (bAlloc (Below.refl _ _) _))) ?_
  rintro e w1 ⟨ve,rfl,hoe,hfe,hb1⟩
  have hl0:Own w1 w.heap.size 34 8 (some ⟨w.heap.size,0,none⟩) 0 0 []:=(Own.made0 w _ 8 (Nat.le_refl _)).below hb1
  have HRE:=Lib.hid hoe.rd
  have hlen:(rdE s).length=ve.n:=by have:=hoe.rd.1;simpa using this
  have hvn:ve.n≤60:=by have:=rdj_few 60 s.data.toList 1;rw [← hlen];exact this
  have B1:Below w.heap.size w w1:=bTrans (bAlloc (Below.refl _ _) _) hb1
  have HV:=Lib.hid (rdj_vld 60 s.data.toList 1)
  obtain ⟨A0,n0,c0⟩:=ve
  simp only at hlen hvn HRE
  clear hoe hfe hb1
  go_wp2_with fail
  go_loopw [3,16] (fun lv iv wr=>∃ (k:Nat) (v:Sv),k≤n0∧iv=.int .i64 (k:Int)∧lv=.slice v.A v.n v.c∧OwF wr v (((rdE s).take k).foldl rstep [])∧Fresh w.heap.size wr (fpF v)∧Below w1.heap.size w1 wr) (fun _ iv _=>n0 - (intOf iv).toNat)
  case atStart=>exact ⟨0,⟨some ⟨w.heap.size,0,none⟩,0,0⟩,Nat.zero_le _,rfl,rfl,hl0.zero,Fresh.obl_ hl0,Below.refl _ _⟩
  case round =>
    obtain ⟨k,v,hk,rfl,rfl,ho,hf,hbr⟩:=hrel
    have HB:=Lib.hid (bTrans B1 hbr)
    have HO:=Lib.hid ho
    have HF:=Lib.hid hf
    have hzr:=hbr.size
    have hz1:=B1.size
    clear ho hf
    by_cases hlt:k < n0
    · obtain ⟨⟨rm,eid,⟨fi,fk,ff,ft,⟨pt,px,py⟩,fw⟩⟩,g,off,hx,rfl,g0,g1,g2,g3,g4,g5,g6,g7,g8,g9⟩:=RowN.at_ (Row.below HRE.out hbr) hlt
      have hst:=take_step (f:=rstep) (b:=[]) hx.out
      have hrp:=rpok_fold ((rdE s).take k) [] RpOk.nil
      have hve:=HV.out _ (List.mem_of_getElem? hx.out)
      generalize ((rdE s).take k).foldl rstep []=l at hst hrp HO
      have HST:=Lib.hid hst
      have HRP:=Lib.hid hrp
      have HVE:=Lib.hid hve
      have SL:=Own.slOk (v:=v) HO.out
      have bx:=Bk.new wr [.bool rm,.int .i64 eid,.int .i64 fi,.int .i64 fk,.string ff,.string ft,.int .i64 pt,.int .i64 px,.int .i64 py,.int .i64 fw] 42 _ rfl
      have BX:=Lib.hid bx
      clear hst hrp hve hx bx
      dsimp only at g0 g1 g2 g3 g4 g5 g6 g7 g8 g9
      have hal:Below wr.heap.size wr (wr.alloc (.cells #[.bool rm,.int .i64 eid,.int .i64 fi,.int .i64 fk,.string ff,.string ft,.int .i64 pt,.int .i64 px,.int .i64 py,.int .i64 fw] 42)):=bAlloc (Below.refl _ _) _
      have HRD:=Lib.hid ((HO.out.below hal).rd)
      cases rm with
      | true =>
        have HE:=Lib.hid (show rstep l ⟨true,eid,⟨fi,fk,ff,ft,⟨pt,px,py⟩,fw⟩⟩=(removeF l eid).1 from rfl)
        go_wp2_with fail
        refine Calls.mono (impl_RemoveFactor_k v l eid _ HRP.out.few HRP.out.small SL HRD.out) ?_
        rintro e w3 ⟨v3,rfl,ho3,hf3,hb3⟩
        have hb3':=bTrans hal hb3
        go_wp2_with fail
        exact ⟨⟨k+1,v3,by omega,by simp,rfl,by rw [HST.out,HE.out];exact ho3,hf3.rebase (by simp;omega),bTrans hbr hb3'⟩,by simp only [intOf];omega⟩
      | false =>
        have HE:=Lib.hid (show rstep l ⟨false,eid,⟨fi,fk,ff,ft,⟨pt,px,py⟩,fw⟩⟩=(addF l ⟨fi,fk,ff,ft,⟨pt,px,py⟩,fw⟩).1 from rfl)
        have hvf:vldFactor ⟨fi,fk,ff,ft,⟨pt,px,py⟩,fw⟩=true:=by have:=HVE.out;simp [vldEntry] at this;exact this.2
        have HSZ:=Lib.hid (vld_sz hvf)
        clear hvf
        go_wp2_with fail
        refine Calls.mono (impl_AddFactor_k v l ⟨fi,fk,ff,ft,⟨pt,px,py⟩,fw⟩ _ HRP.out.few HRP.out.small HSZ.out SL HRD.out) ?_
        rintro e w3 ⟨v3,rfl,ho3,hf3,hb3⟩
        have hb3':=bTrans hal hb3
        go_wp2_with fail
        exact ⟨⟨k+1,v3,by omega,by simp,rfl,by rw [HST.out,HE.out];exact ho3,hf3.rebase (by simp;omega),bTrans hbr hb3'⟩,by simp only [intOf];omega⟩
    · obtain rfl:k=n0:=by omega
      have hkk:¬ (k:Int) < (k:Int):=by omega
      have HT2:=Lib.hid (show ((rdE s).take k).foldl rstep []=rpl s by rw [List.take_of_length_le (by omega)];rfl)
      rw [HT2.out] at HO
      go_wp2_with fail
      refine bodyPost_ret (v:=.slice v.A v.n v.c) (by simp [*,results,Tryz.results50,go_sem]) rfl ⟨v,rfl,HO.out,HF.out,HB.out⟩
def newPkt (ack:Bool) (n:Int) (t:ByteArray):Packet:=⟨ack,n,t,pktSum n t ack⟩
def intact (p:Packet):Bool:=p.sum == pktSum p.number p.text p.ack
def putK (l:List Packet) (p:Packet):List Packet:=if 12≤l.length then l else l++[p]
def dropK (l:List Packet) (k:Nat):List Packet:=l.take k++l.drop (k+1)
def sendL:List ByteArray→Int→List Packet→List Packet
  | [],_,net=>net
  | s :: q,n,net=>sendL q (n+1) (putK net (newPkt false n s))
def sendC (c:Chan):Chan:={ c with net:=sendL (c.queue.take 3) c.base c.net }
def dlv (c:Chan) (p:Packet):Chan :=
  if intact p=true∧p.ack=false then
    (if p.number=c.expected then { c with inbox:=c.inbox++[p.text],expected:=c.expected+1,acks:=putK c.acks (newPkt true (c.expected+1) ⟨#[]⟩) }
     else { c with acks:=putK c.acks (newPkt true c.expected ⟨#[]⟩) })
  else c
def ackd (c:Chan) (p:Packet):Chan :=
  if intact p=true∧p.ack=true∧c.base < p.number∧p.number≤c.base+c.queue.length then { c with queue:=c.queue.drop (p.number - c.base).toNat,base:=p.number } else c
def spoilK (l:List Packet) (k:Nat):List Packet:=match l[k]? with | some p=>l.set k { p with sum:=IntKind.i64.wrap (p.sum+1) } | none=>l
def netC (c:Chan) (move:Int) (k:Nat):Chan :=
  match c.net[k]? with
  | none=>c
  | some p =>
    if move=4 then { c with net:=putK c.net p }
    else if move=5 then { c with net:=spoilK c.net k }
    else if move=3 then { c with net:=dropK c.net k }
    else dlv { c with net:=dropK c.net k } p
def ackC (c:Chan) (move:Int) (k:Nat):Chan :=
  match c.acks[k]? with
  | none=>c
  | some p=>if move=6 then ackd { c with acks:=dropK c.acks k } p else { c with acks:=dropK c.acks k }
def selK (at_:Int) (n:Nat):Nat:=(at_ % (n:Int)).toNat
def moveC (c:Chan) (move at_:Int):Chan :=
  if move=1 then sendC c
  else if 2≤move∧move≤5 then (if c.net=[] then c else netC c move (selK at_ c.net.length))
  else if 6≤move∧move≤7 then (if c.acks=[] then c else ackC c move (selK at_ c.acks.length))
  else c
def stepC (c:Chan) (move at_:Int):Chan:=if isChan c=true then moveC c move at_ else c
def takeC0 (c:Chan):Chan:={ c with inbox:=[] }
def offerC0 (c:Chan) (s:ByteArray):Chan:={ c with queue:=c.queue++[s] }

theorem selK_lt {a:Int} {n:Nat} (h:0 < n):selK a n < n:=by
  have h1:=Int.emod_nonneg a (show (n:Int)≠0 by omega)
  have h2:=Int.emod_lt_of_pos a (show (0:Int) < n by omega)
  unfold selK;omega
theorem putK_len {l:List Packet} {p:Packet} (h:l.length≤12):(putK l p).length≤12:=by
  unfold putK;split
  · exact h
  · simp;omega
theorem putK_all {P:Packet→Prop} {l:List Packet} {p:Packet} (h:∀ x∈l,P x) (hp:P p):∀ x∈putK l p,P x:=by
  unfold putK;split
  · exact h
  · intro x hx;rcases List.mem_append.1 hx with hx | hx
    · exact h x hx
    · simp at hx;subst hx;exact hp
theorem dropK_all {P:Packet→Prop} {l:List Packet} {k:Nat} (h:∀ x∈l,P x):∀ x∈dropK l k,P x:=by
  intro x hx
  rcases List.mem_append.1 hx with hx | hx
  · exact h x (List.mem_of_mem_take hx)
  · exact h x (List.mem_of_mem_drop hx)
theorem dropK_len {l:List Packet} {k:Nat} (h:l.length≤12):(dropK l k).length≤12:=by unfold dropK;simp;omega
def NetOk (want:List ByteArray) (m:Nat) (p:Packet):Prop:=p.ack=false∧∃ i:Nat,want[i]? = some p.text∧p.number=i∧∃ j:Nat,j≤m∧p.sum=pktSum p.number p.text p.ack+j
def AckOk (e:Int) (p:Packet):Prop:=p.ack=true∧0≤p.number∧p.number≤e
structure ChInv (want got:List ByteArray) (m:Nat) (c:Chan):Prop where
  b0:0≤c.base
  be:c.base≤c.expected
  ew:c.expected≤want.length
  q:c.queue=want.drop c.base.toNat
  q8:c.queue.length≤8
  bq:c.base+c.queue.length=want.length
  inb:got++c.inbox=want.take c.expected.toNat
  net:∀ p∈c.net,NetOk want m p
  n12:c.net.length≤12
  acks:∀ p∈c.acks,AckOk c.expected p
  a12:c.acks.length≤12
theorem pktSum_bd (n:Int) (t:ByteArray) (a:Bool):0≤pktSum n t a∧pktSum n t a≤65520:=chk_bound _
theorem AckOk.mono {e e':Int} {p:Packet} (h:AckOk e p) (he:e≤e'):AckOk e' p:=⟨h.1,h.2.1,by have:=h.2.2;omega⟩
theorem NetOk.mono {want:List ByteArray} {m m':Nat} {p:Packet} (h:NetOk want m p) (he:m≤m'):NetOk want m' p:=by
  obtain ⟨h1,i,h2,h3,j,h4,h5⟩:=h
  exact ⟨h1,i,h2,h3,j,by omega,h5⟩
theorem NetOk.more {want:List ByteArray} {m:Nat} {p:Packet} (h:NetOk want m p) (s:ByteArray):NetOk (want++[s]) m p:=by
  obtain ⟨h1,i,h2,h3,h4⟩:=h
  refine ⟨h1,i,?_,h3,h4⟩
  rw [List.getElem?_append_left (List.getElem?_eq_some_iff.1 h2).1];exact h2
theorem ChInv.isChan {want got:List ByteArray} {m:Nat} {c:Chan} (h:ChInv want got m c) (hw:want.length≤1000) (hs:∀ s∈want,s.size≤300):isChan c=true:=by
  have h1:=h.b0;have h2:=h.be;have h3:=h.ew;have h4:=h.q8;have h5:=h.bq
  unfold Go.Proofs.YtdfemnffpaopfaaGreatDoor.isChan
  simp only [Bool.and_eq_true,decide_eq_true_eq,List.all_eq_true]
  refine ⟨fun s hq=>hs s ?_,h4,inR_iff.2 ⟨h1,by omega⟩,inR_iff.2 ⟨h2,by omega⟩,h.n12,h.a12⟩
  rw [h.q] at hq;exact List.mem_of_mem_drop hq
theorem ChInv.offer {want got:List ByteArray} {m:Nat} {c:Chan} (h:ChInv want got m c) (hq:c.queue.length < 8) (s:ByteArray):ChInv (want++[s]) got m (offerC0 c s):=by
  have h1:=h.b0;have h2:=h.be;have h3:=h.ew;have h4:=h.q8;have h5:=h.bq
  refine ⟨h1,h2,by simp [offerC0];omega,?_,by simp [offerC0];omega,by simp [offerC0];omega,?_,fun p hp=>(h.net p hp).more s,h.n12,h.acks,h.a12⟩
  · show c.queue++[s] = _
    show _=(want++[s]).drop c.base.toNat
    rw [List.drop_append_of_le_length (by omega),← h.q]
  · show got++c.inbox = _
    rw [List.take_append_of_le_length (by show c.expected.toNat≤_;omega)]
    exact h.inb
theorem ChInv.take {want got:List ByteArray} {m:Nat} {c:Chan} (h:ChInv want got m c):ChInv want (got++c.inbox) m (takeC0 c) :=
  ⟨h.b0,h.be,h.ew,h.q,h.q8,h.bq,by show (got++c.inbox)++[] = _;rw [List.append_nil];exact h.inb,h.net,h.n12,h.acks,h.a12⟩
theorem sendL_ok {want:List ByteArray} {m:Nat}:∀ (q:List ByteArray) (n:Nat) (net:List Packet),(∀ (j:Nat) (s:ByteArray),q[j]? = some s→want[n+j]? = some s)→(∀ p∈net,NetOk want m p)→net.length≤12 →
    (∀ p∈sendL q (n:Int) net,NetOk want m p)∧(sendL q (n:Int) net).length≤12
  | [],n,net,_,h,hl=>⟨h,hl⟩
  | s :: q,n,net,hq,h,hl=>by
    have:=sendL_ok (m:=m) q (n+1) (putK net (newPkt false n s)) (fun j t ht=>by have:=hq (j+1) t (by simpa using ht);rw [show n+1+j=n+(j+1) by omega];exact this)
      (putK_all h ⟨rfl,n,by have:=hq 0 s rfl;simpa [newPkt] using this,rfl,0,Nat.zero_le _,by simp [newPkt]⟩) (putK_len hl)
    simpa [sendL] using this
theorem ChInv.send {want got:List ByteArray} {m:Nat} {c:Chan} (h:ChInv want got m c):ChInv want got m (sendC c):=by
  obtain ⟨b,hb⟩:=Int.eq_ofNat_of_zero_le h.b0
  have:=sendL_ok (want:=want) (m:=m) (c.queue.take 3) b c.net (fun j s hs=>by
    rw [h.q,hb,List.getElem?_take] at hs
    split at hs
    · rw [Int.toNat_natCast,List.getElem?_drop] at hs;exact hs
    · cases hs) h.net h.n12
  rw [← hb] at this
  exact ⟨h.b0,h.be,h.ew,h.q,h.q8,h.bq,h.inb,this.1,this.2,h.acks,h.a12⟩
theorem ChInv.withNet {want got:List ByteArray} {m m':Nat} {c:Chan} (h:ChInv want got m c) {l:List Packet} (hl:∀ p∈l,NetOk want m' p) (h12:l.length≤12):ChInv want got m' { c with net:=l } :=
  ⟨h.b0,h.be,h.ew,h.q,h.q8,h.bq,h.inb,hl,h12,h.acks,h.a12⟩
theorem ChInv.withAcks {want got:List ByteArray} {m:Nat} {c:Chan} (h:ChInv want got m c) {l:List Packet} (hl:∀ p∈l,AckOk c.expected p) (h12:l.length≤12):ChInv want got m { c with acks:=l } :=
  ⟨h.b0,h.be,h.ew,h.q,h.q8,h.bq,h.inb,h.net,h.n12,hl,h12⟩
theorem take_snoc_of {α:Type} {l:List α} {i:Nat} {x:α} (h:l[i]? = some x):l.take i++[x]=l.take (i+1):=by
  obtain ⟨hi,rfl⟩:=List.getElem?_eq_some_iff.1 h
  simp
theorem ChInv.dlv {want got:List ByteArray} {m:Nat} {c:Chan} (h:ChInv want got m c) {p:Packet} (hp:NetOk want m p):ChInv want got m (dlv c p):=by
  have h1:=h.b0;have h2:=h.be;have h3:=h.ew;have h5:=h.bq
  obtain ⟨ha,i,hi,hn,j,hj,hs⟩:=hp
  have hil:=(List.getElem?_eq_some_iff.1 hi).1
  unfold Go.Proofs.YtdfemnffpaopfaaGreatDoor.dlv
  split
  · split
    · rename_i he
      refine ⟨h1,by show c.base≤c.expected+1;omega,by show c.expected+1≤_;omega,h.q,h.q8,h5,?_,h.net,h.n12,?_,putK_len h.a12⟩
      · show got++(c.inbox++[p.text])=want.take (c.expected+1).toNat
        rw [← List.append_assoc,h.inb]
        have e1:c.expected.toNat=i:=by omega
        have e2:(c.expected+1).toNat=i+1:=by omega
        rw [e1,e2]
        exact take_snoc_of hi
      · exact putK_all (fun x hx=>(h.acks x hx).mono (by show c.expected≤c.expected+1;omega)) ⟨rfl,by show 0≤c.expected+1;omega,Int.le_refl _⟩
    · exact h.withAcks (putK_all h.acks ⟨rfl,by show 0≤c.expected;omega,Int.le_refl _⟩) (putK_len h.a12)
  · exact h
theorem ChInv.ackd {want got:List ByteArray} {m:Nat} {c:Chan} (h:ChInv want got m c) {p:Packet} (hp:AckOk c.expected p):ChInv want got m (ackd c p):=by
  have h1:=h.b0;have h2:=h.be;have h3:=h.ew;have h5:=h.bq;have h4:=h.q8
  obtain ⟨ha,hn0,hn1⟩:=hp
  unfold Go.Proofs.YtdfemnffpaopfaaGreatDoor.ackd
  split
  · rename_i hc
    obtain ⟨_,_,c1,c2⟩:=hc
    refine ⟨hn0,hn1,h3,?_,by show (c.queue.drop _).length≤8;simp;omega,by show p.number+((c.queue.drop _).length:Int) = _;simp;omega,h.inb,h.net,h.n12,h.acks,h.a12⟩
    show c.queue.drop _ = _
    rw [h.q,List.drop_drop]
    congr 1;show _=p.number.toNat;omega
  · exact h
theorem spoil_ok {want:List ByteArray} {m:Nat} {l:List Packet} (hm:m≤1000) (h:∀ p∈l,NetOk want m p) (k:Nat):(∀ p∈spoilK l k,NetOk want (m+1) p)∧(spoilK l k).length=l.length:=by
  unfold spoilK
  split
  · rename_i p hp
    refine ⟨fun x hx=>?_,by simp⟩
    rcases List.mem_or_eq_of_mem_set hx with hx | rfl
    · exact (h x hx).mono (by omega)
    · obtain ⟨h1,i,h2,h3,j,h4,h5⟩:=h p (List.mem_of_getElem? hp)
      refine ⟨h1,i,h2,h3,j+1,by omega,?_⟩
      have hb:=pktSum_bd p.number p.text p.ack
      show IntKind.i64.wrap (p.sum+1) = _
      rw [IntKind.wrap_i64]
      show _=pktSum p.number p.text p.ack+_
      omega
  · exact ⟨fun x hx=>(h x hx).mono (by omega),rfl⟩
theorem ChInv.move {want got:List ByteArray} {m:Nat} {c:Chan} (h:ChInv want got m c) (hm:m≤1000) (move at_:Int):ChInv want got (m+1) (moveC c move at_):=by
  have hup:ChInv want got (m+1) c:=h.withNet (fun p hp=>(h.net p hp).mono (by omega)) h.n12
  unfold moveC
  split
  · exact hup.send
  split
  · split
    · exact hup
    · rename_i hne
      have hk:=selK_lt (a:=at_) (n:=c.net.length) (by cases hc:c.net with | nil=>exact absurd hc hne | cons=>simp)
      unfold netC
      rw [List.getElem?_eq_getElem hk]
      dsimp only
      have hp:=h.net _ (List.getElem_mem hk)
      split
      · exact h.withNet (putK_all (fun p hp=>(h.net p hp).mono (by omega)) (hp.mono (by omega))) (putK_len h.n12)
      split
      · have:=spoil_ok hm h.net (selK at_ c.net.length)
        exact h.withNet this.1 (by rw [this.2];exact h.n12)
      have hd:=hup.withNet (dropK_all (k:=selK at_ c.net.length) hup.net) (dropK_len h.n12)
      split
      · exact hd
      · exact hd.dlv (hp.mono (by omega))
  split
  · split
    · exact hup
    · rename_i hne
      have hk:=selK_lt (a:=at_) (n:=c.acks.length) (by cases hc:c.acks with | nil=>exact absurd hc hne | cons=>simp)
      unfold ackC
      rw [List.getElem?_eq_getElem hk]
      dsimp only
      have hp:=h.acks _ (List.getElem_mem hk)
      have hd:=hup.withAcks (dropK_all (k:=selK at_ c.acks.length) hup.acks) (dropK_len h.a12)
      split
      · exact hd.ackd hp
      · exact hd
  · exact hup

theorem ackd_acks (c:Chan) (p:Packet):(ackd c p).acks=c.acks:=by unfold ackd;split <;> rfl
end Go.Proofs.YtdfemnffpaopfaaGreatDoor

namespace Go.Proofs.YtdfemnffpaopfaaGreatDoor
open Go.RowKit
set_option linter.unusedVariables false
set_option linter.unusedSimpArgs false
theorem fpC_mem {v:CV} {q:Nat}:q∈fpC v ↔ q∈obl v.q.A∨q∈obl v.i.A∨q∈obl v.n.A∨q∈obl v.a.A:=by simp [fpC]
theorem fpC_nodup {v:CV}:(fpC v).Nodup ↔ ((∀ q∈obl v.q.A,q ∉ obl v.i.A)∧(∀ q∈obl v.q.A,q ∉ obl v.n.A)∧(∀ q∈obl v.q.A,q ∉ obl v.a.A)∧(∀ q∈obl v.i.A,q ∉ obl v.n.A)∧(∀ q∈obl v.i.A,q ∉ obl v.a.A)∧(∀ q∈obl v.n.A,q ∉ obl v.a.A)):=by
  simp only [fpC,List.nodup_append,obl_nodup,true_and,List.mem_append]
  constructor
  · rintro ⟨⟨h3,h2⟩,h1⟩
    exact ⟨fun q a b=>h1 q a q (.inl b) rfl,fun q a b=>h1 q a q (.inr (.inl b)) rfl,fun q a b=>h1 q a q (.inr (.inr b)) rfl,fun q a b=>h2 q a q (.inl b) rfl,fun q a b=>h2 q a q (.inr b) rfl,fun q a b=>h3 q a q b rfl⟩
  · rintro ⟨h1,h2,h3,h4,h5,h6⟩
    refine ⟨⟨fun x a y b e=>h6 x a (e ▸ b),fun x a y b e=>?_⟩,fun x a y b e=>?_⟩
    · subst e;rcases b with b | b;exact h4 x a b;exact h5 x a b
    · subst e;rcases b with b | b | b;exact h1 x a b;exact h2 x a b;exact h3 x a b
def Moved (w:World) (v v':Sv):Prop:=∀ q∈obl v'.A,q∈obl v.A∨w.heap.size≤q
theorem Moved.refl (w:World) (v:Sv):Moved w v v:=fun q hq=>.inl hq
theorem OwC.set_q {w w':World} {v:CV} {c:Chan} {v':Sv} {l:List ByteArray} {B:Nat} (h:OwC w v c) (hf:Fresh B w (fpC v)) (hB:B≤w.heap.size) (ho:Own w' 0 9 1 v'.A v'.n v'.c (l.map strCells)) (hu:Upd (obl v.q.A) w w') (hv:Moved w v.q v') :
    OwC w' { v with q:=v' } { c with queue:=l }∧Fresh B w' (fpC { v with q:=v' }):=by
  obtain ⟨D0,D1,D2,D3,D4,D5⟩:=fpC_nodup.1 hf.nodup
  have Lq:∀ k∈obl v.q.A,k < w.heap.size:=fun k hk=>hf.hi k (fpC_mem.2 (.inl hk))
  have Li:∀ k∈obl v.i.A,k < w.heap.size:=fun k hk=>hf.hi k (fpC_mem.2 (.inr (.inl hk)))
  have Ln:∀ k∈obl v.n.A,k < w.heap.size:=fun k hk=>hf.hi k (fpC_mem.2 (.inr (.inr (.inl hk))))
  have La:∀ k∈obl v.a.A,k < w.heap.size:=fun k hk=>hf.hi k (fpC_mem.2 (.inr (.inr (.inr hk))))
  have hW:OwC w' { v with q:=v' } { c with queue:=l }:=⟨ho,h.i.upd hu (fun k hk hm=>D0 k hm hk),h.n.upd hu (fun k hk hm=>D1 k hm hk),h.a.upd hu (fun k hk hm=>D2 k hm hk)⟩
  refine ⟨hW,fpC_nodup.2 ⟨fun q hq hb=>(hv q hq).elim (fun h1=>D0 q h1 hb) (fun h1=>by have:=Li q hb;omega),fun q hq hb=>(hv q hq).elim (fun h1=>D1 q h1 hb) (fun h1=>by have:=Ln q hb;omega),fun q hq hb=>(hv q hq).elim (fun h1=>D2 q h1 hb) (fun h1=>by have:=La q hb;omega),D3,D4,D5⟩,fun q hq=>?_,hW.lt⟩
  rcases fpC_mem.1 hq with h1 | h1 | h1 | h1
  · rcases hv q h1 with h2 | h2
    · exact hf.lo q (fpC_mem.2 (.inl h2))
    · omega
  · exact hf.lo q (fpC_mem.2 (.inr (.inl h1)))
  · exact hf.lo q (fpC_mem.2 (.inr (.inr (.inl h1))))
  · exact hf.lo q (fpC_mem.2 (.inr (.inr (.inr h1))))
theorem fpC_q {v:CV}:∀ q∈obl v.q.A,q∈fpC v:=fun q hq=>fpC_mem.2 (.inl hq)
theorem OwC.set_i {w w':World} {v:CV} {c:Chan} {v':Sv} {l:List ByteArray} {B:Nat} (h:OwC w v c) (hf:Fresh B w (fpC v)) (hB:B≤w.heap.size) (ho:Own w' 0 9 1 v'.A v'.n v'.c (l.map strCells)) (hu:Upd (obl v.i.A) w w') (hv:Moved w v.i v') :
    OwC w' { v with i:=v' } { c with inbox:=l }∧Fresh B w' (fpC { v with i:=v' }):=by
  obtain ⟨D0,D1,D2,D3,D4,D5⟩:=fpC_nodup.1 hf.nodup
  have Lq:∀ k∈obl v.q.A,k < w.heap.size:=fun k hk=>hf.hi k (fpC_mem.2 (.inl hk))
  have Li:∀ k∈obl v.i.A,k < w.heap.size:=fun k hk=>hf.hi k (fpC_mem.2 (.inr (.inl hk)))
  have Ln:∀ k∈obl v.n.A,k < w.heap.size:=fun k hk=>hf.hi k (fpC_mem.2 (.inr (.inr (.inl hk))))
  have La:∀ k∈obl v.a.A,k < w.heap.size:=fun k hk=>hf.hi k (fpC_mem.2 (.inr (.inr (.inr hk))))
  have hW:OwC w' { v with i:=v' } { c with inbox:=l }:=⟨h.q.upd hu (fun k hk hm=>D0 k hk hm),ho,h.n.upd hu (fun k hk hm=>D3 k hm hk),h.a.upd hu (fun k hk hm=>D4 k hm hk)⟩
  refine ⟨hW,fpC_nodup.2 ⟨fun q ha hq=>(hv q hq).elim (fun h1=>D0 q ha h1) (fun h1=>by have:=Lq q ha;omega),D1,D2,fun q hq hb=>(hv q hq).elim (fun h1=>D3 q h1 hb) (fun h1=>by have:=Ln q hb;omega),fun q hq hb=>(hv q hq).elim (fun h1=>D4 q h1 hb) (fun h1=>by have:=La q hb;omega),D5⟩,fun q hq=>?_,hW.lt⟩
  rcases fpC_mem.1 hq with h1 | h1 | h1 | h1
  · exact hf.lo q (fpC_mem.2 (.inl h1))
  · rcases hv q h1 with h2 | h2
    · exact hf.lo q (fpC_mem.2 (.inr (.inl h2)))
    · omega
  · exact hf.lo q (fpC_mem.2 (.inr (.inr (.inl h1))))
  · exact hf.lo q (fpC_mem.2 (.inr (.inr (.inr h1))))
theorem fpC_i {v:CV}:∀ q∈obl v.i.A,q∈fpC v:=fun q hq=>fpC_mem.2 (.inr (.inl hq))
theorem OwC.set_n {w w':World} {v:CV} {c:Chan} {v':Sv} {l:List Packet} {B:Nat} (h:OwC w v c) (hf:Fresh B w (fpC v)) (hB:B≤w.heap.size) (ho:Own w' 0 164 4 v'.A v'.n v'.c (l.map Packet.cells)) (hu:Upd (obl v.n.A) w w') (hv:Moved w v.n v') :
    OwC w' { v with n:=v' } { c with net:=l }∧Fresh B w' (fpC { v with n:=v' }):=by
  obtain ⟨D0,D1,D2,D3,D4,D5⟩:=fpC_nodup.1 hf.nodup
  have Lq:∀ k∈obl v.q.A,k < w.heap.size:=fun k hk=>hf.hi k (fpC_mem.2 (.inl hk))
  have Li:∀ k∈obl v.i.A,k < w.heap.size:=fun k hk=>hf.hi k (fpC_mem.2 (.inr (.inl hk)))
  have Ln:∀ k∈obl v.n.A,k < w.heap.size:=fun k hk=>hf.hi k (fpC_mem.2 (.inr (.inr (.inl hk))))
  have La:∀ k∈obl v.a.A,k < w.heap.size:=fun k hk=>hf.hi k (fpC_mem.2 (.inr (.inr (.inr hk))))
  have hW:OwC w' { v with n:=v' } { c with net:=l }:=⟨h.q.upd hu (fun k hk hm=>D1 k hk hm),h.i.upd hu (fun k hk hm=>D3 k hk hm),ho,h.a.upd hu (fun k hk hm=>D5 k hm hk)⟩
  refine ⟨hW,fpC_nodup.2 ⟨D0,fun q ha hq=>(hv q hq).elim (fun h1=>D1 q ha h1) (fun h1=>by have:=Lq q ha;omega),D2,fun q ha hq=>(hv q hq).elim (fun h1=>D3 q ha h1) (fun h1=>by have:=Li q ha;omega),D4,fun q hq hb=>(hv q hq).elim (fun h1=>D5 q h1 hb) (fun h1=>by have:=La q hb;omega)⟩,fun q hq=>?_,hW.lt⟩
  rcases fpC_mem.1 hq with h1 | h1 | h1 | h1
  · exact hf.lo q (fpC_mem.2 (.inl h1))
  · exact hf.lo q (fpC_mem.2 (.inr (.inl h1)))
  · rcases hv q h1 with h2 | h2
    · exact hf.lo q (fpC_mem.2 (.inr (.inr (.inl h2))))
    · omega
  · exact hf.lo q (fpC_mem.2 (.inr (.inr (.inr h1))))
theorem fpC_n {v:CV}:∀ q∈obl v.n.A,q∈fpC v:=fun q hq=>fpC_mem.2 (.inr (.inr (.inl hq)))
theorem OwC.set_a {w w':World} {v:CV} {c:Chan} {v':Sv} {l:List Packet} {B:Nat} (h:OwC w v c) (hf:Fresh B w (fpC v)) (hB:B≤w.heap.size) (ho:Own w' 0 164 4 v'.A v'.n v'.c (l.map Packet.cells)) (hu:Upd (obl v.a.A) w w') (hv:Moved w v.a v') :
    OwC w' { v with a:=v' } { c with acks:=l }∧Fresh B w' (fpC { v with a:=v' }):=by
  obtain ⟨D0,D1,D2,D3,D4,D5⟩:=fpC_nodup.1 hf.nodup
  have Lq:∀ k∈obl v.q.A,k < w.heap.size:=fun k hk=>hf.hi k (fpC_mem.2 (.inl hk))
  have Li:∀ k∈obl v.i.A,k < w.heap.size:=fun k hk=>hf.hi k (fpC_mem.2 (.inr (.inl hk)))
  have Ln:∀ k∈obl v.n.A,k < w.heap.size:=fun k hk=>hf.hi k (fpC_mem.2 (.inr (.inr (.inl hk))))
  have La:∀ k∈obl v.a.A,k < w.heap.size:=fun k hk=>hf.hi k (fpC_mem.2 (.inr (.inr (.inr hk))))
  have hW:OwC w' { v with a:=v' } { c with acks:=l }:=⟨h.q.upd hu (fun k hk hm=>D2 k hk hm),h.i.upd hu (fun k hk hm=>D4 k hk hm),h.n.upd hu (fun k hk hm=>D5 k hk hm),ho⟩
  refine ⟨hW,fpC_nodup.2 ⟨D0,D1,fun q ha hq=>(hv q hq).elim (fun h1=>D2 q ha h1) (fun h1=>by have:=Lq q ha;omega),D3,fun q ha hq=>(hv q hq).elim (fun h1=>D4 q ha h1) (fun h1=>by have:=Li q ha;omega),fun q ha hq=>(hv q hq).elim (fun h1=>D5 q ha h1) (fun h1=>by have:=Ln q ha;omega)⟩,fun q hq=>?_,hW.lt⟩
  rcases fpC_mem.1 hq with h1 | h1 | h1 | h1
  · exact hf.lo q (fpC_mem.2 (.inl h1))
  · exact hf.lo q (fpC_mem.2 (.inr (.inl h1)))
  · exact hf.lo q (fpC_mem.2 (.inr (.inr (.inl h1))))
  · rcases hv q h1 with h2 | h2
    · exact hf.lo q (fpC_mem.2 (.inr (.inr (.inr h2))))
    · omega
theorem fpC_a {v:CV}:∀ q∈obl v.a.A,q∈fpC v:=fun q hq=>fpC_mem.2 (.inr (.inr (.inr hq)))
theorem OwC.nums {w:World} {v:CV} {c:Chan} (h:OwC w v c) (b e:Int):OwC w v { c with base:=b,expected:=e }:=⟨h.q,h.i,h.n,h.a⟩
structure Side where
  b:Nat
  t:TypeId
  cs:List Value
def Side.ok (w:World) (s:Side):Prop:=Own w 0 s.t s.cs.length (some ⟨s.b,0,none⟩) 1 1 [s.cs]
structure CB (w0:World) (fs:List Nat) (B b0:Nat) (v:CV) (c:Chan) (sd:List Side) (w:World):Prop where
  ow:OwC w v c
  fr:Fresh B w (fpC v)
  mv:∀ q∈fpC v,q∈fs∨w0.heap.size≤q
  nb:b0 ∉ fpC v
  bx:Own w 0 84 6 (some ⟨b0,0,none⟩) 1 1 [cChan v c.base c.expected]
  lo:w0.heap.size≤b0
  hB:B≤w0.heap.size
  sid:∀ s∈sd,s.ok w∧s.b ∉ fpC v∧s.b≠b0∧w0.heap.size≤s.b
  up:Upd fs w0 w
def CPost (w0:World) (fs:List Nat) (B:Nat) (c:Chan) (e:Ending) (w':World):Prop :=
  ∃ v',e=.returned (vChan v' c.base c.expected)∧OwC w' v' c∧Fresh B w' (fpC v')∧(∀ q∈fpC v',q∈fs∨w0.heap.size≤q)∧Upd fs w0 w'
section
variable {w0 w w' w1:World} {fs:List Nat} {B b0:Nat} {v:CV} {c:Chan} {sd:List Side}
theorem Own.lt1 {t sz b:Nat} {css:List (List Value)} (h:Own w 0 t sz (some ⟨b,0,none⟩) 1 1 css):b < w.heap.size:=(h.lt b rfl).2
theorem CB.lt (h:CB w0 fs B b0 v c sd w):b0 < w.heap.size:=h.bx.lt1
theorem CB.slt (h:CB w0 fs B b0 v c sd w) {s:Side} (hs:s∈sd):s.b < w.heap.size:=(h.sid s hs).1.lt1
theorem CB.start (h:OwC w0 v c) (hf:Fresh B w0 (fpC v)) (hB:B≤w0.heap.size):CB w0 (fpC v) B w0.heap.size v c [] (w0.alloc (.cells (cChan v c.base c.expected).toArray 84)) :=
  ⟨h.below (bAlloc (Below.refl _ _) _),⟨hf.nodup,hf.lo,fun q hq=>by have:=hf.hi q hq;simp;omega⟩,fun q hq=>.inl hq,fun hm=>by have:=hf.hi _ hm;omega,Own.box (heap_alloc_new w0 _) rfl,Nat.le_refl _,hB,fun s hs=>(by cases hs),(Upd.refl _ _).alloc_ _⟩
theorem CB.upd {gs:List Nat} (h:CB w0 fs B b0 v c sd w) (hu:Upd gs w w') (h1:∀ q∈gs,q ∉ fpC v) (h2:b0 ∉ gs) (h3:∀ s∈sd,s.b ∉ gs) (h4:∀ q∈gs,w0.heap.size≤q):CB w0 fs B b0 v c sd w' :=
  ⟨h.ow.upd hu (fun q hq hm=>h1 q hm hq),⟨h.fr.nodup,h.fr.lo,fun q hq=>Nat.lt_of_lt_of_le (h.fr.hi q hq) hu.size⟩,h.mv,h.nb,h.bx.upd hu (fun q hq hm=>by simp [obl,ob] at hq;exact h2 (hq ▸ hm)),h.lo,h.hB,fun s hs =>
    have H:=h.sid s hs
    ⟨H.1.upd hu (fun q hq hm=>by simp [obl,ob] at hq;exact h3 s hs (hq ▸ hm)),H.2⟩,
    ⟨hu.os.trans h.up.os,hu.tape.trans h.up.tape,hu.output.trans h.up.output,Nat.le_trans h.up.size hu.size,fun i hi hn=>(hu.block i (Nat.lt_of_lt_of_le hi h.up.size) (fun hm=>by have:=h4 i hm;omega)).trans (h.up.block i hi hn)⟩⟩
theorem CB.below (h:CB w0 fs B b0 v c sd w) (hb:Below w.heap.size w w'):CB w0 fs B b0 v c sd w' :=
  h.upd (gs:=[]) (Upd.of_below hb) (fun q hq=>by cases hq) (fun hq=>by cases hq) (fun s hs hq=>(by cases hq)) (fun q hq=>by cases hq)
theorem CB.side (h:CB w0 fs B b0 v c sd w) (t:TypeId) (cs:List Value):CB w0 fs B b0 v c (⟨w.heap.size,t,cs⟩ :: sd) (w.alloc (.cells cs.toArray t)):=by
  have k:=h.below (bAlloc (Below.refl _ _) (.cells cs.toArray t))
  have hlt:=h.lt
  have hs:=h.up.size
  refine ⟨k.ow,k.fr,k.mv,k.nb,k.bx,k.lo,k.hB,fun s hm=>?_,k.up⟩
  rcases List.mem_cons.1 hm with rfl | hm
  · exact ⟨Own.box (heap_alloc_new w _) rfl,fun hq=>by have:=h.fr.hi _ hq;simp at this,by simp;omega,hs⟩
  · exact k.sid s hm
theorem CB.c0 (h:CB w0 fs B b0 v c sd w):w.cell? ⟨b0,0,none⟩=some (.slice v.q.A v.q.n v.q.c):=h.bx.bcell 0 _ rfl
theorem CB.c1 (h:CB w0 fs B b0 v c sd w):w.cell? ⟨b0,1,none⟩=some (.int .i64 c.base):=h.bx.bcell 1 _ rfl
theorem CB.c2 (h:CB w0 fs B b0 v c sd w):w.cell? ⟨b0,2,none⟩=some (.int .i64 c.expected):=h.bx.bcell 2 _ rfl
theorem CB.c3 (h:CB w0 fs B b0 v c sd w):w.cell? ⟨b0,3,none⟩=some (.slice v.i.A v.i.n v.i.c):=h.bx.bcell 3 _ rfl
theorem CB.c4 (h:CB w0 fs B b0 v c sd w):w.cell? ⟨b0,4,none⟩=some (.slice v.n.A v.n.n v.n.c):=h.bx.bcell 4 _ rfl
theorem CB.c5 (h:CB w0 fs B b0 v c sd w):w.cell? ⟨b0,5,none⟩=some (.slice v.a.A v.a.n v.a.c):=h.bx.bcell 5 _ rfl
theorem CB.fz (h:CB w0 fs B b0 v c sd w) (o:Nat):w.frozen? ⟨b0,o,none⟩=false:=h.bx.frozen rfl o
theorem CB.s_cell (h:CB w0 fs B b0 v c sd w) {b t:Nat} {cs:List Value} (hs:(⟨b,t,cs⟩:Side)∈sd) (j:Nat) (u:Value) (hu:cs[j]? = some u):w.cell? ⟨b,j,none⟩=some u:=(h.sid _ hs).1.bcell j u hu
theorem CB.s_fz (h:CB w0 fs B b0 v c sd w) {b t:Nat} {cs:List Value} (hs:(⟨b,t,cs⟩:Side)∈sd) (o:Nat):w.frozen? ⟨b,o,none⟩=false:=(h.sid _ hs).1.frozen rfl o
theorem CB.fin (h:CB w0 fs B b0 v c sd w) {s:Side} (hs:s∈sd) (hu:Upd [s.b] w w'):OwC w' v c∧Fresh B w' (fpC v)∧(∀ q∈fpC v,q∈fs∨w0.heap.size≤q)∧Upd fs w0 w':=by
  have H:=h.sid s hs
  have hb:=h.lo
  refine ⟨h.ow.upd hu (fun q hq hm=>by simp only [List.mem_singleton] at hm;exact H.2.1 (hm ▸ hq)),⟨h.fr.nodup,h.fr.lo,fun q hq=>Nat.lt_of_lt_of_le (h.fr.hi q hq) hu.size⟩,h.mv,⟨hu.os.trans h.up.os,hu.tape.trans h.up.tape,hu.output.trans h.up.output,Nat.le_trans h.up.size hu.size,fun i hi hn=>(hu.block i (Nat.lt_of_lt_of_le hi h.up.size) (fun hm=>by simp only [List.mem_singleton] at hm;have:=H.2.2.2;omega)).trans (h.up.block i hi hn)⟩⟩
theorem setBox {b t:Nat} {cs:List Value} {j:Nat} {u:Value} {sz:Nat} (h:Own w 0 t sz (some ⟨b,0,none⟩) 1 1 [cs]) (hj:j < sz):Own (w.setCell ⟨b,j,none⟩ u) 0 t sz (some ⟨b,0,none⟩) 1 1 [cs.set j u]:=by
  have:=(h.cell (k:=0) (j:=j) rfl hj u).1
  simpa using this
theorem CB.kept {gs:List Nat} (h:CB w0 fs B b0 v c sd w) (hu:Upd gs w w1) (hg:∀ q∈gs,q∈fpC v):(∀ o,w1.cell? ⟨b0,o,none⟩=w.cell? ⟨b0,o,none⟩)∧(∀ o,w1.frozen? ⟨b0,o,none⟩=false) :=
  ⟨fun o=>uBox hu b0 h.lt (fun hm=>h.nb (hg _ hm)) o,fun o=>(uBoxF hu b0 h.lt (fun hm=>h.nb (hg _ hm)) o).trans (h.fz o)⟩
theorem CB.s_kept {gs:List Nat} (h:CB w0 fs B b0 v c sd w) (hu:Upd gs w w1) (hg:∀ q∈gs,q∈fpC v) {b t:Nat} {cs:List Value} (hs:(⟨b,t,cs⟩:Side)∈sd):(∀ o,w1.cell? ⟨b,o,none⟩=w.cell? ⟨b,o,none⟩)∧(∀ o,w1.frozen? ⟨b,o,none⟩=false) :=
  have H:=h.sid _ hs
  ⟨fun o=>uBox hu b (h.slt hs) (fun hm=>H.2.1 (hg _ hm)) o,fun o=>(uBoxF hu b (h.slt hs) (fun hm=>H.2.1 (hg _ hm)) o).trans (h.s_fz hs o)⟩
theorem CB.kept6 {gs:List Nat} (h:CB w0 fs B b0 v c sd w) (hu:Upd gs w w1) (hg:∀ q∈gs,q∈fpC v):w1.cell? ⟨b0,0,none⟩=some (.slice v.q.A v.q.n v.q.c)∧w1.cell? ⟨b0,1,none⟩=some (.int .i64 c.base)∧w1.cell? ⟨b0,2,none⟩=some (.int .i64 c.expected)∧w1.cell? ⟨b0,3,none⟩=some (.slice v.i.A v.i.n v.i.c)∧w1.cell? ⟨b0,4,none⟩=some (.slice v.n.A v.n.n v.n.c)∧w1.cell? ⟨b0,5,none⟩=some (.slice v.a.A v.a.n v.a.c)∧(∀ o,w1.frozen? ⟨b0,o,none⟩=false)∧b0 < w1.heap.size :=
  have K:=h.kept hu hg
  ⟨(K.1 0).trans h.c0,(K.1 1).trans h.c1,(K.1 2).trans h.c2,(K.1 3).trans h.c3,(K.1 4).trans h.c4,(K.1 5).trans h.c5,K.2,Nat.lt_of_lt_of_le h.lt hu.size⟩
theorem CB.at6 (h:CB w0 fs B b0 v c sd w):w.cell? ⟨b0,0,none⟩=some (.slice v.q.A v.q.n v.q.c)∧w.cell? ⟨b0,1,none⟩=some (.int .i64 c.base)∧w.cell? ⟨b0,2,none⟩=some (.int .i64 c.expected)∧w.cell? ⟨b0,3,none⟩=some (.slice v.i.A v.i.n v.i.c)∧w.cell? ⟨b0,4,none⟩=some (.slice v.n.A v.n.n v.n.c)∧w.cell? ⟨b0,5,none⟩=some (.slice v.a.A v.a.n v.a.c)∧(∀ o,w.frozen? ⟨b0,o,none⟩=false)∧b0 < w.heap.size :=
  ⟨h.c0,h.c1,h.c2,h.c3,h.c4,h.c5,h.fz,h.lt⟩
def zC:List Value:=[.slice none 0 0,.int .i64 0,.int .i64 0,.slice none 0 0,.slice none 0 0,.slice none 0 0]
theorem CB.res6 {gs:List Nat} (h:CB w0 fs B b0 v c sd w) (hu:Upd gs w w1) (hg:∀ q∈gs,q∈fpC v) {b t:Nat} (hs:(⟨b,t,zC⟩:Side)∈sd):w1.cell? ⟨b,0,none⟩=some (.slice none 0 0)∧w1.cell? ⟨b,1,none⟩=some (.int .i64 0)∧w1.cell? ⟨b,2,none⟩=some (.int .i64 0)∧w1.cell? ⟨b,3,none⟩=some (.slice none 0 0)∧w1.cell? ⟨b,4,none⟩=some (.slice none 0 0)∧w1.cell? ⟨b,5,none⟩=some (.slice none 0 0)∧(∀ o,w1.frozen? ⟨b,o,none⟩=false)∧b < w1.heap.size :=
  have K:=h.s_kept hu hg hs
  ⟨(K.1 0).trans (h.s_cell hs 0 _ rfl),(K.1 1).trans (h.s_cell hs 1 _ rfl),(K.1 2).trans (h.s_cell hs 2 _ rfl),(K.1 3).trans (h.s_cell hs 3 _ rfl),(K.1 4).trans (h.s_cell hs 4 _ rfl),(K.1 5).trans (h.s_cell hs 5 _ rfl),K.2,Nat.lt_of_lt_of_le (h.slt hs) hu.size⟩
theorem CB.pkt4 {gs:List Nat} (h:CB w0 fs B b0 v c sd w) (hu:Upd gs w w1) (hg:∀ q∈gs,q∈fpC v) {b t:Nat} {p:Packet} (hs:(⟨b,t,p.cells⟩:Side)∈sd):w1.cell? ⟨b,0,none⟩=some (.bool p.ack)∧w1.cell? ⟨b,1,none⟩=some (.int .i64 p.number)∧w1.cell? ⟨b,2,none⟩=some (.string p.text)∧w1.cell? ⟨b,3,none⟩=some (.int .i64 p.sum)∧(∀ o,w1.frozen? ⟨b,o,none⟩=false)∧b < w1.heap.size :=
  have K:=h.s_kept hu hg hs
  ⟨(K.1 0).trans (h.s_cell hs 0 _ rfl),(K.1 1).trans (h.s_cell hs 1 _ rfl),(K.1 2).trans (h.s_cell hs 2 _ rfl),(K.1 3).trans (h.s_cell hs 3 _ rfl),K.2,Nat.lt_of_lt_of_le (h.slt hs) hu.size⟩
theorem CB.spoil (h:CB w0 fs B b0 v c sd w) {g k:Nat} (hA:v.n.A=some ⟨g,0,none⟩) {p:Packet} (hp:c.net[k]? = some p) (u:Int) :
    CB w0 fs B b0 v { c with net:=c.net.set k { p with sum:=u } } sd (w.setCell ⟨g,k * 4+3,none⟩ (.int .i64 u)):=by
  have hon:=h.ow.n
  rw [hA] at hon
  have hcs:(c.net.map Packet.cells)[k]? = some p.cells:=by rw [List.getElem?_map,hp];rfl
  obtain ⟨ho,hg⟩:=hon.cell hcs (show 3 < 4 by omega) (.int .i64 u)
  have e:(c.net.map Packet.cells).set k (p.cells.set 3 (.int .i64 u))=(c.net.set k { p with sum:=u }).map Packet.cells:=by
    rw [List.map_set];rfl
  rw [e] at ho
  have hgm:g∈fpC v:=fpC_n g (by rw [hA];simp [obl,ob])
  obtain ⟨D0,D1,D2,D3,D4,D5⟩:=fpC_nodup.1 h.fr.nodup
  have hgn:g∈obl v.n.A:=by rw [hA];simp [obl,ob]
  have hu:Upd [g] w (w.setCell ⟨g,k * 4+3,none⟩ (.int .i64 u)):=(Upd.refl _ _).set_in (by simp) _
  have hbg:b0≠g:=fun e=>h.nb (e ▸ hgm)
  refine ⟨⟨h.ow.q.upd hu (fun q hq hm=>by simp only [List.mem_singleton] at hm;subst hm;exact D1 q hq hgn),h.ow.i.upd hu (fun q hq hm=>by simp only [List.mem_singleton] at hm;subst hm;exact D3 q hq hgn),by rw [hA];exact ho,h.ow.a.upd hu (fun q hq hm=>by simp only [List.mem_singleton] at hm;subst hm;exact D5 q hgn hq)⟩,
    ⟨h.fr.nodup,h.fr.lo,fun q hq=>Nat.lt_of_lt_of_le (h.fr.hi q hq) hu.size⟩,h.mv,h.nb,h.bx.upd hu (fun q hq hm=>by simp [obl,ob] at hq;simp only [List.mem_singleton] at hm;omega),h.lo,h.hB,fun s hs=>?_,?_⟩
  · have H:=h.sid s hs
    exact ⟨H.1.upd hu (fun q hq hm=>by simp [obl,ob] at hq;simp only [List.mem_singleton] at hm;exact H.2.1 (by rw [← hq,hm];exact hgm)),H.2⟩
  · exact ⟨hu.os.trans h.up.os,hu.tape.trans h.up.tape,hu.output.trans h.up.output,Nat.le_trans h.up.size hu.size,fun i hi hn=>(hu.block i (Nat.lt_of_lt_of_le hi h.up.size) (fun hm=>by simp only [List.mem_singleton] at hm;subst hm;exact (h.mv i hgm).elim hn (fun hh=>by omega))).trans (h.up.block i hi hn)⟩
theorem spoilK_eq {l:List Packet} {k:Nat} {p:Packet} (hp:l[k]? = some p):spoilK l k=l.set k { p with sum:=IntKind.i64.wrap (p.sum+1) }:=by unfold spoilK;rw [hp]
theorem updBelow {w w':World} (h:Below w.heap.size w w') (gs:List Nat):Upd gs w w':=Upd.of_below h
theorem Moved.of_below {w w':World} {v v':Sv} {e sz:Nat} {css:List (List Value)} (h:Own w' w.heap.size e sz v'.A v'.n v'.c css):Moved w v v':=fun q hq=>.inr (h.lt q (mem_obl.1 hq)).1
theorem CB.put (h:CB w0 fs B b0 v c sd w) {j:Nat} {u:Value} {v':CV} {c':Chan} (hj:j < 6) (ho:OwC w v' c') (hf:Fresh B w (fpC v')) (hm:∀ q∈fpC v',q∈fs∨w0.heap.size≤q) (hnb:b0 ∉ fpC v') (hsd:∀ s∈sd,s.b ∉ fpC v') (hc:(cChan v c.base c.expected).set j u=cChan v' c'.base c'.expected) :
    CB w0 fs B b0 v' c' sd (w.setCell ⟨b0,j,none⟩ u):=by
  have hu:Upd [b0] w (w.setCell ⟨b0,j,none⟩ u):=(Upd.refl _ _).set_in (by simp) _
  have hx:=setBox (u:=u) h.bx hj
  rw [hc] at hx
  exact ⟨ho.upd hu (fun q hq hm=>by simp only [List.mem_singleton] at hm;exact hnb (hm ▸ hq)),⟨hf.nodup,hf.lo,fun q hq=>Nat.lt_of_lt_of_le (hf.hi q hq) hu.size⟩,hm,hnb,hx,h.lo,h.hB,fun s hs =>
    have H:=h.sid s hs
    ⟨H.1.upd hu (fun q hq hm=>by simp [obl,ob] at hq;simp only [List.mem_singleton] at hm;exact H.2.2.1 (hq ▸ hm)),hsd s hs,H.2.2⟩,
    ⟨hu.os.trans h.up.os,hu.tape.trans h.up.tape,hu.output.trans h.up.output,Nat.le_trans h.up.size hu.size,fun i hi hn=>(hu.block i (Nat.lt_of_lt_of_le hi h.up.size) (fun hm=>by simp only [List.mem_singleton] at hm;have:=h.lo;omega)).trans (h.up.block i hi hn)⟩⟩
theorem CB.exp (h:CB w0 fs B b0 v c sd w) (e:Int):CB w0 fs B b0 v { c with expected:=e } sd (w.setCell ⟨b0,2,none⟩ (.int .i64 e)) :=
  h.put (by omega) (h.ow.nums c.base e) h.fr h.mv h.nb (fun s hs=>(h.sid s hs).2.1) rfl
theorem CB.base (h:CB w0 fs B b0 v c sd w) (e:Int):CB w0 fs B b0 v { c with base:=e } sd (w.setCell ⟨b0,1,none⟩ (.int .i64 e)) :=
  h.put (by omega) (h.ow.nums e c.expected) h.fr h.mv h.nb (fun s hs=>(h.sid s hs).2.1) rfl
theorem CB.turn_q (h:CB w0 fs B b0 v c sd w) {v':Sv} {l:List ByteArray} (ho:Own w1 0 9 1 v'.A v'.n v'.c (l.map strCells)) (hu:Upd (obl v.q.A) w w1) (hv:Moved w v.q v') :
    CB w0 fs B b0 { v with q:=v' } { c with queue:=l } sd (w1.setCell ⟨b0,0,none⟩ (.slice v'.A v'.n v'.c)):=by
  have hsz:=h.up.size
  obtain ⟨h1,h2⟩:=h.ow.set_q h.fr (Nat.le_trans h.hB hsz) ho hu hv
  have hx:=h.bx.upd hu (fun q hq hm=>by simp [obl,ob] at hq;exact h.nb (fpC_q _ (hq ▸ hm)))
  have hmem:∀ q∈fpC { v with q:=v' },q∈fpC v∨w.heap.size≤q:=fun q hq=>by
    rcases fpC_mem.1 hq with k | k | k | k
    · exact (hv q k).imp (fpC_q q) id
    · exact .inl (fpC_mem.2 (.inr (.inl k)))
    · exact .inl (fpC_mem.2 (.inr (.inr (.inl k))))
    · exact .inl (fpC_mem.2 (.inr (.inr (.inr k))))
  have hu':Upd [b0] w1 (w1.setCell ⟨b0,0,none⟩ (.slice v'.A v'.n v'.c)):=(Upd.refl _ _).set_in (by simp) _
  have hx2:=setBox (j:=0) (u:=.slice v'.A v'.n v'.c) hx (by omega)
  have hnb:b0 ∉ fpC { v with q:=v' }:=fun hm=>(hmem _ hm).elim h.nb (fun hh=>by have:=h.lt;omega)
  have up1:Upd fs w0 w1:=⟨hu.os.trans h.up.os,hu.tape.trans h.up.tape,hu.output.trans h.up.output,Nat.le_trans h.up.size hu.size,fun i hi hn=>(hu.block i (Nat.lt_of_lt_of_le hi h.up.size) (fun hm=>(h.mv i (fpC_q i hm)).elim hn (fun hh=>by omega))).trans (h.up.block i hi hn)⟩
  exact ⟨h1.upd hu' (fun q hq hm=>by simp only [List.mem_singleton] at hm;exact hnb (hm ▸ hq)),⟨h2.nodup,h2.lo,fun q hq=>Nat.lt_of_lt_of_le (h2.hi q hq) hu'.size⟩,fun q hq=>(hmem q hq).elim (h.mv q) (fun hh=>.inr (by omega)),hnb,hx2,h.lo,h.hB,fun s hs =>
    have H:=h.sid s hs
    have hns:s.b ∉ fpC { v with q:=v' }:=fun hm=>(hmem _ hm).elim H.2.1 (fun hh=>by have:=h.slt hs;omega)
    ⟨(H.1.upd hu (fun q hq hm=>by simp [obl,ob] at hq;exact H.2.1 (fpC_q _ (hq ▸ hm)))).upd hu' (fun q hq hm=>by simp [obl,ob] at hq;simp only [List.mem_singleton] at hm;exact H.2.2.1 (hq ▸ hm)),hns,H.2.2⟩,
    ⟨hu'.os.trans up1.os,hu'.tape.trans up1.tape,hu'.output.trans up1.output,Nat.le_trans up1.size hu'.size,fun i hi hn=>(hu'.block i (Nat.lt_of_lt_of_le hi up1.size) (fun hm=>by simp only [List.mem_singleton] at hm;have:=h.lo;omega)).trans (up1.block i hi hn)⟩⟩
theorem CB.turn_i (h:CB w0 fs B b0 v c sd w) {v':Sv} {l:List ByteArray} (ho:Own w1 0 9 1 v'.A v'.n v'.c (l.map strCells)) (hu:Upd (obl v.i.A) w w1) (hv:Moved w v.i v') :
    CB w0 fs B b0 { v with i:=v' } { c with inbox:=l } sd (w1.setCell ⟨b0,3,none⟩ (.slice v'.A v'.n v'.c)):=by
  have hsz:=h.up.size
  obtain ⟨h1,h2⟩:=h.ow.set_i h.fr (Nat.le_trans h.hB hsz) ho hu hv
  have hx:=h.bx.upd hu (fun q hq hm=>by simp [obl,ob] at hq;exact h.nb (fpC_i _ (hq ▸ hm)))
  have hmem:∀ q∈fpC { v with i:=v' },q∈fpC v∨w.heap.size≤q:=fun q hq=>by
    rcases fpC_mem.1 hq with k | k | k | k
    · exact .inl (fpC_mem.2 (.inl k))
    · exact (hv q k).imp (fpC_i q) id
    · exact .inl (fpC_mem.2 (.inr (.inr (.inl k))))
    · exact .inl (fpC_mem.2 (.inr (.inr (.inr k))))
  have hu':Upd [b0] w1 (w1.setCell ⟨b0,3,none⟩ (.slice v'.A v'.n v'.c)):=(Upd.refl _ _).set_in (by simp) _
  have hx2:=setBox (j:=3) (u:=.slice v'.A v'.n v'.c) hx (by omega)
  have hnb:b0 ∉ fpC { v with i:=v' }:=fun hm=>(hmem _ hm).elim h.nb (fun hh=>by have:=h.lt;omega)
  have up1:Upd fs w0 w1:=⟨hu.os.trans h.up.os,hu.tape.trans h.up.tape,hu.output.trans h.up.output,Nat.le_trans h.up.size hu.size,fun i hi hn=>(hu.block i (Nat.lt_of_lt_of_le hi h.up.size) (fun hm=>(h.mv i (fpC_i i hm)).elim hn (fun hh=>by omega))).trans (h.up.block i hi hn)⟩
  exact ⟨h1.upd hu' (fun q hq hm=>by simp only [List.mem_singleton] at hm;exact hnb (hm ▸ hq)),⟨h2.nodup,h2.lo,fun q hq=>Nat.lt_of_lt_of_le (h2.hi q hq) hu'.size⟩,fun q hq=>(hmem q hq).elim (h.mv q) (fun hh=>.inr (by omega)),hnb,hx2,h.lo,h.hB,fun s hs =>
    have H:=h.sid s hs
    have hns:s.b ∉ fpC { v with i:=v' }:=fun hm=>(hmem _ hm).elim H.2.1 (fun hh=>by have:=h.slt hs;omega)
    ⟨(H.1.upd hu (fun q hq hm=>by simp [obl,ob] at hq;exact H.2.1 (fpC_i _ (hq ▸ hm)))).upd hu' (fun q hq hm=>by simp [obl,ob] at hq;simp only [List.mem_singleton] at hm;exact H.2.2.1 (hq ▸ hm)),hns,H.2.2⟩,
    ⟨hu'.os.trans up1.os,hu'.tape.trans up1.tape,hu'.output.trans up1.output,Nat.le_trans up1.size hu'.size,fun i hi hn=>(hu'.block i (Nat.lt_of_lt_of_le hi up1.size) (fun hm=>by simp only [List.mem_singleton] at hm;have:=h.lo;omega)).trans (up1.block i hi hn)⟩⟩
theorem CB.turn_n (h:CB w0 fs B b0 v c sd w) {v':Sv} {l:List Packet} (ho:Own w1 0 164 4 v'.A v'.n v'.c (l.map Packet.cells)) (hu:Upd (obl v.n.A) w w1) (hv:Moved w v.n v') :
    CB w0 fs B b0 { v with n:=v' } { c with net:=l } sd (w1.setCell ⟨b0,4,none⟩ (.slice v'.A v'.n v'.c)):=by
  have hsz:=h.up.size
  obtain ⟨h1,h2⟩:=h.ow.set_n h.fr (Nat.le_trans h.hB hsz) ho hu hv
  have hx:=h.bx.upd hu (fun q hq hm=>by simp [obl,ob] at hq;exact h.nb (fpC_n _ (hq ▸ hm)))
  have hmem:∀ q∈fpC { v with n:=v' },q∈fpC v∨w.heap.size≤q:=fun q hq=>by
    rcases fpC_mem.1 hq with k | k | k | k
    · exact .inl (fpC_mem.2 (.inl k))
    · exact .inl (fpC_mem.2 (.inr (.inl k)))
    · exact (hv q k).imp (fpC_n q) id
    · exact .inl (fpC_mem.2 (.inr (.inr (.inr k))))
  have hu':Upd [b0] w1 (w1.setCell ⟨b0,4,none⟩ (.slice v'.A v'.n v'.c)):=(Upd.refl _ _).set_in (by simp) _
  have hx2:=setBox (j:=4) (u:=.slice v'.A v'.n v'.c) hx (by omega)
  have hnb:b0 ∉ fpC { v with n:=v' }:=fun hm=>(hmem _ hm).elim h.nb (fun hh=>by have:=h.lt;omega)
  have up1:Upd fs w0 w1:=⟨hu.os.trans h.up.os,hu.tape.trans h.up.tape,hu.output.trans h.up.output,Nat.le_trans h.up.size hu.size,fun i hi hn=>(hu.block i (Nat.lt_of_lt_of_le hi h.up.size) (fun hm=>(h.mv i (fpC_n i hm)).elim hn (fun hh=>by omega))).trans (h.up.block i hi hn)⟩
  exact ⟨h1.upd hu' (fun q hq hm=>by simp only [List.mem_singleton] at hm;exact hnb (hm ▸ hq)),⟨h2.nodup,h2.lo,fun q hq=>Nat.lt_of_lt_of_le (h2.hi q hq) hu'.size⟩,fun q hq=>(hmem q hq).elim (h.mv q) (fun hh=>.inr (by omega)),hnb,hx2,h.lo,h.hB,fun s hs =>
    have H:=h.sid s hs
    have hns:s.b ∉ fpC { v with n:=v' }:=fun hm=>(hmem _ hm).elim H.2.1 (fun hh=>by have:=h.slt hs;omega)
    ⟨(H.1.upd hu (fun q hq hm=>by simp [obl,ob] at hq;exact H.2.1 (fpC_n _ (hq ▸ hm)))).upd hu' (fun q hq hm=>by simp [obl,ob] at hq;simp only [List.mem_singleton] at hm;exact H.2.2.1 (hq ▸ hm)),hns,H.2.2⟩,
    ⟨hu'.os.trans up1.os,hu'.tape.trans up1.tape,hu'.output.trans up1.output,Nat.le_trans up1.size hu'.size,fun i hi hn=>(hu'.block i (Nat.lt_of_lt_of_le hi up1.size) (fun hm=>by simp only [List.mem_singleton] at hm;have:=h.lo;omega)).trans (up1.block i hi hn)⟩⟩
theorem CB.turn_a (h:CB w0 fs B b0 v c sd w) {v':Sv} {l:List Packet} (ho:Own w1 0 164 4 v'.A v'.n v'.c (l.map Packet.cells)) (hu:Upd (obl v.a.A) w w1) (hv:Moved w v.a v') :
    CB w0 fs B b0 { v with a:=v' } { c with acks:=l } sd (w1.setCell ⟨b0,5,none⟩ (.slice v'.A v'.n v'.c)):=by
  have hsz:=h.up.size
  obtain ⟨h1,h2⟩:=h.ow.set_a h.fr (Nat.le_trans h.hB hsz) ho hu hv
  have hx:=h.bx.upd hu (fun q hq hm=>by simp [obl,ob] at hq;exact h.nb (fpC_a _ (hq ▸ hm)))
  have hmem:∀ q∈fpC { v with a:=v' },q∈fpC v∨w.heap.size≤q:=fun q hq=>by
    rcases fpC_mem.1 hq with k | k | k | k
    · exact .inl (fpC_mem.2 (.inl k))
    · exact .inl (fpC_mem.2 (.inr (.inl k)))
    · exact .inl (fpC_mem.2 (.inr (.inr (.inl k))))
    · exact (hv q k).imp (fpC_a q) id
  have hu':Upd [b0] w1 (w1.setCell ⟨b0,5,none⟩ (.slice v'.A v'.n v'.c)):=(Upd.refl _ _).set_in (by simp) _
  have hx2:=setBox (j:=5) (u:=.slice v'.A v'.n v'.c) hx (by omega)
  have hnb:b0 ∉ fpC { v with a:=v' }:=fun hm=>(hmem _ hm).elim h.nb (fun hh=>by have:=h.lt;omega)
  have up1:Upd fs w0 w1:=⟨hu.os.trans h.up.os,hu.tape.trans h.up.tape,hu.output.trans h.up.output,Nat.le_trans h.up.size hu.size,fun i hi hn=>(hu.block i (Nat.lt_of_lt_of_le hi h.up.size) (fun hm=>(h.mv i (fpC_a i hm)).elim hn (fun hh=>by omega))).trans (h.up.block i hi hn)⟩
  exact ⟨h1.upd hu' (fun q hq hm=>by simp only [List.mem_singleton] at hm;exact hnb (hm ▸ hq)),⟨h2.nodup,h2.lo,fun q hq=>Nat.lt_of_lt_of_le (h2.hi q hq) hu'.size⟩,fun q hq=>(hmem q hq).elim (h.mv q) (fun hh=>.inr (by omega)),hnb,hx2,h.lo,h.hB,fun s hs =>
    have H:=h.sid s hs
    have hns:s.b ∉ fpC { v with a:=v' }:=fun hm=>(hmem _ hm).elim H.2.1 (fun hh=>by have:=h.slt hs;omega)
    ⟨(H.1.upd hu (fun q hq hm=>by simp [obl,ob] at hq;exact H.2.1 (fpC_a _ (hq ▸ hm)))).upd hu' (fun q hq hm=>by simp [obl,ob] at hq;simp only [List.mem_singleton] at hm;exact H.2.2.1 (hq ▸ hm)),hns,H.2.2⟩,
    ⟨hu'.os.trans up1.os,hu'.tape.trans up1.tape,hu'.output.trans up1.output,Nat.le_trans up1.size hu'.size,fun i hi hn=>(hu'.block i (Nat.lt_of_lt_of_le hi up1.size) (fun hm=>by simp only [List.mem_singleton] at hm;have:=h.lo;omega)).trans (up1.block i hi hn)⟩⟩
end
end Go.Proofs.YtdfemnffpaopfaaGreatDoor


namespace Go.Proofs.YtdfemnffpaopfaaGreatDoor
open Go.RowKit
set_option linter.unusedVariables false
set_option linter.unusedSimpArgs false
set_option maxHeartbeats 4000000
set_option maxRecDepth 100000

end Go.Proofs.YtdfemnffpaopfaaGreatDoor
