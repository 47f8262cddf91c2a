/- Texts of this proof, one behind the other: PsEnt, PrsJ, PsJrn. -/
import Derived.Test.YtdfemnffpaopfaaGreatDoorGrs8
import Derived.Test.YtdfemnffpaopfaaGreatDoorGrs28
import Derived.Test.YtdfemnffpaopfaaGreatDoorGrs31
namespace Go.Proofs.YtdfemnffpaopfaaGreatDoor
open Go.RowKit
set_option linter.unusedVariables false
set_option linter.unusedSimpArgs false
set_option maxHeartbeats 4000000
set_option maxRecDepth 100000
def TabJ (w:World):Prop:=TabE w∧∃ m,w.cell? ⟨0,0,none⟩=some (.int .i64 m)
theorem TabJ.below {w w':World} (h:TabJ w) (hb:Below w.heap.size w w'):TabJ w':=by
  obtain ⟨h1,m,h2⟩:=h
  exact ⟨h1.below hb,m,bCell hb h2⟩
def vEntryE (e:Entry):Value:=vEntry e.remove e.id e.factor.id e.factor.kind e.factor.frm e.factor.to e.factor.pose.turn e.factor.pose.x e.factor.pose.y e.factor.weight
def entOk (e:Entry):Prop:=e.factor.frm.size≤4194304∧e.factor.to.size≤4194304∧-9223372036854775808≤e.id∧e.id≤9223372036854775807
def EntRes (ln:List UInt8) (w:World) (e:Ending) (w':World):Prop :=
  ∃ (en:Entry) (ok:Bool),e=.returned (.tuple #[vEntryE en,.bool ok])∧entOk en∧(∀ p g,EntOf ln p g→g=en∧ok=true)∧Below w.heap.size w w'
theorem pre_app (q r:List UInt8):Lib.hasPrefix (q++r) q=true∧Lib.trimPrefix (q++r) q=r:=by
  have h:Lib.hasPrefix (q++r) q=true:=by unfold Lib.hasPrefix;rw [List.isPrefixOf_iff_prefix];exact List.prefix_append _ _
  exact ⟨h,by unfold Lib.trimPrefix;rw [if_pos h];simp⟩
theorem pre_rem (r:List UInt8):Lib.hasPrefix (remL++r) addL=false:=by
  simp [Lib.hasPrefix,remL,addL,List.isPrefixOf]
theorem par_no {ln A B:List UInt8} (hc:Lib.cut ln [32,35]=(A,B,false)) (p:Int) (g:Entry):¬ EntOf ln p g:=by
  intro h
  rw [ent_cut h] at hc
  simp at hc
theorem par_add {ln A B:List UInt8} (hc:Lib.cut ln [32,35]=(A,B,true)) (ha:Lib.hasPrefix A addL=true) {p:Int} {g:Entry} (h:EntOf ln p g):∃ f,g=⟨false,0,f⟩∧psFac ⟨(Lib.trimPrefix A addL).toArray⟩=some f:=by
  rw [ent_cut h] at hc
  have e1:A=entL g:=(Prod.mk.inj hc).1.symm
  rcases ent_kinds h.1 with ⟨f,hg,hv,he⟩ | ⟨n,hg,hn,he⟩
  · refine ⟨f,hg,psFac_some ⟨hv,?_⟩⟩
    rw [e1,he,(pre_app addL (facL f)).2]
  · rw [e1,he,pre_rem] at ha;cases ha
theorem par_rem {ln A B:List UInt8} (hc:Lib.cut ln [32,35]=(A,B,true)) (ha:Lib.hasPrefix A addL=false) {p:Int} {g:Entry} (h:EntOf ln p g):∃ n,g=⟨true,n,zFac⟩∧Lib.hasPrefix A remL=true∧psI ⟨(Lib.trimPrefix A remL).toArray⟩=some n:=by
  rw [ent_cut h] at hc
  have e1:A=entL g:=(Prod.mk.inj hc).1.symm
  rcases ent_kinds h.1 with ⟨f,hg,hv,he⟩ | ⟨n,hg,hn,he⟩
  · rw [e1,he,(pre_app addL (facL f)).1] at ha;cases ha
  · obtain ⟨q1,q2⟩:=pre_app remL (Lib.itoa n)
    refine ⟨n,hg,by rw [e1,he];exact q1,psI_some (by omega) (by omega) ?_⟩
    rw [e1,he,q2];rfl
theorem cut_len (ln sep:List UInt8):(Lib.cut ln sep).1.length≤ln.length:=by
  unfold Lib.cut
  split
  · simp only [List.length_take];omega
  · exact Nat.le_refl _
theorem trim_len (l p:List UInt8):(Lib.trimPrefix l p).length≤l.length:=by
  unfold Lib.trimPrefix
  split
  · rw [List.length_drop];omega
  · exact Nat.le_refl _
theorem b10 {a w:World} (h:Below a.heap.size a w) {b:Nat} (hb:a.heap.size≤b) (u0 u1 u2 u3 u4 u5 u6 u7 u8 u9:Value):Below a.heap.size a ((((((((((w.setCell ⟨b,0,none⟩ u0).setCell ⟨b,1,none⟩ u1).setCell ⟨b,2,none⟩ u2).setCell ⟨b,3,none⟩ u3).setCell ⟨b,4,none⟩ u4).setCell ⟨b,5,none⟩ u5).setCell ⟨b,6,none⟩ u6).setCell ⟨b,7,none⟩ u7).setCell ⟨b,8,none⟩ u8).setCell ⟨b,9,none⟩ u9):=bSet (bSet (bSet (bSet (bSet (bSet (bSet (bSet (bSet (bSet h hb u0) hb u1) hb u2) hb u3) hb u4) hb u5) hb u6) hb u7) hb u8) hb u9
theorem zFac_ok (r:Bool) {n:Int} (h0:-9223372036854775808≤n) (h1:n≤9223372036854775807):entOk ⟨r,n,zFac⟩:=⟨by show (0:Nat)≤4194304;omega,by show (0:Nat)≤4194304;omega,h0,h1⟩
theorem impl_parseEntry_c (s:ByteArray) (w:World) (hs:s.size≤4194304) (hT:TabJ w):Calls Tryz.prog 133 #[.string s] w fun e w'=>EntRes s.data.toList w e w':=by
  obtain ⟨hTE,mm,hmm⟩:=hT
  have HT:=Lib.hid hTE
  have hM:=bCell (bAlloc (Below.refl _ _) (.cells #[.bool false,.int .i64 0,.int .i64 0,.int .i64 0,.string ⟨#[]⟩,.string ⟨#[]⟩,.int .i64 0,.int .i64 0,.int .i64 0,.int .i64 0] 42)) hmm
  have HM:=Lib.hid hM
  obtain ⟨A,B,fd,hcut⟩:∃ A B fd,Lib.cut s.data.toList [32,35]=(A,B,fd):=⟨_,_,_,rfl⟩
  have hsl:s.data.toList.length=s.size:=by simp
  have hAl:A.length≤s.size:=by have:=cut_len s.data.toList [32,35];rw [hcut] at this;simp only at this;omega
  have hAs:(⟨A.toArray⟩:ByteArray).size=A.length:=by rw [bsz]
  have HC:=Lib.hid hcut
  clear hTE hmm hM hcut
  go_enter Tryz.func133,Tryz.ntmps133
  go_wp2_with fail
  refine Calls.mono (YtdfemnffpaopfaaGreatDoor.strings_Cut s _ mm _ (by omega) HM.out) ?_
  rw [show Lib.cut s.data.toList (ByteArray.mk #[32,35]).data.toList=(A,B,fd) from HC.out]
  rintro e w1_ ⟨rfl,nd,hw1⟩
  have bx1:Bk w1_ w.heap.size 42 [.bool false,.int .i64 0,.int .i64 0,.int .i64 0,.string ⟨#[]⟩,.string ⟨#[]⟩,.int .i64 0,.int .i64 0,.int .i64 0,.int .i64 0]:=by rw [hw1];exact (Bk.new w [.bool false,.int .i64 0,.int .i64 0,.int .i64 0,.string ⟨#[]⟩,.string ⟨#[]⟩,.int .i64 0,.int .i64 0,.int .i64 0,.int .i64 0] 42 _ rfl).below (bDrewN (Below.refl _ _) nd)
  have B1:Below w.heap.size w w1_:=by rw [hw1];exact bDrewN (bAlloc (Below.refl _ _) (.cells #[.bool false,.int .i64 0,.int .i64 0,.int .i64 0,.string ⟨#[]⟩,.string ⟨#[]⟩,.int .i64 0,.int .i64 0,.int .i64 0,.int .i64 0] 42)) nd
  have HT1:=Lib.hid (HT.out.below B1)
  clear hw1 HM HT
  cases fd with
  | false =>
    have HN:=Lib.hid (par_no HC.out)
    have r0:=bx1.bx.cells 0 _ rfl;have r1:=bx1.bx.cells 1 _ rfl;have r2:=bx1.bx.cells 2 _ rfl;have r3:=bx1.bx.cells 3 _ rfl;have r4:=bx1.bx.cells 4 _ rfl;have r5:=bx1.bx.cells 5 _ rfl;have r6:=bx1.bx.cells 6 _ rfl;have r7:=bx1.bx.cells 7 _ rfl;have r8:=bx1.bx.cells 8 _ rfl;have r9:=bx1.bx.cells 9 _ rfl;have rf:=bx1.bx.froz;have rz:=bx1.lt
    go_wp2_with fail
    refine bodyPost_ret (v:=.tuple #[vEntryE (⟨false,0,zFac⟩),.bool false]) (by simp [*,vEntryE,zFac,results,Tryz.results133,go_sem]) rfl ⟨⟨false,0,zFac⟩,false,rfl,?_,?_,?_⟩
    · exact zFac_ok _ (by omega) (by omega)
    · intro p g h;exact absurd h (HN.out p g)
    · exact b10 B1 (Nat.le_refl _) _ _ _ _ _ _ _ _ _ _
  | true =>
    cases hpa:Lib.hasPrefix A addL with
    | true =>
      have HPA:=Lib.hid (fun p g h=>par_add HC.out hpa (p:=p) (g:=g) h)
      have HP:=Lib.hid hpa
      obtain ⟨rest,hrest⟩:∃ x,x=(⟨(Lib.trimPrefix A addL).toArray⟩:ByteArray):=⟨_,rfl⟩
      have hrs:rest.size≤s.size:=by rw [hrest,bsz];have:=trim_len A addL;omega
      rw [← hrest] at HPA
      have HR:=Lib.hid hrest
      clear hpa hrest
      go_wp2_with fail
      refine Calls.mono (YtdfemnffpaopfaaGreatDoor.strings_CutPrefix ⟨A.toArray⟩ _ _) ?_
      rw [show (ByteArray.mk #[97,100,100,32]).data.toList=addL from rfl,show (ByteArray.mk A.toArray).data.toList=A from List.toList_toArray ..,← HR.out,HP.out]
      rintro e w2_ ⟨rfl,hw2⟩
      subst hw2
      go_wp2_with fail
      refine Calls.mono (impl_ParseFactor_c rest _ (by omega) HT1.out) ?_
      rintro e w3_ ⟨rfl,hb3⟩
      have bx3:=bx1.below hb3
      have B3:=bTrans B1 hb3
      clear hb3 bx1 B1
      cases hpf:psFac rest with
      | none =>
        rw [show vFacO none=.tuple #[vFactor 0 0 ⟨#[]⟩ ⟨#[]⟩ 0 0 0 0,.bool false] from rfl]
        have HN:=Lib.hid (show ∀ p g,¬ EntOf s.data.toList p g from fun p g h=>by obtain ⟨f,_,hf⟩:=HPA.out p g h;rw [hpf] at hf;cases hf)
        have bx4:=bx3.alloc_ (.cells #[.int .i64 0,.int .i64 0,.string ⟨#[]⟩,.string ⟨#[]⟩,.int .i64 0,.int .i64 0,.int .i64 0,.int .i64 0] 34)
        have r0:=bx4.bx.cells 0 _ rfl;have r1:=bx4.bx.cells 1 _ rfl;have r2:=bx4.bx.cells 2 _ rfl;have r3:=bx4.bx.cells 3 _ rfl;have r4:=bx4.bx.cells 4 _ rfl;have r5:=bx4.bx.cells 5 _ rfl;have r6:=bx4.bx.cells 6 _ rfl;have r7:=bx4.bx.cells 7 _ rfl;have r8:=bx4.bx.cells 8 _ rfl;have r9:=bx4.bx.cells 9 _ rfl;have rf:=bx4.bx.froz;have rz:=bx4.lt
        clear hpf
        go_wp2_with fail
        refine bodyPost_ret (v:=.tuple #[vEntryE (⟨false,0,zFac⟩),.bool false]) (by simp [*,vEntryE,zFac,results,Tryz.results133,go_sem]) rfl ⟨⟨false,0,zFac⟩,false,rfl,?_,?_,?_⟩
        · exact zFac_ok _ (by omega) (by omega)
        · intro p g h;exact absurd h (HN.out p g)
        · exact b10 (bAlloc B3 _) (Nat.le_refl _) _ _ _ _ _ _ _ _ _ _
      | some f =>
        rw [show vFacO (some f)=.tuple #[vFactor f.id f.kind f.frm f.to f.pose.turn f.pose.x f.pose.y f.weight,.bool true] from rfl]
        have HN:=Lib.hid (show ∀ p g,EntOf s.data.toList p g→g=⟨false,0,f⟩∧true=true from fun p g h=>by obtain ⟨f',hg,hf⟩:=HPA.out p g h;rw [hpf] at hf;injection hf with hf;rw [hg,hf];exact ⟨rfl,rfl⟩)
        have HSZ:=Lib.hid (vld_sz (psFac_text hpf).1)
        have bx4:=bx3.alloc_ (.cells #[.int .i64 f.id,.int .i64 f.kind,.string f.frm,.string f.to,.int .i64 f.pose.turn,.int .i64 f.pose.x,.int .i64 f.pose.y,.int .i64 f.weight] 34)
        have r0:=bx4.bx.cells 0 _ rfl;have r1:=bx4.bx.cells 1 _ rfl;have r2:=bx4.bx.cells 2 _ rfl;have r3:=bx4.bx.cells 3 _ rfl;have r4:=bx4.bx.cells 4 _ rfl;have r5:=bx4.bx.cells 5 _ rfl;have r6:=bx4.bx.cells 6 _ rfl;have r7:=bx4.bx.cells 7 _ rfl;have r8:=bx4.bx.cells 8 _ rfl;have r9:=bx4.bx.cells 9 _ rfl;have rf:=bx4.bx.froz;have rz:=bx4.lt
        clear hpf
        go_wp2_with fail
        refine bodyPost_ret (v:=.tuple #[vEntryE (⟨false,0,f⟩),.bool true]) (by simp [*,vEntryE,zFac,results,Tryz.results133,go_sem]) rfl ⟨⟨false,0,f⟩,true,rfl,?_,?_,?_⟩
        · exact ⟨HSZ.out.1,HSZ.out.2,by show (-9223372036854775808:Int)≤0;omega,by show (0:Int)≤_;omega⟩
        · intro p g h;exact ⟨(HN.out p g h).1,rfl⟩
        · exact b10 (bAlloc B3 _) (Nat.le_refl _) _ _ _ _ _ _ _ _ _ _
    | false =>
      have HPA:=Lib.hid (fun p g h=>par_rem HC.out hpa (p:=p) (g:=g) h)
      have HP:=Lib.hid hpa
      obtain ⟨rest,hrest⟩:∃ x,x=(⟨(Lib.trimPrefix A remL).toArray⟩:ByteArray):=⟨_,rfl⟩
      obtain ⟨hp2,hhp2⟩:∃ x,x=Lib.hasPrefix A remL:=⟨_,rfl⟩
      obtain ⟨rst0,hrst0⟩:∃ x,x=(⟨(Lib.trimPrefix A addL).toArray⟩:ByteArray):=⟨_,rfl⟩
      have hrs:rest.size≤s.size:=by rw [hrest,bsz];have:=trim_len A remL;omega
      rw [← hrest,← hhp2] at HPA
      have HR:=Lib.hid hrest
      have HR0:=Lib.hid hrst0
      have HH:=Lib.hid hhp2
      clear hpa hrest hrst0 hhp2
      go_wp2_with fail
      refine Calls.mono (YtdfemnffpaopfaaGreatDoor.strings_CutPrefix ⟨A.toArray⟩ _ _) ?_
      rw [show (ByteArray.mk #[97,100,100,32]).data.toList=addL from rfl,show (ByteArray.mk A.toArray).data.toList=A from List.toList_toArray ..,← HR0.out,HP.out]
      rintro e w2_ ⟨rfl,hw2⟩
      subst hw2
      go_wp2_with fail
      refine Calls.mono (YtdfemnffpaopfaaGreatDoor.strings_CutPrefix ⟨A.toArray⟩ _ _) ?_
      rw [show (ByteArray.mk #[114,101,109,111,118,101,32]).data.toList=remL from rfl,show (ByteArray.mk A.toArray).data.toList=A from List.toList_toArray ..,← HR.out,← HH.out]
      rintro e w2_ ⟨rfl,hw2⟩
      subst hw2
      go_wp2_with fail
      refine Calls.mono (impl_ParseInt_c rest _ (by omega) HT1.out) ?_
      rintro e w3_ ⟨rfl,hb3⟩
      have bx3:=bx1.below hb3
      have B3:=bTrans B1 hb3
      clear hb3 bx1 B1
      have hrg:=psI_rng rest
      have HV:=Lib.hid (vPair_eq (psI rest))
      have HN:=Lib.hid (show ∀ p g,EntOf s.data.toList p g→g=⟨true,(psI rest).getD 0,zFac⟩∧hp2=true∧(psI rest).isSome=true from fun p g h=>by obtain ⟨n,hg,h1,h2⟩:=HPA.out p g h;rw [h2,hg];exact ⟨rfl,h1,rfl⟩)
      rw [HV.out]
      clear HV HPA
      generalize (psI rest).getD 0=n at *
      generalize (psI rest).isSome=o at *
      have r0:=bx3.bx.cells 0 _ rfl;have r1:=bx3.bx.cells 1 _ rfl;have r2:=bx3.bx.cells 2 _ rfl;have r3:=bx3.bx.cells 3 _ rfl;have r4:=bx3.bx.cells 4 _ rfl;have r5:=bx3.bx.cells 5 _ rfl;have r6:=bx3.bx.cells 6 _ rfl;have r7:=bx3.bx.cells 7 _ rfl;have r8:=bx3.bx.cells 8 _ rfl;have r9:=bx3.bx.cells 9 _ rfl;have rf:=bx3.bx.froz;have rz:=bx3.lt
      cases hp2 <;> cases o
      · go_wp2_with fail
        refine bodyPost_ret (v:=.tuple #[vEntryE (⟨true,n,zFac⟩),.bool false]) (by simp [*,vEntryE,zFac,results,Tryz.results133,go_sem]) rfl ⟨⟨true,n,zFac⟩,false,rfl,?_,?_,?_⟩
        · exact zFac_ok _ (by omega) (by omega)
        · intro p g h;obtain ⟨_,h1,_⟩:=HN.out p g h;cases h1
        · exact b10 B3 (Nat.le_refl _) _ _ _ _ _ _ _ _ _ _
      · go_wp2_with fail
        refine bodyPost_ret (v:=.tuple #[vEntryE (⟨true,n,zFac⟩),.bool false]) (by simp [*,vEntryE,zFac,results,Tryz.results133,go_sem]) rfl ⟨⟨true,n,zFac⟩,false,rfl,?_,?_,?_⟩
        · exact zFac_ok _ (by omega) (by omega)
        · intro p g h;obtain ⟨_,h1,_⟩:=HN.out p g h;cases h1
        · exact b10 B3 (Nat.le_refl _) _ _ _ _ _ _ _ _ _ _
      · go_wp2_with fail
        refine bodyPost_ret (v:=.tuple #[vEntryE (⟨true,n,zFac⟩),.bool false]) (by simp [*,vEntryE,zFac,results,Tryz.results133,go_sem]) rfl ⟨⟨true,n,zFac⟩,false,rfl,?_,?_,?_⟩
        · exact zFac_ok _ (by omega) (by omega)
        · intro p g h;obtain ⟨_,_,h1⟩:=HN.out p g h;cases h1
        · exact b10 B3 (Nat.le_refl _) _ _ _ _ _ _ _ _ _ _
      · go_wp2_with fail
        refine bodyPost_ret (v:=.tuple #[vEntryE (⟨true,n,zFac⟩),.bool true]) (by simp [*,vEntryE,zFac,results,Tryz.results133,go_sem]) rfl ⟨⟨true,n,zFac⟩,true,rfl,?_,?_,?_⟩
        · exact zFac_ok _ (by omega) (by omega)
        · intro p g h;exact ⟨(HN.out p g h).1,rfl⟩
        · exact b10 B3 (Nat.le_refl _) _ _ _ _ _ _ _ _ _ _
theorem entSum_in (e:Entry) (p:Int):inR (entSum e p) 0 65520=true:=by
  rw [inR_iff]
  exact entSum_bound e p
def jrnL:List Entry→Int→List UInt8
  | [],_=>[]
  | e :: l,p=>(entT e p).data.toList++jrnL l (entSum e p)
def sumL:List Entry→Int→Int
  | [],p=>p
  | e :: l,p=>sumL l (entSum e p)
theorem jrnL_app:∀ (l m:List Entry) (p:Int),jrnL (l++m) p=jrnL l p++jrnL m (sumL l p)
  | [],m,p=>rfl
  | e :: l,m,p=>by
    show _++jrnL (l++m) _=(_++jrnL l _)++_
    rw [jrnL_app l m,List.append_assoc];rfl
theorem ent_line {e:Entry} {p:Int} (h:vldEntry e=true) (hp:inR p 0 65520=true):∃ ln,EntOf ln p e :=
  ⟨entL e++32 :: 35 :: Lib.itoa (entSum e p),h,hp,by unfold entT;simp⟩
theorem no_pfx {r:List UInt8} {p q:Int} (h:∀ x∈r,isB 10 x=false) (e:Entry):¬ PfxOf r p e:=by
  intro hp
  have:=h 10 (pfx_nl hp)
  revert this;decide
theorem bsize (s:ByteArray):s.data.toList.length=s.size:=by simp
theorem rdj_take:∀ (l:List Entry) (p:Int) (f k:Nat),(∀ e∈l,vldEntry e=true)→inR p 0 65520=true→l.length≤f →
    ∃ m,m≤l.length∧rdj f ((jrnL l p).take k) p=(l.take m,(jrnL (l.take m) p).length,sumL (l.take m) p)∧(jrnL (l.take m) p).length≤k∧((jrnL l p).length≤k→m=l.length)
  | [],p,f,k,_,_,_=>by
    refine ⟨0,Nat.le_refl _,?_,by simp [jrnL],fun _=>rfl⟩
    rw [rdj_none (no_pfx (q:=0) (by simp [jrnL]))]
    simp [jrnL,sumL]
  | e :: l,p,f,k,h,hp,hf=>by
    obtain ⟨f,rfl⟩:∃ g,f=g+1:=⟨f - 1,by simp at hf;omega⟩
    obtain ⟨ln,hln⟩:=ent_line (h e (by simp)) hp
    have hsz:=ent_size hln
    have hdl:=bsize (entT e p)
    by_cases hk:(entT e p).size≤k
    · have ht:(jrnL (e :: l) p).take k=(entT e p).data.toList++(jrnL l (entSum e p)).take (k - (entT e p).size):=by
        show ((entT e p).data.toList++jrnL l (entSum e p)).take k = _
        rw [List.take_append,List.take_of_length_le (by omega),hdl]
      obtain ⟨m,hm,hr,hl,hw⟩:=rdj_take l (entSum e p) f (k - (entT e p).size) (fun g hg=>h g (by simp [hg])) (entSum_in e p) (by simp at hf;omega)
      refine ⟨m+1,by simp;omega,?_,?_,?_⟩
      · rw [rdj_some (e:=e) ⟨h e (by simp),hp,_,ht⟩,ht,List.drop_append,List.drop_of_length_le (by omega),hdl,Nat.sub_self,List.drop_zero,List.nil_append,hr]
        simp only [List.take_succ_cons,jrnL,sumL,List.length_append,hdl]
      · simp only [List.take_succ_cons,jrnL,List.length_append,hdl];omega
      · intro hle
        simp only [jrnL,List.length_append,hdl] at hle
        rw [hw (by omega)];rfl
    · refine ⟨0,Nat.zero_le _,?_,by simp [jrnL],?_⟩
      · have ht:(jrnL (e :: l) p).take k=ln.take k:=by
          show ((entT e p).data.toList++jrnL l (entSum e p)).take k = _
          rw [hln.2.2,List.take_append,List.take_append]
          have e1:k - ln.length=0:=by omega
          have e2:k - (ln++[10]).length=0:=by simp;omega
          rw [e1,e2];simp
        rw [ht,rdj_none (no_pfx (q:=0) fun x hx=>ent_no10 hln x (List.mem_of_mem_take hx))]
        simp [jrnL,sumL]
      · intro hle
        exfalso
        simp only [jrnL,List.length_append,hdl] at hle
        omega
theorem rdj_all {l:List Entry} (h:∀ e∈l,vldEntry e=true) (hl:l.length≤60):rdj 60 (jrnL l 1) 1=(l,(jrnL l 1).length,sumL l 1):=by
  obtain ⟨m,hm,hr,_,hw⟩:=rdj_take l 1 60 (jrnL l 1).length h (by decide) hl
  rw [List.take_of_length_le (Nat.le_refl _)] at hr
  rw [hw (Nat.le_refl _),List.take_of_length_le (Nat.le_refl _)] at hr
  exact hr
theorem info_EntryJ:(Tryz.prog.info? 42).map (fun i=>(i.zero,i.size,i.bytes))=some (some (.agg #[.bool false,.int .i64 0,.int .i64 0,.int .i64 0,.string ByteArray.empty,.string ByteArray.empty,.int .i64 0,.int .i64 0,.int .i64 0,.int .i64 0]),10,96):=by kernel_rfl
def lenV:Value→Nat | .slice _ n _=>n | _=>0
def RjPost (w:World) (s:ByteArray) (e:Ending) (w':World):Prop :=
  ∃ v:Sv,e=.returned (.tuple #[.slice v.A v.n v.c,.int .i64 ((rdj 60 s.data.toList 1).2.1:Int),.int .i64 (rdj 60 s.data.toList 1).2.2])∧OwN w' v (rdj 60 s.data.toList 1).1∧Fresh w.heap.size w' (fpN v)∧Below w.heap.size w w'
theorem idx_nl:∀ r:List UInt8,(Lib.indexByte r 10 = -1∧∀ x∈r,isB 10 x=false)∨∃ ln t,r=ln++10 :: t∧(∀ x∈ln,isB 10 x=false)∧Lib.indexByte r 10=(ln.length:Int)
  | []=>.inl ⟨rfl,by simp⟩
  | b :: r=>by
    by_cases hb:b=10
    · subst hb
      exact .inr ⟨[],r,rfl,by simp,by simp [Lib.indexByte]⟩
    · have hbq:(b == 10)=false:=by simpa using hb
      rcases idx_nl r with ⟨h1,h2⟩ | ⟨ln,t,h1,h2,h3⟩
      · refine .inl ⟨by rw [Lib.indexByte,hbq,h1];rfl,fun x hx=>?_⟩
        rcases List.mem_cons.1 hx with rfl | hx
        · exact hbq
        · exact h2 x hx
      · refine .inr ⟨b :: ln,t,by rw [h1];rfl,fun x hx=>?_,?_⟩
        · rcases List.mem_cons.1 hx with rfl | hx
          · exact hbq
          · exact h2 x hx
        · rw [Lib.indexByte,hbq,h3]
          have:((ln.length:Int) == -1)=false:=by simp
          rw [this];simp
theorem line_yes {ln t:List UInt8} {q:Int} {en:Entry} {full:ByteArray} (hf:full.data.toList=ln++[10]) (hE:EntOf ln q en):fmtEnt en q=(entT en q,entSum en q)∧((fmtEnt en q).1.toList == full.toList)=true∧PfxOf (ln++10 :: t) q en∧(entT en q).size=ln.length+1∧(fmtEnt en q).1.toList.isEmpty=false:=by
  have h1:fmtEnt en q=(entT en q,entSum en q):=by unfold fmtEnt;rw [hE.1,hE.2.1];rfl
  have h2:entT en q=full:=bext (hE.2.2.trans hf.symm)
  refine ⟨h1,by rw [h1,h2];simp,ln_pfx hE,ent_size hE,?_⟩
  rw [h1,h2,ByteArray.toList_eq,hf];simp
theorem line_no {ln t:List UInt8} {q:Int} {en:Entry} {full:ByteArray} {ok:Bool} (hl:∀ x∈ln,isB 10 x=false) (hf:full.data.toList=ln++[10]) (hp:∀ p g,EntOf ln p g→g=en∧ok=true) (hE:¬ (EntOf ln q en∧ok=true)):(∀ g,¬ PfxOf (ln++10 :: t) q g)∧(ok=true→((fmtEnt en q).1.toList == full.toList)=false):=by
  constructor
  · intro g hg
    have h:=pfx_at hl hg
    obtain ⟨rfl,ho⟩:=hp _ _ h
    exact hE ⟨h,ho⟩
  · intro ho
    rw [Bool.eq_false_iff]
    intro h
    have h2:=toL_inj (eq_of_beq h)
    unfold fmtEnt at h2
    by_cases hv:(vldEntry en && inR q 0 65520)=true
    · rw [if_pos hv] at h2
      rw [Bool.and_eq_true] at hv
      exact hE ⟨⟨hv.1,hv.2,by rw [show (entT en q,entSum en q).1=entT en q from rfl] at h2;rw [h2];exact hf⟩,ho⟩
    · rw [if_neg hv] at h2
      have:=congrArg (fun x=>x.data.toList) h2
      rw [hf] at this
      simp at this
theorem impl_readJournal_c (s:ByteArray) (w:World) (hs:s.size≤4194304) (hT:TabJ w):Calls Tryz.prog 87 #[.string s] w fun e w'=>RjPost w s e w':=by
  obtain ⟨i0,hii,hq0,hq1,hq2⟩:=info_parts info_EntryJ
  have HT:=Lib.hid hT
  have hsl:s.data.toList.length=s.size:=by simp
  clear hT
  go_enter Tryz.func87,Tryz.ntmps87
  go_wp2_with fail
  go_loopw [5,6,7] (fun lv nv qv wr=>∃ (l:List Entry) (A:Option Addr) (c n:Nat) (q:Int),lv=.slice A l.length c∧nv=.int .i64 (n:Int)∧qv=.int .i64 q∧RjInv s.data.toList l n q∧inR q 0 65520=true∧Own wr w.heap.size 42 10 A l.length c (l.map Entry.cells)∧Below w.heap.size w wr) (fun lv _ _ _=>60 - lenV lv)
  case atStart=>exact ⟨[],_,0,0,1,rfl,rfl,rfl,RjInv.start _,by decide,Own.made0 w _ 10 (Nat.le_refl _),bAlloc (Below.refl _ _) _⟩
  case round =>
    obtain ⟨l,A,c,n,q,rfl,rfl,rfl,hi,hq,ho,hb⟩:=hrel
    have HI:=Lib.hid hi
    have HO:=Lib.hid ho
    have HB:=Lib.hid hb
    have HQ:=Lib.hid hq
    have hl60:=hi.1
    have hns:n≤s.size:=by have:=hi.2.1;omega
    have hn0:(0:Int)≤(n:Int):=by omega
    have hn1:(n:Int)≤(s.size:Int):=by omega
    clear hi ho hb hq
    by_cases hlt:l.length < 60
    · have hltI:(l.length:Int) < 60:=by omega
      have hdr:(s.extract n s.size).data.toList=s.data.toList.drop n:=by rw [ext_list];exact List.take_of_length_le (by simp)
      rcases idx_nl (s.data.toList.drop n) with ⟨h1,h2⟩ | ⟨ln,t,h1,h2,h3⟩
      · have HS:=Lib.hid (HI.out.stop (no_pfx (q:=0) h2))
        have HX:=Lib.hid h1
        have HD:=Lib.hid hdr
        clear h1 h2 hdr
        go_wp2_with (go_at_call 132;refine (YtdfemnffpaopfaaGreatDoor.strings_IndexByte _ 10 _).mono ?_;rw [HD.out,show (10:Int).toNat.toUInt8=10 from rfl,HX.out];rintro e w1_ ⟨rfl,hw1⟩;subst hw1)
        refine bodyPost_ret (v:=.tuple #[.slice A l.length c,.int .i64 (n:Int),.int .i64 q]) (by simp [*,results,Tryz.results87,go_sem]) rfl ⟨⟨A,l.length,c⟩,by rw [HS.out],?_,Fresh.obl_ HO.out,HB.out⟩
        rw [HS.out];exact HO.out.zero
      · have hlen:s.size - n=ln.length+1+t.length:=by
          have:=congrArg List.length h1
          simp only [List.length_drop,List.length_append,List.length_cons,hsl] at this
          omega
        have hL1:(s.extract n (n+ln.length)).data.toList=ln:=by rw [ext_list,h1];simp
        have hL2:(s.extract n (n+ln.length+1)).data.toList=ln++[10]:=by
          rw [ext_list,h1,show n+ln.length+1 - n=ln.length+1 by omega]
          simp [List.take_append,List.take_of_length_le]
        have hz1:(s.extract n (n+ln.length)).size≤s.size:=by
          have:=bsize (s.extract n (n+ln.length))
          rw [hL1] at this;omega
        have HX:=Lib.hid h3
        have HD:=Lib.hid hdr
        have H2:=Lib.hid h2
        have H1:=Lib.hid h1
        have HL1:=Lib.hid hL1
        have HL2:=Lib.hid hL2
        obtain ⟨E,hE⟩:∃ E,E=ln.length:=⟨_,rfl⟩
        rw [← hE] at hlen HX HL1 HL2 hz1
        have hne:(n:Int)+(E:Int)≤(s.size:Int):=by omega
        have hne1:(n:Int)+(E:Int)+1≤(s.size:Int):=by omega
        have hE0:(0:Int)≤(E:Int):=by omega
        have hnE:(n:Int)≤(n:Int)+(E:Int):=by omega
        have hnE1:(n:Int)≤(n:Int)+(E:Int)+1:=by omega
        have hE1:¬ (E:Int) < 0:=by omega
        have HE:=Lib.hid hE
        clear h1 h2 h3 hdr hL1 hL2 hE
        go_wp2_with (go_at_call 132;refine (YtdfemnffpaopfaaGreatDoor.strings_IndexByte _ 10 _).mono ?_;rw [HD.out,show (10:Int).toNat.toUInt8=10 from rfl,HX.out];rintro e w1_ ⟨rfl,hw1⟩;subst hw1)
        refine Calls.mono (impl_parseEntry_c (s.extract n (n+E)) _ (by omega) (HT.out.below HB.out)) ?_
        rintro e w2_ ⟨en,ok,rfl,hok,hres,hb2⟩
        rw [HL1.out] at hres
        obtain ⟨rm,eid,⟨fi,fk,ff,ft,⟨pt,px,py⟩,fw⟩⟩:=en
        rw [show vEntryE ⟨rm,eid,⟨fi,fk,ff,ft,⟨pt,px,py⟩,fw⟩⟩=vEntry rm eid fi fk ff ft pt px py fw from rfl]
        obtain ⟨k1,k2,k3,k4⟩:=hok
        have HB2:=Lib.hid (bTrans HB.out hb2)
        have HO2:=Lib.hid (HO.out.below hb2)
        have HT2:=Lib.hid (HT.out.below HB2.out)
        have bxe:=Bk.new w2_ [.bool rm,.int .i64 eid,.int .i64 fi,.int .i64 fk,.string ff,.string ft,.int .i64 pt,.int .i64 px,.int .i64 py,.int .i64 fw] 42 _ rfl
        have BXE:=Lib.hid bxe
        clear hb2 bxe
        by_cases hEnt:EntOf ln q ⟨rm,eid,⟨fi,fk,ff,ft,⟨pt,px,py⟩,fw⟩⟩∧ok=true
        · obtain ⟨hEn,rfl⟩:=hEnt
          obtain ⟨y1,y2,y3,y4,_⟩:=line_yes (t:=t) HL2.out hEn
          rw [← H1.out] at y3
          have HNX:=Lib.hid (HI.out.next hlt y3)
          rw [y4,← HE.out] at HNX
          have HY1:=Lib.hid y1
          have hqn:=entSum_in ⟨rm,eid,⟨fi,fk,ff,ft,⟨pt,px,py⟩,fw⟩⟩ q
          have HQN:=Lib.hid hqn
          rw [y1] at y2
          simp only at y2
          obtain ⟨line,hline⟩:∃ x,x=entT ⟨rm,eid,⟨fi,fk,ff,ft,⟨pt,px,py⟩,fw⟩⟩ q:=⟨_,rfl⟩
          obtain ⟨sm,hsm⟩:∃ x,x=entSum ⟨rm,eid,⟨fi,fk,ff,ft,⟨pt,px,py⟩,fw⟩⟩ q:=⟨_,rfl⟩
          rw [← hsm] at HNX HQN
          rw [← hline] at y2
          rw [← hline,← hsm] at HY1
          clear y1 y3 y4 hEn hres hqn hline hsm
          go_wp2_with (first
            | (go_at_call 13;refine (impl_FormatEntry_c rm eid fi fk ff ft pt px py fw q _ ⟨k3,k4⟩ k1 k2 ((HT2.out.1.tab).below (bAlloc (Below.refl _ _) _))).mono ?_;rw [HY1.out];rintro e w3_ ⟨rfl,hb3⟩;have bx3:=BXE.out.below hb3;have r0:=bx3.bx.cells 0 _ rfl;have r1:=bx3.bx.cells 1 _ rfl;have r2:=bx3.bx.cells 2 _ rfl;have r3:=bx3.bx.cells 3 _ rfl;have r4:=bx3.bx.cells 4 _ rfl;have r5:=bx3.bx.cells 5 _ rfl;have r6:=bx3.bx.cells 6 _ rfl;have r7:=bx3.bx.cells 7 _ rfl;have r8:=bx3.bx.cells 8 _ rfl;have r9:=bx3.bx.cells 9 _ rfl)
            | (at_builtin;refine wpList_append rfl (.tmp 52) (.tmp 54) 96 rfl w.heap.size 42 10 96 i0 _ Tryz.underlying96 hii hq0 hq1 hq2 rfl (by omega) A l.length c (l.map Entry.cells) rfl ((((HO2.out.alloc_ _).below hb3)).alloc_ _) _ 1 1 [Entry.cells ⟨rm,eid,⟨fi,fk,ff,ft,⟨pt,px,py⟩,fw⟩⟩] rfl (Row.new1' _ _ _ 10 _ (by simp)) (by simp [Entry.cells,Factor.cells]) (by simp [Entry.cells,Factor.cells,Value.oneCell']) (by simp only [maxLen];omega) (by omega) (by have:=HB2.out.size;have:=hb3.size;simp at *;omega) ?_;intro A5 c5 w5_ ho5 hg5 hat5))
          exact ⟨⟨l++[⟨rm,eid,⟨fi,fk,ff,ft,⟨pt,px,py⟩,fw⟩⟩],A5,c5,n+(E+1),sm,by simp,by simp,rfl,HNX.out,HQN.out,by rw [List.length_append,List.map_append];exact ho5,bGrown (bAlloc (bTrans (bAlloc HB2.out _) hb3) _) hg5 (fun q hq=>(HO2.out.lt q hq).1)⟩,by simp [lenV];omega⟩
        · obtain ⟨z1,z2⟩:=line_no (t:=t) H2.out HL2.out hres hEnt
          rw [← H1.out] at z1
          have HS:=Lib.hid (HI.out.stop z1)
          obtain ⟨fe,hfe⟩:∃ x,x=fmtEnt ⟨rm,eid,⟨fi,fk,ff,ft,⟨pt,px,py⟩,fw⟩⟩ q:=⟨_,rfl⟩
          have HY1:=Lib.hid hfe
          rw [← hfe] at z2
          clear z1 hres hEnt hfe
          obtain ⟨line,sm⟩:=fe
          cases ok
          all_goals
            (try have z3:=z2 rfl)
            clear z2
            go_wp2_with (go_at_call 13;refine (impl_FormatEntry_c rm eid fi fk ff ft pt px py fw q _ ⟨k3,k4⟩ k1 k2 ((HT2.out.1.tab).below (bAlloc (Below.refl _ _) _))).mono ?_;rw [← HY1.out];rintro e w3_ ⟨rfl,hb3⟩)
            refine bodyPost_ret (v:=.tuple #[.slice A l.length c,.int .i64 (n:Int),.int .i64 q]) (by simp [*,results,Tryz.results87,go_sem]) rfl ⟨⟨A,l.length,c⟩,by rw [HS.out],?_,Fresh.obl_ ((HO2.out.alloc_ _).below hb3),bTrans (bAlloc HB2.out _) hb3⟩
            rw [HS.out];exact ((HO2.out.alloc_ _).below hb3).zero
    · have hl:l.length=60:=by omega
      have HS:=Lib.hid (HI.out.full hl)
      have hlI:¬ (l.length:Int) < 60:=by omega
      go_wp2_with fail
      refine bodyPost_ret (v:=.tuple #[.slice A l.length c,.int .i64 (n:Int),.int .i64 q]) (by simp [*,results,Tryz.results87,go_sem]) rfl ⟨⟨A,l.length,c⟩,by rw [HS.out],?_,Fresh.obl_ HO.out,HB.out⟩
      rw [HS.out];exact HO.out.zero
end Go.Proofs.YtdfemnffpaopfaaGreatDoor
