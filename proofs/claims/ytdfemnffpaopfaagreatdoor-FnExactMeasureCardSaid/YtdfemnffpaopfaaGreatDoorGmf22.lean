/- Texts of this proof, one behind the other: PsFacI, EntP, DigP, PrsB. -/
import Derived.BigRegion
import Derived.Test.YtdfemnffpaopfaaGreatDoorGmf6
import Derived.Test.YtdfemnffpaopfaaGreatDoorGmf16
import Derived.Test.YtdfemnffpaopfaaGreatDoorGmf18
import Derived.Test.YtdfemnffpaopfaaGreatDoorGmf20
import Derived.Test.YtdfemnffpaopfaaGreatDoorGmf21
namespace Go.Proofs.YtdfemnffpaopfaaGreatDoor
open Go.RowKit
set_option linter.unusedVariables false
set_option linter.unusedSimpArgs false
set_option maxHeartbeats 4000000
set_option maxRecDepth 100000
theorem impl_ParseFactor_c (s:ByteArray) (w:World) (hs:s.size≤4194304) (hT:TabE w):Calls Tryz.prog 142 #[.string s] w fun e w'=>e=.returned (vFacO (psFac s))∧Below w.heap.size w w':=by
  have HT:=Lib.hid hT
  clear hT
  go_enter Tryz.func142,Tryz.ntmps142
  go_wp2_with fail
  refine Calls.mono (impl_SplitAny_k s 32 _ (by omega)) ?_
  rintro e w1_ ⟨v,L,rfl,ho,hL,hb1⟩
  have bx1:=(Bk.new w [.int .i64 0,.int .i64 0,.string ⟨#[]⟩,.string ⟨#[]⟩,.int .i64 0,.int .i64 0,.int .i64 0,.int .i64 0] 34 _ rfl).below hb1
  have B1:Below w.heap.size w w1_:=bTrans (bAlloc (Below.refl _ _) _) hb1
  have HL:=Lib.hid hL
  have hlen:L.length=v.n:=by have:=ho.lens;simpa [Hid] using this
  have hrow:RowS w1_ v.A v.n L:=ho.row
  have hws:=word_size hL
  have HT1:=Lib.hid (HT.out.below B1)
  clear hb1 ho hL HT
  obtain ⟨A,n,c⟩:=v
  simp only at hlen hrow
  by_cases h56:n=5∨n=6
  · obtain ⟨g,off,rfl⟩:=hrow.some_ (by omega)
    obtain ⟨w1,h1⟩:=ex_at (L:=L) (k:=1) (by omega)
    obtain ⟨w3,h3⟩:=ex_at (L:=L) (k:=L.length - 3) (by omega)
    obtain ⟨w4,h4⟩:=ex_at (L:=L) (k:=L.length - 2) (by omega)
    obtain ⟨w5,h5⟩:=ex_at (L:=L) (k:=L.length - 1) (by omega)
    have z1:=hws w1 (List.mem_of_getElem? h1)
    have z3:=hws w3 (List.mem_of_getElem? h3)
    have z4:=hws w4 (List.mem_of_getElem? h4)
    have z5:=hws w5 (List.mem_of_getElem? h5)
    rcases h56 with rfl | rfl
    · clear hws
      have c1:=RowS.get hrow h1
      have c3:=RowS.get hrow h3
      have c4:=RowS.get hrow h4
      have c5:=RowS.get hrow h5
      simp only [hlen,Nat.reduceSub] at c3 c4 c5
      have HALL:=Lib.hid (fac_none_all (fr:=⟨#[]⟩) HL.out h1 h3 h4 h5 ⟨fun _=>by omega,fun _=>rfl⟩)
      have HX:=Lib.hid (fac_none_x HL.out h1 h4 h5)
      obtain ⟨x,hx⟩:∃ x,x=(psI w1).getD 0:=⟨_,rfl⟩
      obtain ⟨p,hp⟩:∃ p,p=(psPose w4).getD ⟨0,0,0⟩:=⟨_,rfl⟩
      obtain ⟨y,hy⟩:∃ y,y=(psI w5).getD 0:=⟨_,rfl⟩
      rw [← hx,← hp,← hy] at HALL
      have H1:=Lib.hid (show vPair (psI w1)=.tuple #[.int .i64 x,.bool (psI w1).isSome] by rw [hx];exact vPair_eq _)
      have H4:=Lib.hid (show vPoseO (psPose w4)=.tuple #[vPose p.turn p.x p.y,.bool (psPose w4).isSome] by rw [hp];exact vPoseO_eq _)
      have H5:=Lib.hid (show vPair (psI w5)=.tuple #[.int .i64 y,.bool (psI w5).isSome] by rw [hy];exact vPair_eq _)
      obtain ⟨t,ux,uy⟩:=p
      simp only at H4
      generalize (psI w1).isSome=o1 at *
      generalize (psPose w4).isSome=o4 at *
      generalize (psI w5).isSome=o5 at *
      have hg1:g < w1_.heap.size:=cell_lt c1
      clear hx hp hy hrow h1 h3 h4 h5
      go_wp2_with fail
      refine Calls.mono (impl_ParseInt_c w1 _ (by omega) HT1.out) ?_
      rintro e w2_ ⟨rfl,hb2⟩
      rw [H1.out]
      have c3:=bCell hb2 c3
      have c4:=bCell hb2 c4
      have c5:=bCell hb2 c5
      have bx2:=bx1.below hb2
      have B2:=bTrans B1 hb2
      have HT2:=Lib.hid (HT1.out.below hb2)
      clear hb2 c1 bx1 B1 H1 HT1
      go_wp2_with fail
      refine Calls.mono (impl_ParsePose_c w4 _ (by omega) HT2.out) ?_
      rintro e w3_ ⟨rfl,hb3⟩
      rw [H4.out]
      have c3:=bCell hb3 c3
      have c5:=bCell hb3 c5
      have bx3:=bx2.below hb3
      have B3:=bTrans B2 hb3
      have HT3:=Lib.hid (HT2.out.below hb3)
      have hg3:g < w3_.heap.size:=cell_lt c5
      have hne3:¬ g=w3_.heap.size:=by omega
      clear hb3 c4 bx2 B2 H4 HT2
      go_wp2_with fail
      refine Calls.mono (impl_ParseInt_c w5 _ (by omega) (HT3.out.below (bAlloc (Below.refl _ _) _))) ?_
      rintro e w4_ ⟨rfl,hb4⟩
      rw [H5.out]
      have c3:=bCell hb4 (bCell (bAlloc (Below.refl _ _) _) c3)
      have bx4:=(bx3.alloc_ _).below hb4
      have ux4:=(Bk.new w3_ [.int .i64 t,.int .i64 ux,.int .i64 uy] 32 _ rfl).below hb4
      have B4:=bTrans (bAlloc B3 _) hb4
      have HT4:=Lib.hid (((HT3.out.below (bAlloc (Below.refl _ _) _))).below hb4)
      clear hb4 c5 bx3 B3 H5 HT3
      have v0:=ux4.bx.cells 0 _ rfl;have v1:=ux4.bx.cells 1 _ rfl;have v2:=ux4.bx.cells 2 _ rfl;have vz:=ux4.lt
      have hne4:¬ g=w4_.heap.size:=by have:=cell_lt c3;simp only at this;omega
      have hne5:¬ w3_.heap.size=w4_.heap.size:=by omega
      have hne6:¬ w4_.heap.size=w3_.heap.size:=by omega
      by_cases hall:o1=true∧o4=true∧o5=true
      · obtain ⟨rfl,rfl,rfl⟩:=hall
        go_wp2_with fail
        have c3a:=bCell (bAlloc (Below.refl _ _) (.cells #[.int .i64 0,.int .i64 0,.string ⟨#[]⟩,.string ⟨#[]⟩,.int .i64 0,.int .i64 0,.int .i64 0,.int .i64 0] 34)) c3
        have v0a:=bCell (bAlloc (Below.refl _ _) (.cells #[.int .i64 0,.int .i64 0,.string ⟨#[]⟩,.string ⟨#[]⟩,.int .i64 0,.int .i64 0,.int .i64 0,.int .i64 0] 34)) v0;have v1a:=bCell (bAlloc (Below.refl _ _) (.cells #[.int .i64 0,.int .i64 0,.string ⟨#[]⟩,.string ⟨#[]⟩,.int .i64 0,.int .i64 0,.int .i64 0,.int .i64 0] 34)) v1;have v2a:=bCell (bAlloc (Below.refl _ _) (.cells #[.int .i64 0,.int .i64 0,.string ⟨#[]⟩,.string ⟨#[]⟩,.int .i64 0,.int .i64 0,.int .i64 0,.int .i64 0] 34)) v2
        go_region
        have hbn:=bDrew (bAlloc (Below.refl w4_.heap.size w4_) (.cells #[.int .i64 x,.int .i64 0,.string ⟨#[]⟩,.string w3,.int .i64 t,.int .i64 ux,.int .i64 uy,.int .i64 y] 34))
        have px0:Bk _ w4_.heap.size 34 [.int .i64 x,.int .i64 0,.string ⟨#[]⟩,.string w3,.int .i64 t,.int .i64 ux,.int .i64 uy,.int .i64 y]:=(Bk.new w4_ [.int .i64 x,.int .i64 0,.string ⟨#[]⟩,.string w3,.int .i64 t,.int .i64 ux,.int .i64 uy,.int .i64 y] 34 _ rfl).below (bDrew (Below.refl _ _))
        have q0:=px0.bx.cells 0 _ rfl;have q1:=px0.bx.cells 1 _ rfl;have q2:=px0.bx.cells 2 _ rfl;have q3:=px0.bx.cells 3 _ rfl;have q4:=px0.bx.cells 4 _ rfl;have q5:=px0.bx.cells 5 _ rfl;have q6:=px0.bx.cells 6 _ rfl;have q7:=px0.bx.cells 7 _ rfl;have qf:=px0.bx.froz;have qz:=px0.lt
        go_wp2_with fail
        have px1:=px0
        have hb1n:=hbn
        clear px0 hbn c3a v0a v1a v2a v0 v1 v2 vz c3 hne4 hne5 hne6 hne3 hg3 hg1 q0 q1 q2 q3 q4 q5 q6 q7 qf qz
        go_loopw [13] (fun kv wr=>∃ (k:Nat) (kk:Int),kv=.int .i64 (k:Int)∧1≤k∧k≤5∧(∀ j:Nat,1≤j→j < k→¬ FacOf s ⟨x,j,⟨#[]⟩,w3,⟨t,ux,uy⟩,y⟩)∧Bk wr w4_.heap.size 34 [.int .i64 x,.int .i64 kk,.string ⟨#[]⟩,.string w3,.int .i64 t,.int .i64 ux,.int .i64 uy,.int .i64 y]∧Below w4_.heap.size w4_ wr) (fun kv _=>5 - (intOf kv).toNat)
        case atStart=>exact ⟨1,0,rfl,by omega,by omega,fun j hj hj2=>by omega,px1,hb1n⟩
        case round =>
          obtain ⟨k,kk,rfl,hk1,hk,hno,px,hbr⟩:=hrel
          have HNO:=Lib.hid hno
          clear hno px1 hb1n
          have hs3:w3.size≤4194304:=by omega
          have q0:=px.bx.cells 0 _ rfl;have q1:=px.bx.cells 1 _ rfl;have q2:=px.bx.cells 2 _ rfl;have q3:=px.bx.cells 3 _ rfl;have q4:=px.bx.cells 4 _ rfl;have q5:=px.bx.cells 5 _ rfl;have q6:=px.bx.cells 6 _ rfl;have q7:=px.bx.cells 7 _ rfl;have qf:=px.bx.froz;have qz:=px.lt
          by_cases hlt:k < 5
          · have hkl:(k:Int)≤4:=by omega
            have pk:Bk (wr.setCell ⟨w4_.heap.size,1,none⟩ (.int .i64 (k:Int))) w4_.heap.size 34 [.int .i64 x,.int .i64 (k:Int),.string ⟨#[]⟩,.string w3,.int .i64 t,.int .i64 ux,.int .i64 uy,.int .i64 y]:=by simpa using px.set 1 (.int .i64 (k:Int))
            have hbk:=bSet hbr (p:=⟨w4_.heap.size,1,none⟩) (Nat.le_refl _) (.int .i64 (k:Int))
            cases hv:vldFactor ⟨x,(k:Int),⟨#[]⟩,w3,⟨t,ux,uy⟩,y⟩ with
            | false =>
              have HNX:=Lib.hid (show ∀ j:Nat,1≤j→j < k+1→¬ FacOf s ⟨x,j,⟨#[]⟩,w3,⟨t,ux,uy⟩,y⟩ from fun j hj hj2 hp=>by
                by_cases e:j=k
                · subst e;rw [hp.1] at hv;cases hv
                · exact HNO.out j hj (by omega) hp)
              have HV:=Lib.hid hv
              clear hv
              go_wp2_with (go_at_call 93;refine (impl_IsValidFactor_c _ _ _ _ _ _ _ _ _ (by decide) hs3).mono ?_;rw [HV.out];rintro e w5_ ⟨rfl,hb5⟩;have pk5:=pk.below hb5;have hbr5:=bTrans hbk hb5;have s0:=pk5.bx.cells 0 _ rfl;have s1:=pk5.bx.cells 1 _ rfl;have s2:=pk5.bx.cells 2 _ rfl;have s3:=pk5.bx.cells 3 _ rfl;have s4:=pk5.bx.cells 4 _ rfl;have s5:=pk5.bx.cells 5 _ rfl;have s6:=pk5.bx.cells 6 _ rfl;have s7:=pk5.bx.cells 7 _ rfl;have sf:=pk5.bx.froz;have sz:=pk5.lt)
              exact ⟨⟨k+1,_,by simp,by omega,by omega,HNX.out,pk5,hbr5⟩,by simp only [intOf];omega⟩
            | true =>
              have HV:=Lib.hid hv
              cases he:((fmtFac ⟨x,(k:Int),⟨#[]⟩,w3,⟨t,ux,uy⟩,y⟩).toList == s.toList) with
              | true =>
                have HP:=Lib.hid (psFac_some ((fac_iff hv).1 he))
                clear hv
                go_wp2_with (first | (go_at_call 93;refine (impl_IsValidFactor_c _ _ _ _ _ _ _ _ _ (by decide) hs3).mono ?_;rw [HV.out];rintro e w5_ ⟨rfl,hb5⟩;have pk5:=pk.below hb5;have hbr5:=bTrans hbk hb5;have s0:=pk5.bx.cells 0 _ rfl;have s1:=pk5.bx.cells 1 _ rfl;have s2:=pk5.bx.cells 2 _ rfl;have s3:=pk5.bx.cells 3 _ rfl;have s4:=pk5.bx.cells 4 _ rfl;have s5:=pk5.bx.cells 5 _ rfl;have s6:=pk5.bx.cells 6 _ rfl;have s7:=pk5.bx.cells 7 _ rfl;have sf:=pk5.bx.froz;have sz:=pk5.lt) | (go_at_call 46;refine (impl_FormatFactor_c _ _ _ _ _ _ _ _ _ (by decide) hs3 (HT4.out.below hbr5).tab).mono ?_;rintro e w6_ ⟨rfl,hb6⟩;have pk6:=pk5.below hb6;have hbr6:=bTrans hbr5 hb6;have t0:=pk6.bx.cells 0 _ rfl;have t1:=pk6.bx.cells 1 _ rfl;have t2:=pk6.bx.cells 2 _ rfl;have t3:=pk6.bx.cells 3 _ rfl;have t4:=pk6.bx.cells 4 _ rfl;have t5:=pk6.bx.cells 5 _ rfl;have t6:=pk6.bx.cells 6 _ rfl;have t7:=pk6.bx.cells 7 _ rfl;have tf:=pk6.bx.froz;have tz:=pk6.lt;have bx6:=bx4.below hbr6;have r0:=bx6.bx.cells 0 _ rfl;have r1:=bx6.bx.cells 1 _ rfl;have r2:=bx6.bx.cells 2 _ rfl;have r3:=bx6.bx.cells 3 _ rfl;have r4:=bx6.bx.cells 4 _ rfl;have r5:=bx6.bx.cells 5 _ rfl;have r6:=bx6.bx.cells 6 _ rfl;have r7:=bx6.bx.cells 7 _ rfl;have rf:=bx6.bx.froz;have rz:=bx6.lt))
                refine bodyPost_ret (v:=.tuple #[vFactor x (k:Int) ⟨#[]⟩ w3 t ux uy y,.bool true]) (by simp [*,results,Tryz.results142,go_sem]) rfl ⟨by rw [HP.out];rfl,?_⟩
                exact b8 (bTrans B4 hbr6) (Nat.le_refl _) _ _ _ _ _ _ _ _
              | false =>
                have HNX:=Lib.hid (show ∀ j:Nat,1≤j→j < k+1→¬ FacOf s ⟨x,j,⟨#[]⟩,w3,⟨t,ux,uy⟩,y⟩ from fun j hj hj2 hp=>by
                  by_cases e:j=k
                  · subst e;rw [(fac_iff hv).2 hp] at he;cases he
                  · exact HNO.out j hj (by omega) hp)
                clear hv
                go_wp2_with (first | (go_at_call 93;refine (impl_IsValidFactor_c _ _ _ _ _ _ _ _ _ (by decide) hs3).mono ?_;rw [HV.out];rintro e w5_ ⟨rfl,hb5⟩;have pk5:=pk.below hb5;have hbr5:=bTrans hbk hb5;have s0:=pk5.bx.cells 0 _ rfl;have s1:=pk5.bx.cells 1 _ rfl;have s2:=pk5.bx.cells 2 _ rfl;have s3:=pk5.bx.cells 3 _ rfl;have s4:=pk5.bx.cells 4 _ rfl;have s5:=pk5.bx.cells 5 _ rfl;have s6:=pk5.bx.cells 6 _ rfl;have s7:=pk5.bx.cells 7 _ rfl;have sf:=pk5.bx.froz;have sz:=pk5.lt) | (go_at_call 46;refine (impl_FormatFactor_c _ _ _ _ _ _ _ _ _ (by decide) hs3 (HT4.out.below hbr5).tab).mono ?_;rintro e w6_ ⟨rfl,hb6⟩;have pk6:=pk5.below hb6;have hbr6:=bTrans hbr5 hb6;have t0:=pk6.bx.cells 0 _ rfl;have t1:=pk6.bx.cells 1 _ rfl;have t2:=pk6.bx.cells 2 _ rfl;have t3:=pk6.bx.cells 3 _ rfl;have t4:=pk6.bx.cells 4 _ rfl;have t5:=pk6.bx.cells 5 _ rfl;have t6:=pk6.bx.cells 6 _ rfl;have t7:=pk6.bx.cells 7 _ rfl;have tf:=pk6.bx.froz;have tz:=pk6.lt))
                exact ⟨⟨k+1,_,by simp,by omega,by omega,HNX.out,pk6,hbr6⟩,by simp only [intOf];omega⟩
          · obtain rfl:k=5:=by omega
            have HN:=Lib.hid (HALL.out HNO.out)
            have bx6:=bx4.below hbr
            have r0:=bx6.bx.cells 0 _ rfl;have r1:=bx6.bx.cells 1 _ rfl;have r2:=bx6.bx.cells 2 _ rfl;have r3:=bx6.bx.cells 3 _ rfl;have r4:=bx6.bx.cells 4 _ rfl;have r5:=bx6.bx.cells 5 _ rfl;have r6:=bx6.bx.cells 6 _ rfl;have r7:=bx6.bx.cells 7 _ rfl;have rf:=bx6.bx.froz;have rz:=bx6.lt
            go_wp2_with fail
            refine bodyPost_ret (v:=.tuple #[vFactor 0 0 ⟨#[]⟩ ⟨#[]⟩ 0 0 0 0,.bool false]) (by simp [*,results,Tryz.results142,go_sem]) rfl ⟨by rw [HN.out];rfl,?_⟩
            exact b8 (bTrans B4 hbr) (Nat.le_refl _) _ _ _ _ _ _ _ _
      · have HN:=Lib.hid (HX.out hall)
        have r0:=bx4.bx.cells 0 _ rfl;have r1:=bx4.bx.cells 1 _ rfl;have r2:=bx4.bx.cells 2 _ rfl;have r3:=bx4.bx.cells 3 _ rfl;have r4:=bx4.bx.cells 4 _ rfl;have r5:=bx4.bx.cells 5 _ rfl;have r6:=bx4.bx.cells 6 _ rfl;have r7:=bx4.bx.cells 7 _ rfl;have rf:=bx4.bx.froz;have rz:=bx4.lt
        cases o1 <;> cases o4 <;> cases o5 <;> first | (exact absurd ⟨rfl,rfl,rfl⟩ hall) | (clear hall;go_wp2_with fail;(refine bodyPost_ret (v:=.tuple #[vFactor 0 0 ⟨#[]⟩ ⟨#[]⟩ 0 0 0 0,.bool false]) (by simp [*,results,Tryz.results142,go_sem]) rfl ⟨by rw [HN.out];rfl,?_⟩);exact b8 B4 (Nat.le_refl _) _ _ _ _ _ _ _ _)
    · obtain ⟨w2,h2⟩:=ex_at (L:=L) (k:=2) (by omega)
      have z2:=hws w2 (List.mem_of_getElem? h2)
      clear hws
      have c1:=RowS.get hrow h1
      have c2:=RowS.get hrow h2
      have c3:=RowS.get hrow h3
      have c4:=RowS.get hrow h4
      have c5:=RowS.get hrow h5
      simp only [hlen,Nat.reduceSub] at c3 c4 c5
      have HALL:=Lib.hid (fac_none_all (fr:=w2) HL.out h1 h3 h4 h5 ⟨fun _=>h2,fun _=>by omega⟩)
      have HX:=Lib.hid (fac_none_x HL.out h1 h4 h5)
      obtain ⟨x,hx⟩:∃ x,x=(psI w1).getD 0:=⟨_,rfl⟩
      obtain ⟨p,hp⟩:∃ p,p=(psPose w4).getD ⟨0,0,0⟩:=⟨_,rfl⟩
      obtain ⟨y,hy⟩:∃ y,y=(psI w5).getD 0:=⟨_,rfl⟩
      rw [← hx,← hp,← hy] at HALL
      have H1:=Lib.hid (show vPair (psI w1)=.tuple #[.int .i64 x,.bool (psI w1).isSome] by rw [hx];exact vPair_eq _)
      have H4:=Lib.hid (show vPoseO (psPose w4)=.tuple #[vPose p.turn p.x p.y,.bool (psPose w4).isSome] by rw [hp];exact vPoseO_eq _)
      have H5:=Lib.hid (show vPair (psI w5)=.tuple #[.int .i64 y,.bool (psI w5).isSome] by rw [hy];exact vPair_eq _)
      obtain ⟨t,ux,uy⟩:=p
      simp only at H4
      generalize (psI w1).isSome=o1 at *
      generalize (psPose w4).isSome=o4 at *
      generalize (psI w5).isSome=o5 at *
      have hg1:g < w1_.heap.size:=cell_lt c1
      clear hx hp hy hrow h1 h3 h4 h5 h2
      go_wp2_with fail
      refine Calls.mono (impl_ParseInt_c w1 _ (by omega) HT1.out) ?_
      rintro e w2_ ⟨rfl,hb2⟩
      rw [H1.out]
      have c3:=bCell hb2 c3
      have c4:=bCell hb2 c4
      have c5:=bCell hb2 c5
      have c2:=bCell hb2 c2
      have bx2:=bx1.below hb2
      have B2:=bTrans B1 hb2
      have HT2:=Lib.hid (HT1.out.below hb2)
      clear hb2 c1 bx1 B1 H1 HT1
      go_wp2_with fail
      refine Calls.mono (impl_ParsePose_c w4 _ (by omega) HT2.out) ?_
      rintro e w3_ ⟨rfl,hb3⟩
      rw [H4.out]
      have c3:=bCell hb3 c3
      have c5:=bCell hb3 c5
      have c2:=bCell hb3 c2
      have bx3:=bx2.below hb3
      have B3:=bTrans B2 hb3
      have HT3:=Lib.hid (HT2.out.below hb3)
      have hg3:g < w3_.heap.size:=cell_lt c5
      have hne3:¬ g=w3_.heap.size:=by omega
      clear hb3 c4 bx2 B2 H4 HT2
      go_wp2_with fail
      refine Calls.mono (impl_ParseInt_c w5 _ (by omega) (HT3.out.below (bAlloc (Below.refl _ _) _))) ?_
      rintro e w4_ ⟨rfl,hb4⟩
      rw [H5.out]
      have c3:=bCell hb4 (bCell (bAlloc (Below.refl _ _) _) c3)
      have c2:=bCell hb4 (bCell (bAlloc (Below.refl _ _) _) c2)
      have bx4:=(bx3.alloc_ _).below hb4
      have ux4:=(Bk.new w3_ [.int .i64 t,.int .i64 ux,.int .i64 uy] 32 _ rfl).below hb4
      have B4:=bTrans (bAlloc B3 _) hb4
      have HT4:=Lib.hid (((HT3.out.below (bAlloc (Below.refl _ _) _))).below hb4)
      clear hb4 c5 bx3 B3 H5 HT3
      have v0:=ux4.bx.cells 0 _ rfl;have v1:=ux4.bx.cells 1 _ rfl;have v2:=ux4.bx.cells 2 _ rfl;have vz:=ux4.lt
      have hne4:¬ g=w4_.heap.size:=by have:=cell_lt c3;simp only at this;omega
      have hne5:¬ w3_.heap.size=w4_.heap.size:=by omega
      have hne6:¬ w4_.heap.size=w3_.heap.size:=by omega
      by_cases hall:o1=true∧o4=true∧o5=true
      · obtain ⟨rfl,rfl,rfl⟩:=hall
        go_wp2_with fail
        have c3a:=bCell (bAlloc (Below.refl _ _) (.cells #[.int .i64 0,.int .i64 0,.string ⟨#[]⟩,.string ⟨#[]⟩,.int .i64 0,.int .i64 0,.int .i64 0,.int .i64 0] 34)) c3
        have v0a:=bCell (bAlloc (Below.refl _ _) (.cells #[.int .i64 0,.int .i64 0,.string ⟨#[]⟩,.string ⟨#[]⟩,.int .i64 0,.int .i64 0,.int .i64 0,.int .i64 0] 34)) v0;have v1a:=bCell (bAlloc (Below.refl _ _) (.cells #[.int .i64 0,.int .i64 0,.string ⟨#[]⟩,.string ⟨#[]⟩,.int .i64 0,.int .i64 0,.int .i64 0,.int .i64 0] 34)) v1;have v2a:=bCell (bAlloc (Below.refl _ _) (.cells #[.int .i64 0,.int .i64 0,.string ⟨#[]⟩,.string ⟨#[]⟩,.int .i64 0,.int .i64 0,.int .i64 0,.int .i64 0] 34)) v2
        go_region
        have hbn:=bDrew (bAlloc (Below.refl w4_.heap.size w4_) (.cells #[.int .i64 x,.int .i64 0,.string ⟨#[]⟩,.string w3,.int .i64 t,.int .i64 ux,.int .i64 uy,.int .i64 y] 34))
        have px0:Bk _ w4_.heap.size 34 [.int .i64 x,.int .i64 0,.string ⟨#[]⟩,.string w3,.int .i64 t,.int .i64 ux,.int .i64 uy,.int .i64 y]:=(Bk.new w4_ [.int .i64 x,.int .i64 0,.string ⟨#[]⟩,.string w3,.int .i64 t,.int .i64 ux,.int .i64 uy,.int .i64 y] 34 _ rfl).below (bDrew (Below.refl _ _))
        have c2b:=bCell hbn c2
        have q0:=px0.bx.cells 0 _ rfl;have q1:=px0.bx.cells 1 _ rfl;have q2:=px0.bx.cells 2 _ rfl;have q3:=px0.bx.cells 3 _ rfl;have q4:=px0.bx.cells 4 _ rfl;have q5:=px0.bx.cells 5 _ rfl;have q6:=px0.bx.cells 6 _ rfl;have q7:=px0.bx.cells 7 _ rfl;have qf:=px0.bx.froz;have qz:=px0.lt
        go_wp2_with fail
        have px1:Bk _ w4_.heap.size 34 [.int .i64 x,.int .i64 0,.string w2,.string w3,.int .i64 t,.int .i64 ux,.int .i64 uy,.int .i64 y]:=(Bk.new w4_ [.int .i64 x,.int .i64 0,.string w2,.string w3,.int .i64 t,.int .i64 ux,.int .i64 uy,.int .i64 y] 34 _ rfl).below (bDrew (Below.refl _ _))
        have hb1n:=bDrew (bAlloc (Below.refl w4_.heap.size w4_) (.cells #[.int .i64 x,.int .i64 0,.string w2,.string w3,.int .i64 t,.int .i64 ux,.int .i64 uy,.int .i64 y] 34))
        clear px0 hbn c3a v0a v1a v2a v0 v1 v2 vz c3 hne4 hne5 hne6 hne3 hg3 hg1 q0 q1 q2 q3 q4 q5 q6 q7 qf qz c2 c2b
        go_loopw [13] (fun kv wr=>∃ (k:Nat) (kk:Int),kv=.int .i64 (k:Int)∧1≤k∧k≤5∧(∀ j:Nat,1≤j→j < k→¬ FacOf s ⟨x,j,w2,w3,⟨t,ux,uy⟩,y⟩)∧Bk wr w4_.heap.size 34 [.int .i64 x,.int .i64 kk,.string w2,.string w3,.int .i64 t,.int .i64 ux,.int .i64 uy,.int .i64 y]∧Below w4_.heap.size w4_ wr) (fun kv _=>5 - (intOf kv).toNat)
        case atStart=>exact ⟨1,0,rfl,by omega,by omega,fun j hj hj2=>by omega,px1,hb1n⟩
        case round =>
          obtain ⟨k,kk,rfl,hk1,hk,hno,px,hbr⟩:=hrel
          have HNO:=Lib.hid hno
          clear hno px1 hb1n
          have hs3:w3.size≤4194304:=by omega
          have hs2:w2.size≤4194304:=by omega
          have q0:=px.bx.cells 0 _ rfl;have q1:=px.bx.cells 1 _ rfl;have q2:=px.bx.cells 2 _ rfl;have q3:=px.bx.cells 3 _ rfl;have q4:=px.bx.cells 4 _ rfl;have q5:=px.bx.cells 5 _ rfl;have q6:=px.bx.cells 6 _ rfl;have q7:=px.bx.cells 7 _ rfl;have qf:=px.bx.froz;have qz:=px.lt
          by_cases hlt:k < 5
          · have hkl:(k:Int)≤4:=by omega
            have pk:Bk (wr.setCell ⟨w4_.heap.size,1,none⟩ (.int .i64 (k:Int))) w4_.heap.size 34 [.int .i64 x,.int .i64 (k:Int),.string w2,.string w3,.int .i64 t,.int .i64 ux,.int .i64 uy,.int .i64 y]:=by simpa using px.set 1 (.int .i64 (k:Int))
            have hbk:=bSet hbr (p:=⟨w4_.heap.size,1,none⟩) (Nat.le_refl _) (.int .i64 (k:Int))
            cases hv:vldFactor ⟨x,(k:Int),w2,w3,⟨t,ux,uy⟩,y⟩ with
            | false =>
              have HNX:=Lib.hid (show ∀ j:Nat,1≤j→j < k+1→¬ FacOf s ⟨x,j,w2,w3,⟨t,ux,uy⟩,y⟩ from fun j hj hj2 hp=>by
                by_cases e:j=k
                · subst e;rw [hp.1] at hv;cases hv
                · exact HNO.out j hj (by omega) hp)
              have HV:=Lib.hid hv
              clear hv
              go_wp2_with (go_at_call 93;refine (impl_IsValidFactor_c _ _ _ _ _ _ _ _ _ hs2 hs3).mono ?_;rw [HV.out];rintro e w5_ ⟨rfl,hb5⟩;have pk5:=pk.below hb5;have hbr5:=bTrans hbk hb5;have s0:=pk5.bx.cells 0 _ rfl;have s1:=pk5.bx.cells 1 _ rfl;have s2:=pk5.bx.cells 2 _ rfl;have s3:=pk5.bx.cells 3 _ rfl;have s4:=pk5.bx.cells 4 _ rfl;have s5:=pk5.bx.cells 5 _ rfl;have s6:=pk5.bx.cells 6 _ rfl;have s7:=pk5.bx.cells 7 _ rfl;have sf:=pk5.bx.froz;have sz:=pk5.lt)
              exact ⟨⟨k+1,_,by simp,by omega,by omega,HNX.out,pk5,hbr5⟩,by simp only [intOf];omega⟩
            | true =>
              have HV:=Lib.hid hv
              cases he:((fmtFac ⟨x,(k:Int),w2,w3,⟨t,ux,uy⟩,y⟩).toList == s.toList) with
              | true =>
                have HP:=Lib.hid (psFac_some ((fac_iff hv).1 he))
                clear hv
                go_wp2_with (first | (go_at_call 93;refine (impl_IsValidFactor_c _ _ _ _ _ _ _ _ _ hs2 hs3).mono ?_;rw [HV.out];rintro e w5_ ⟨rfl,hb5⟩;have pk5:=pk.below hb5;have hbr5:=bTrans hbk hb5;have s0:=pk5.bx.cells 0 _ rfl;have s1:=pk5.bx.cells 1 _ rfl;have s2:=pk5.bx.cells 2 _ rfl;have s3:=pk5.bx.cells 3 _ rfl;have s4:=pk5.bx.cells 4 _ rfl;have s5:=pk5.bx.cells 5 _ rfl;have s6:=pk5.bx.cells 6 _ rfl;have s7:=pk5.bx.cells 7 _ rfl;have sf:=pk5.bx.froz;have sz:=pk5.lt) | (go_at_call 46;refine (impl_FormatFactor_c _ _ _ _ _ _ _ _ _ hs2 hs3 (HT4.out.below hbr5).tab).mono ?_;rintro e w6_ ⟨rfl,hb6⟩;have pk6:=pk5.below hb6;have hbr6:=bTrans hbr5 hb6;have t0:=pk6.bx.cells 0 _ rfl;have t1:=pk6.bx.cells 1 _ rfl;have t2:=pk6.bx.cells 2 _ rfl;have t3:=pk6.bx.cells 3 _ rfl;have t4:=pk6.bx.cells 4 _ rfl;have t5:=pk6.bx.cells 5 _ rfl;have t6:=pk6.bx.cells 6 _ rfl;have t7:=pk6.bx.cells 7 _ rfl;have tf:=pk6.bx.froz;have tz:=pk6.lt;have bx6:=bx4.below hbr6;have r0:=bx6.bx.cells 0 _ rfl;have r1:=bx6.bx.cells 1 _ rfl;have r2:=bx6.bx.cells 2 _ rfl;have r3:=bx6.bx.cells 3 _ rfl;have r4:=bx6.bx.cells 4 _ rfl;have r5:=bx6.bx.cells 5 _ rfl;have r6:=bx6.bx.cells 6 _ rfl;have r7:=bx6.bx.cells 7 _ rfl;have rf:=bx6.bx.froz;have rz:=bx6.lt))
                refine bodyPost_ret (v:=.tuple #[vFactor x (k:Int) w2 w3 t ux uy y,.bool true]) (by simp [*,results,Tryz.results142,go_sem]) rfl ⟨by rw [HP.out];rfl,?_⟩
                exact b8 (bTrans B4 hbr6) (Nat.le_refl _) _ _ _ _ _ _ _ _
              | false =>
                have HNX:=Lib.hid (show ∀ j:Nat,1≤j→j < k+1→¬ FacOf s ⟨x,j,w2,w3,⟨t,ux,uy⟩,y⟩ from fun j hj hj2 hp=>by
                  by_cases e:j=k
                  · subst e;rw [(fac_iff hv).2 hp] at he;cases he
                  · exact HNO.out j hj (by omega) hp)
                clear hv
                go_wp2_with (first | (go_at_call 93;refine (impl_IsValidFactor_c _ _ _ _ _ _ _ _ _ hs2 hs3).mono ?_;rw [HV.out];rintro e w5_ ⟨rfl,hb5⟩;have pk5:=pk.below hb5;have hbr5:=bTrans hbk hb5;have s0:=pk5.bx.cells 0 _ rfl;have s1:=pk5.bx.cells 1 _ rfl;have s2:=pk5.bx.cells 2 _ rfl;have s3:=pk5.bx.cells 3 _ rfl;have s4:=pk5.bx.cells 4 _ rfl;have s5:=pk5.bx.cells 5 _ rfl;have s6:=pk5.bx.cells 6 _ rfl;have s7:=pk5.bx.cells 7 _ rfl;have sf:=pk5.bx.froz;have sz:=pk5.lt) | (go_at_call 46;refine (impl_FormatFactor_c _ _ _ _ _ _ _ _ _ hs2 hs3 (HT4.out.below hbr5).tab).mono ?_;rintro e w6_ ⟨rfl,hb6⟩;have pk6:=pk5.below hb6;have hbr6:=bTrans hbr5 hb6;have t0:=pk6.bx.cells 0 _ rfl;have t1:=pk6.bx.cells 1 _ rfl;have t2:=pk6.bx.cells 2 _ rfl;have t3:=pk6.bx.cells 3 _ rfl;have t4:=pk6.bx.cells 4 _ rfl;have t5:=pk6.bx.cells 5 _ rfl;have t6:=pk6.bx.cells 6 _ rfl;have t7:=pk6.bx.cells 7 _ rfl;have tf:=pk6.bx.froz;have tz:=pk6.lt))
                exact ⟨⟨k+1,_,by simp,by omega,by omega,HNX.out,pk6,hbr6⟩,by simp only [intOf];omega⟩
          · obtain rfl:k=5:=by omega
            have HN:=Lib.hid (HALL.out HNO.out)
            have bx6:=bx4.below hbr
            have r0:=bx6.bx.cells 0 _ rfl;have r1:=bx6.bx.cells 1 _ rfl;have r2:=bx6.bx.cells 2 _ rfl;have r3:=bx6.bx.cells 3 _ rfl;have r4:=bx6.bx.cells 4 _ rfl;have r5:=bx6.bx.cells 5 _ rfl;have r6:=bx6.bx.cells 6 _ rfl;have r7:=bx6.bx.cells 7 _ rfl;have rf:=bx6.bx.froz;have rz:=bx6.lt
            go_wp2_with fail
            refine bodyPost_ret (v:=.tuple #[vFactor 0 0 ⟨#[]⟩ ⟨#[]⟩ 0 0 0 0,.bool false]) (by simp [*,results,Tryz.results142,go_sem]) rfl ⟨by rw [HN.out];rfl,?_⟩
            exact b8 (bTrans B4 hbr) (Nat.le_refl _) _ _ _ _ _ _ _ _
      · have HN:=Lib.hid (HX.out hall)
        have r0:=bx4.bx.cells 0 _ rfl;have r1:=bx4.bx.cells 1 _ rfl;have r2:=bx4.bx.cells 2 _ rfl;have r3:=bx4.bx.cells 3 _ rfl;have r4:=bx4.bx.cells 4 _ rfl;have r5:=bx4.bx.cells 5 _ rfl;have r6:=bx4.bx.cells 6 _ rfl;have r7:=bx4.bx.cells 7 _ rfl;have rf:=bx4.bx.froz;have rz:=bx4.lt
        cases o1 <;> cases o4 <;> cases o5 <;> first | (exact absurd ⟨rfl,rfl,rfl⟩ hall) | (clear hall;go_wp2_with fail;(refine bodyPost_ret (v:=.tuple #[vFactor 0 0 ⟨#[]⟩ ⟨#[]⟩ 0 0 0 0,.bool false]) (by simp [*,results,Tryz.results142,go_sem]) rfl ⟨by rw [HN.out];rfl,?_⟩);exact b8 B4 (Nat.le_refl _) _ _ _ _ _ _ _ _)
  · have HN:=Lib.hid (fac_none_len HL.out (by omega) (by omega))
    have hl5:¬ (n:Int)=5:=by omega
    have hl6:¬ (n:Int)=6:=by omega
    have hl5b:((n:Int) != 5)=true:=by simp only [bne_iff_ne,ne_eq];omega
    have hl6b:((n:Int) != 6)=true:=by simp only [bne_iff_ne,ne_eq];omega
    have r0:=bx1.bx.cells 0 _ rfl;have r1:=bx1.bx.cells 1 _ rfl;have r2:=bx1.bx.cells 2 _ rfl;have r3:=bx1.bx.cells 3 _ rfl;have r4:=bx1.bx.cells 4 _ rfl;have r5:=bx1.bx.cells 5 _ rfl;have r6:=bx1.bx.cells 6 _ rfl;have r7:=bx1.bx.cells 7 _ rfl;have rf:=bx1.bx.froz;have rz:=bx1.lt
    go_wp2_with fail
    refine bodyPost_ret (v:=.tuple #[vFactor 0 0 ⟨#[]⟩ ⟨#[]⟩ 0 0 0 0,.bool false]) (by simp [*,results,Tryz.results142,go_sem]) rfl ⟨by rw [HN.out];rfl,?_⟩
    exact b8 B1 (Nat.le_refl _) _ _ _ _ _ _ _ _
theorem facL_len {f:Factor} (h:vldFactor f=true):(facL f).length≤116:=by
  obtain ⟨p1,p2,p3,p4,p5,p6,p7⟩:=vld_parts h
  have h1:=kindL_len f.kind
  have h2:=itoa_len p1 (by omega) (by omega)
  have h3:=itoa_len p2 (by omega) (by omega)
  have h4:=pose_len p3
  have h5:f.to.data.toList.length≤8:=by rw [Array.length_toList];rcases p7 with h | h <;> exact nm_size8 h
  have h6:(frmL f.kind f.frm).length≤9:=by
    unfold frmL
    split
    · decide
    · rename_i hk
      have:=nm_size8 (p6 hk)
      have e:f.frm.data.toList.length≤8:=by rw [Array.length_toList];exact this
      simp only [List.length_append,List.length_cons,List.length_nil];omega
  simp only [facL,List.length_append,List.length_cons]
  omega
theorem fmtFac_size (f:Factor):(fmtFac f).size≤116:=by
  unfold fmtFac
  split
  · rename_i h;rw [bsz];exact facL_len h
  · decide
theorem fmtFac_data {f:Factor} (h:vldFactor f=true):(fmtFac f).data.toList=facL f:=by simp [fmtFac,h]
theorem entSum_bound (e:Entry) (p:Int):0≤entSum e p∧entSum e p≤65520:=chk_bound _
theorem ent_fin {e:Entry} {p n:Int} {s a0 a1 b0 b1 b2:ByteArray} (hs:s.data.toList=entL e) (h0:itoaB p++⟨#[32]⟩=a0) (h1:a0++s=a1) (hn:chk a1=n) (h2:s++⟨#[32,35]⟩=b0) (h3:b0++itoaB n=b1) (h4:b1++⟨#[10]⟩=b2) :
    b2=entT e p∧n=entSum e p:=by
  have hN:n=entSum e p:=by
    rw [← hn,entSum]
    congr 1
    rw [← h1,← h0]
    apply bext
    simp [itoaB,ByteArray.data_append,hs]
  refine ⟨?_,hN⟩
  rw [← h4,← h3,← h2,hN]
  apply bext
  simp [itoaB,ByteArray.data_append,hs,entT]
def fmtBun (b:Bundle):ByteArray:=if isBundle b.robot b.factors then bunT b.robot b.factors else ⟨#[]⟩
def BtInv (r:Int) (l:List Factor) (k:Nat) (s:ByteArray):Prop:=s.data.toList++facsL (l.drop k)=(bunT r l).data.toList
theorem BtInv.next {r:Int} {l:List Factor} {k:Nat} {f:Factor} {s u:ByteArray} (h:BtInv r l k s) (hf:Hid (l[k]? = some f)) (hv:vldFactor f=true) (hu:u.data.toList=s.data.toList++59 :: (fmtFac f).data.toList):BtInv r l (k+1) u:=by
  unfold BtInv at *
  rw [← h,drop_at hf,hu,fmtFac_data hv]
  simp [facsL]
theorem BtInv.done {r:Int} {l:List Factor} {k n:Nat} {s:ByteArray} (h:BtInv r l k s) (hl:Hid (l.length=n)) (hk:¬ k < n):s=bunT r l:=by
  unfold BtInv at h
  rw [drop_end hl hk] at h
  apply bext
  simpa [facsL] using h
theorem bunL_vld {r:Int}:∀ {l:List Factor} {p:Option Int},bunL r l p=true→∀ f∈l,vldFactor f=true
  | [],_,_,f,hf=>by cases hf
  | g :: l,p,h,f,hf=>by
    simp only [bunL,Bool.and_eq_true] at h
    rcases List.mem_cons.1 hf with rfl | hf
    · exact h.1
    · exact bunL_vld h.2.2.2 f hf
theorem isBundle_parts {r:Int} {l:List Factor} (h:isBundle r l=true):0≤r∧r≤2∧l.length≤4∧∀ f∈l,vldFactor f=true:=by
  simp only [isBundle,Bool.and_eq_true] at h
  obtain ⟨h1,h2,h3⟩:=h
  have:=inR_iff.1 h1;have:=inR_iff.1 h2
  exact ⟨by omega,by omega,by omega,bunL_vld h3⟩
def joinL (c:UInt8):List (List UInt8)→List UInt8
  | []=>[]
  | [a]=>a
  | a :: b :: l=>a++c :: joinL c (b :: l)
theorem joinL_cons (c:UInt8) (a:List UInt8) {l:List (List UInt8)} (h:l≠[]):joinL c (a :: l)=a++c :: joinL c l:=by
  cases l with
  | nil=>exact absurd rfl h
  | cons b l=>rfl
theorem joinL_split (c:UInt8):∀ (l cur:List UInt8),joinL c (splitL (isB c) cur l)=cur++l
  | [],cur=>by simp [splitL,joinL]
  | b :: l,cur=>by
    rw [splitL]
    split
    · rename_i hb
      have hb:b=c:=by simpa [isB] using hb
      rw [joinL_cons _ _ (splitL_ne _ _ _),joinL_split c l [],hb]
      rfl
    · rw [joinL_split c l (cur++[b])]
      simp
theorem joinL_flat (c:UInt8):∀ (T:List (List UInt8)) (a:List UInt8),joinL c (a :: T)=a++T.flatMap (fun x=>c :: x)
  | [],a=>by simp [joinL]
  | b :: T,a=>by
    rw [joinL_cons _ _ (by simp),joinL_flat c T b]
    simp
theorem fac_no {f:Factor} (h:vldFactor f=true) {c:UInt8} (hc:c=59∨c=10∨c=35):∀ b∈facL f,isB c b=false:=by
  obtain ⟨h1,h2,h3,h4,h5,h6,h7⟩:=vld_parts h
  have hc':c=44∨c=32∨c=59∨c=10∨c=35:=.inr (.inr hc)
  have h32:isB c 32=false:=by rcases hc with rfl | rfl | rfl <;> decide
  intro b hb
  unfold facL at hb
  simp only [List.mem_append,List.mem_cons] at hb
  rcases hb with hb | rfl | hb | rfl | hb | hb | rfl | hb | rfl | hb
  · exact wd_no hc' (kind_wd _ _ hb)
  · exact h32
  · exact wd_no hc' (itoa_wd _ _ hb)
  · exact h32
  · unfold frmL at hb
    split at hb
    · simp at hb
    · rename_i hk
      simp only [List.mem_append,List.mem_cons,List.not_mem_nil,or_false] at hb
      rcases hb with hb | rfl
      · exact wd_no hc' (nm_wd (h6 hk) _ hb)
      · exact h32
  · exact wd_no hc' (to_wd h _ hb)
  · exact h32
  · exact pose_no32 h3 (.inr hc) _ hb
  · exact h32
  · exact wd_no hc' (itoa_wd _ _ hb)
def bunL0:List UInt8:=[98,117,110,100,108,101,32]
theorem bun_data (r:Int) (l:List Factor):(bunT r l).data.toList=(bunL0++Lib.itoa r)++facsL l:=by
  unfold bunT bunL0;simp
end Go.Proofs.YtdfemnffpaopfaaGreatDoor
