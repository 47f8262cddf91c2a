/- Texts of this proof, one behind the other: PsFac. -/
import Derived.Test.YtdfemnffpaopfaaGreatDoorGmf18
import Derived.Test.YtdfemnffpaopfaaGreatDoorGmf19
namespace Go.Proofs.YtdfemnffpaopfaaGreatDoor
open Go.RowKit
set_option linter.unusedVariables false
set_option linter.unusedSimpArgs false
set_option maxHeartbeats 4000000
set_option maxRecDepth 100000
def vFacO (o:Option Factor):Value:=match o with | some f=>.tuple #[vFactor f.id f.kind f.frm f.to f.pose.turn f.pose.x f.pose.y f.weight,.bool true] | none=>.tuple #[vFactor 0 0 ⟨#[]⟩ ⟨#[]⟩ 0 0 0 0,.bool false]
theorem fac_none_len {s:ByteArray} {L:List ByteArray} (hL:L.map (fun x=>x.data.toList)=splitL (isB 32) [] s.data.toList) (h:L.length≠5) (h6:L.length≠6):psFac s=none:=by
  refine psFac_none fun f hf=>?_
  rcases (fac_words hf hL).1 with ⟨h1,_⟩ | ⟨h1,_⟩ <;> omega
theorem fac_none_x {s:ByteArray} {L:List ByteArray} {w1 w4 w5:ByteArray} (hL:L.map (fun x=>x.data.toList)=splitL (isB 32) [] s.data.toList) (h1:L[1]? = some w1) (h4:L[L.length - 2]? = some w4) (h5:L[L.length - 1]? = some w5) (h:¬ ((psI w1).isSome=true∧(psPose w4).isSome=true∧(psI w5).isSome=true)):psFac s=none:=by
  refine psFac_none fun f hf=>h ?_
  obtain ⟨_,_,⟨v1,e1,g1⟩,_,⟨v4,e4,g4⟩,v5,e5,g5⟩:=fac_words hf hL
  rw [h1] at e1;rw [h4] at e4;rw [h5] at e5
  simp only [Option.some.injEq] at e1 e4 e5
  subst e1 e4 e5
  rw [g1,g4,g5];exact ⟨rfl,rfl,rfl⟩
theorem fac_none_all {s:ByteArray} {L:List ByteArray} {w1 w3 w4 w5 fr:ByteArray} (hL:L.map (fun x=>x.data.toList)=splitL (isB 32) [] s.data.toList) (h1:L[1]? = some w1) (h3:L[L.length - 3]? = some w3) (h4:L[L.length - 2]? = some w4) (h5:L[L.length - 1]? = some w5)
    (hfr:(L.length=6→L[2]? = some fr)∧(L.length≠6→fr=⟨#[]⟩)) (h:∀ j:Nat,1≤j→j < 5→¬ FacOf s ⟨(psI w1).getD 0,j,fr,w3,(psPose w4).getD ⟨0,0,0⟩,(psI w5).getD 0⟩):psFac s=none:=by
  refine psFac_none fun f hf=>?_
  obtain ⟨g0,_,⟨v1,e1,g1⟩,e3,⟨v4,e4,g4⟩,v5,e5,g5⟩:=fac_words hf hL
  rw [h1] at e1;rw [h3] at e3;rw [h4] at e4;rw [h5] at e5
  simp only [Option.some.injEq] at e1 e3 e4 e5
  subst e1 e4 e5
  rw [g1,g4,g5] at h
  have hk:=(vld_parts hf.1).2.2.2.1
  have hfr':fr=f.frm:=by
    rcases g0 with ⟨n1,_,r1⟩ | ⟨n1,_,r1⟩
    · rw [r1];exact hfr.2 (by omega)
    · have:=hfr.1 n1;rw [r1] at this;simpa using this.symm
  obtain ⟨fi,fk,ff,ft,fp,fw⟩:=f
  simp only at hk hfr' e3
  subst hfr' e3
  simp only [Option.getD_some] at h
  obtain ⟨u,rfl⟩:=Int.eq_ofNat_of_zero_le (show 0≤fk by omega)
  exact h u (by omega) (by omega) hf
theorem fac_iff {s:ByteArray} {f:Factor} (hv:vldFactor f=true):((fmtFac f).toList == s.toList)=true ↔ FacOf s f:=by
  rw [facOf_iff]
  constructor
  · intro h;exact ⟨hv,toL_inj (eq_of_beq h)⟩
  · intro h;rw [h.2];simp
theorem fmtFac_ne {f:Factor} (hv:vldFactor f=true):(fmtFac f).toList.isEmpty=false:=by
  unfold fmtFac;rw [hv,if_pos rfl,ByteArray.toList_eq];simp [facL]
theorem fmtFac_no {f:Factor} (hv:vldFactor f=false):fmtFac f=⟨#[]⟩:=by
  unfold fmtFac;rw [hv];rfl
theorem vPoseO_eq (o:Option Pose):vPoseO o=.tuple #[vPose (o.getD ⟨0,0,0⟩).turn (o.getD ⟨0,0,0⟩).x (o.getD ⟨0,0,0⟩).y,.bool o.isSome]:=by cases o <;> rfl
theorem b8 {a w:World} (h:Below a.heap.size a w) {b:Nat} (hb:a.heap.size≤b) (u0 u1 u2 u3 u4 u5 u6 u7:Value):Below a.heap.size a ((((((((w.setCell ⟨b,0,none⟩ u0).setCell ⟨b,1,none⟩ u1).setCell ⟨b,2,none⟩ u2).setCell ⟨b,3,none⟩ u3).setCell ⟨b,4,none⟩ u4).setCell ⟨b,5,none⟩ u5).setCell ⟨b,6,none⟩ u6).setCell ⟨b,7,none⟩ u7):=bSet (bSet (bSet (bSet (bSet (bSet (bSet (bSet h hb u0) hb u1) hb u2) hb u3) hb u4) hb u5) hb u6) hb u7
theorem Bk.alloc_ {w:World} {b:Nat} {t:TypeId} {cs:List Value} (h:Bk w b t cs) (o:Obj):Bk (w.alloc o) b t cs:=h.below (bAlloc (Below.refl _ _) o)
theorem RowS.get {w:World} {g off n:Nat} {L:List ByteArray} (h:RowS w (some ⟨g,off,none⟩) n L) {k:Nat} {f:ByteArray} (hk:L[k]? = some f):w.cell? ⟨g,off+k,none⟩=some (.string f):=by
  have hl:L.length=n:=h.len.out
  have hkn:=(List.getElem?_eq_some_iff.1 hk).1
  obtain ⟨f',g',off',hf,hA,hc⟩:=RowS.at_ h (k:=k) (by omega)
  simp only [Option.some.injEq,Addr.mk.injEq,and_true] at hA
  obtain ⟨rfl,rfl⟩:=hA
  rw [hk] at hf
  have:=hf.out
  simp only [Option.some.injEq] at this
  rw [this];exact hc
theorem RowS.some_ {w:World} {A:Option Addr} {n:Nat} {L:List ByteArray} (h:RowS w A n L) (hn:0 < n):∃ g off,A=some ⟨g,off,none⟩:=by
  obtain ⟨f',g',off',hf,hA,hc⟩:=RowS.at_ h (k:=0) hn
  exact ⟨g',off',hA⟩
theorem cell_set_ne {w:World} {q:Addr} {v:Value} (h:w.cell? q=some v) {p:Addr} (hp:q.block≠p.block) (u:Value):(w.setCell p u).cell? q=some v:=by
  have e:=Below.heap_setCell w p u q.block hp
  unfold World.cell? at h ⊢
  rw [e];exact h
theorem ex_at {α:Type} {L:List α} {k:Nat} (h:k < L.length):∃ x,L[k]? = some x:=⟨L[k],by simp [h]⟩
theorem spec_ParseFactor_c (s:ByteArray) (w:World) (hs:s.size≤4194304):Calls Tryz.prog 171 #[.string s] w fun e w'=>e=.returned (vFacO (psFac s))∧Below w.heap.size w w':=by
  go_enter Tryz.func171,Tryz.ntmps171
  go_wp2_with fail
  refine Calls.mono (spec_SplitAny_k s 32 _ (by omega)) ?_
  rintro e w1_ ⟨v,L,rfl,ho,hL,hb1⟩
  have bx1:=(Bk.new w [.int .i64 0,.int .i64 0,.string ⟨#[]⟩,.string ⟨#[]⟩,.int .i64 0,.int .i64 0,.int .i64 0,.int .i64 0] 34 _ rfl).below hb1
  have B1:Below w.heap.size w w1_:=bTrans (bAlloc (Below.refl _ _) _) hb1
  have HL:=Lib.hid hL
  have hlen:L.length=v.n:=by have:=ho.lens;simpa [Hid] using this
  have hrow:RowS w1_ v.A v.n L:=ho.row
  have hws:=word_size hL
  have hnc:=ho.nc
  simp only [maxLen] at hnc
  have hn63:(v.n:Int)≤9223372036854775807:=by omega
  clear hb1 ho hL hnc
  obtain ⟨A,n,c⟩:=v
  simp only at hlen hrow hn63
  by_cases h5n:5≤n
  · obtain ⟨g,off,rfl⟩:=hrow.some_ (by omega)
    obtain ⟨w1,h1⟩:=ex_at (L:=L) (k:=1) (by omega)
    obtain ⟨w3,h3⟩:=ex_at (L:=L) (k:=L.length - 3) (by omega)
    obtain ⟨w4,h4⟩:=ex_at (L:=L) (k:=L.length - 2) (by omega)
    obtain ⟨w5,h5⟩:=ex_at (L:=L) (k:=L.length - 1) (by omega)
    have z1:=hws w1 (List.mem_of_getElem? h1)
    have z3:=hws w3 (List.mem_of_getElem? h3)
    have z4:=hws w4 (List.mem_of_getElem? h4)
    have z5:=hws w5 (List.mem_of_getElem? h5)
    by_cases h6n:n=6
    · subst h6n
      obtain ⟨w2,h2⟩:=ex_at (L:=L) (k:=2) (by omega)
      have z2:=hws w2 (List.mem_of_getElem? h2)
      clear hws
      have c1:=RowS.get hrow h1
      have c2:=RowS.get hrow h2
      have c3:=RowS.get hrow h3
      have c4:=RowS.get hrow h4
      have c5:=RowS.get hrow h5
      simp only [hlen,Nat.reduceSub] at c3 c4 c5
      have HALL:=Lib.hid (fac_none_all (fr:=w2) HL.out h1 h3 h4 h5 ⟨fun _=>h2,fun _=>by omega⟩)
      obtain ⟨x,hx⟩:∃ x,x=(psI w1).getD 0:=⟨_,rfl⟩
      obtain ⟨p,hp⟩:∃ p,p=(psPose w4).getD ⟨0,0,0⟩:=⟨_,rfl⟩
      obtain ⟨y,hy⟩:∃ y,y=(psI w5).getD 0:=⟨_,rfl⟩
      rw [← hx,← hp,← hy] at HALL
      have H1:=Lib.hid (show vPair (psI w1)=.tuple #[.int .i64 x,.bool (psI w1).isSome] by rw [hx];exact vPair_eq _)
      have H4:=Lib.hid (show vPoseO (psPose w4)=.tuple #[vPose p.turn p.x p.y,.bool (psPose w4).isSome] by rw [hp];exact vPoseO_eq _)
      have H5:=Lib.hid (show vPair (psI w5)=.tuple #[.int .i64 y,.bool (psI w5).isSome] by rw [hy];exact vPair_eq _)
      obtain ⟨t,ux,uy⟩:=p
      simp only at H4
      have hg1:g < w1_.heap.size:=cell_lt c1
      have hlt1:w.heap.size < w1_.heap.size:=bx1.lt
      have hB1:w.heap.size≤w1_.heap.size:=by omega
      have hne1:¬ g=w1_.heap.size:=by omega
      clear hx hp hy hrow h1 h3 h4 h5 h2
      go_wp2_with fail
      refine Calls.mono (spec_ParseInt_c w1 _ (by omega)) ?_
      rintro e w2_ ⟨rfl,hb2⟩
      rw [H1.out]
      have c4':=bCell hb2 (bCell (bAlloc (Below.refl _ _) _) c4)
      have c5':=bCell hb2 (bCell (bAlloc (Below.refl _ _) _) c5)
      have c2':=bCell hb2 (bCell (bAlloc (Below.refl _ _) _) c2)
      have bx2:=(bx1.alloc_ _).below hb2
      have px2:=(Bk.new w1_ [.int .i64 0,.int .i64 0,.string ⟨#[]⟩,.string w3,.int .i64 0,.int .i64 0,.int .i64 0,.int .i64 0] 34 _ rfl).below hb2
      have B2:=bTrans (bAlloc B1 _) hb2
      clear hb2 c1 c3 c4 c5 bx1 B1 H1 c2
      have q0:=px2.bx.cells 0 _ rfl;have q1:=px2.bx.cells 1 _ rfl;have q2:=px2.bx.cells 2 _ rfl;have q3:=px2.bx.cells 3 _ rfl;have q4:=px2.bx.cells 4 _ rfl;have q5:=px2.bx.cells 5 _ rfl;have q6:=px2.bx.cells 6 _ rfl;have q7:=px2.bx.cells 7 _ rfl;have qf:=px2.bx.froz;have qz:=px2.lt
      go_wp2_with fail
      refine Calls.mono (spec_ParsePose_c w4 _ (by omega)) ?_
      rintro e w3_ ⟨rfl,hb3⟩
      rw [H4.out]
      have c5'':=bCell hb3 (cell_set_ne c5' (p:=⟨w1_.heap.size,0,none⟩) (by simp only;omega) (.int .i64 x))
      have c2'':=bCell hb3 (cell_set_ne c2' (p:=⟨w1_.heap.size,0,none⟩) (by simp only;omega) (.int .i64 x))
      have bx3:=(bx2.set_ne (p:=⟨w1_.heap.size,0,none⟩) (by simp only;omega) (.int .i64 x)).below hb3
      have px3:=(px2.set 0 (.int .i64 x)).below hb3
      have B3:=bTrans (bSet B2 hB1 _) hb3
      simp only [List.set_cons_succ,List.set_cons_zero] at px3
      clear hb3 c4' c5' bx2 px2 B2 H4 q0 q1 q2 q3 q4 q5 q6 q7 qf qz c2'
      have q0:=px3.bx.cells 0 _ rfl;have q1:=px3.bx.cells 1 _ rfl;have q2:=px3.bx.cells 2 _ rfl;have q3:=px3.bx.cells 3 _ rfl;have q4:=px3.bx.cells 4 _ rfl;have q5:=px3.bx.cells 5 _ rfl;have q6:=px3.bx.cells 6 _ rfl;have q7:=px3.bx.cells 7 _ rfl;have qf:=px3.bx.froz;have qz:=px3.lt
      go_wp2_with fail
      refine Calls.mono (spec_ParseInt_c w5 _ (by omega)) ?_
      rintro e w4_ ⟨rfl,hb4⟩
      rw [H5.out]
      have c2''':=bCell hb4 (cell_set_ne (cell_set_ne (cell_set_ne c2'' (p:=⟨w1_.heap.size,4,none⟩) (by simp only;omega) (.int .i64 t)) (p:=⟨w1_.heap.size,5,none⟩) (by simp only;omega) (.int .i64 ux)) (p:=⟨w1_.heap.size,6,none⟩) (by simp only;omega) (.int .i64 uy))
      have bx4:=(((bx3.set_ne (p:=⟨w1_.heap.size,4,none⟩) (by simp only;omega) (.int .i64 t)).set_ne (p:=⟨w1_.heap.size,5,none⟩) (by simp only;omega) (.int .i64 ux)).set_ne (p:=⟨w1_.heap.size,6,none⟩) (by simp only;omega) (.int .i64 uy)).below hb4
      have px4:=(((px3.set 4 (.int .i64 t)).set 5 (.int .i64 ux)).set 6 (.int .i64 uy)).below hb4
      have B4:=bTrans (bSet (bSet (bSet B3 hB1 _) hB1 _) hB1 _) hb4
      simp only [List.set_cons_succ,List.set_cons_zero] at px4
      clear hb4 c5'' bx3 px3 B3 H5 q0 q1 q2 q3 q4 q5 q6 q7 qf qz c2''
      have q0:=px4.bx.cells 0 _ rfl;have q1:=px4.bx.cells 1 _ rfl;have q2:=px4.bx.cells 2 _ rfl;have q3:=px4.bx.cells 3 _ rfl;have q4:=px4.bx.cells 4 _ rfl;have q5:=px4.bx.cells 5 _ rfl;have q6:=px4.bx.cells 6 _ rfl;have q7:=px4.bx.cells 7 _ rfl;have qf:=px4.bx.froz;have qz:=px4.lt
      go_wp2_with fail
      have bx5:=(((bx4.set_ne (p:=⟨w1_.heap.size,7,none⟩) (by simp only;omega) (.int .i64 y)).set_ne (p:=⟨w1_.heap.size,2,none⟩) (by simp only;omega) (.string w2)).set_ne (p:=⟨w1_.heap.size,1,none⟩) (by simp only;omega) (.int .i64 1))
      have px5:=(((px4.set 7 (.int .i64 y)).set 2 (.string w2)).set 1 (.int .i64 1))
      have B5:=(bSet (bSet (bSet B4 (p:=⟨w1_.heap.size,7,none⟩) hB1 (.int .i64 y)) (p:=⟨w1_.heap.size,2,none⟩) hB1 (.string w2)) (p:=⟨w1_.heap.size,1,none⟩) hB1 (.int .i64 1))
      simp only [List.set_cons_succ,List.set_cons_zero] at px5
      clear bx4 px4 B4 q0 q1 q2 q3 q4 q5 q6 q7 qf qz c2'''
      have HNE:=hlt1
      clear hlt1 hne1 hg1
      generalize w1_.heap.size=P at *
      go_loopw [58] (fun _ wr=>∃ k:Nat,1≤k∧k≤5∧(∀ j:Nat,1≤j→j < k→¬ FacOf s ⟨x,j,w2,w3,⟨t,ux,uy⟩,y⟩)∧Bk wr P 34 [.int .i64 x,.int .i64 (k:Int),.string w2,.string w3,.int .i64 t,.int .i64 ux,.int .i64 uy,.int .i64 y]∧Bk wr w.heap.size 34 [.int .i64 0,.int .i64 0,.string ⟨#[]⟩,.string ⟨#[]⟩,.int .i64 0,.int .i64 0,.int .i64 0,.int .i64 0]∧Below w.heap.size w wr) (fun _ wr=>5 - (intOf ((wr.cell? ⟨P,1,none⟩).getD (.int .i64 0))).toNat)
      case atStart=>exact ⟨1,by omega,by omega,fun j hj hj2=>by omega,px5,bx5,B5⟩
      case round =>
        obtain ⟨k,hk1,hk,hno,px,bx,B⟩:=hrel
        have HNO:=Lib.hid hno
        clear hno
        have hPk:¬ P=w.heap.size:=by omega
        have hPk2:¬ w.heap.size=P:=by omega
        have hs3:w3.size≤4194304:=by omega
        have hs2:w2.size≤4194304:=by omega
        have q0:=px.bx.cells 0 _ rfl;have q1:=px.bx.cells 1 _ rfl;have q2:=px.bx.cells 2 _ rfl;have q3:=px.bx.cells 3 _ rfl;have q4:=px.bx.cells 4 _ rfl;have q5:=px.bx.cells 5 _ rfl;have q6:=px.bx.cells 6 _ rfl;have q7:=px.bx.cells 7 _ rfl;have qf:=px.bx.froz;have qz:=px.lt
        by_cases hlt:k < 5
        · have hkl:(k:Int)≤4:=by omega
          cases hv:vldFactor ⟨x,(k:Int),w2,w3,⟨t,ux,uy⟩,y⟩ with
          | false =>
            have HNX:=Lib.hid (show ∀ j:Nat,1≤j→j < k+1→¬ FacOf s ⟨x,j,w2,w3,⟨t,ux,uy⟩,y⟩ from fun j hj hj2 hp=>by
              by_cases e:j=k
              · subst e;rw [hp.1] at hv;cases hv
              · exact HNO.out j hj (by omega) hp)
            have HV:=Lib.hid (fmtFac_no hv)
            clear hv
            go_wp2_with (go_at_call 121;refine (spec_FormatFactor_c _ _ _ _ _ _ _ _ _ hs2 hs3).mono ?_;rw [HV.out];rintro e w4_ ⟨rfl,hb4⟩;have px4:=px.below hb4;have bx4:=bx.below hb4;have B4:=bTrans B hb4;have s0:=px4.bx.cells 0 _ rfl;have s1:=px4.bx.cells 1 _ rfl;have s2:=px4.bx.cells 2 _ rfl;have s3:=px4.bx.cells 3 _ rfl;have s4:=px4.bx.cells 4 _ rfl;have s5:=px4.bx.cells 5 _ rfl;have s6:=px4.bx.cells 6 _ rfl;have s7:=px4.bx.cells 7 _ rfl;have sf:=px4.bx.froz;have sz:=px4.lt)
            exact ⟨⟨k+1,by omega,by omega,HNX.out,by simpa using px4.set 1 (.int .i64 ((k:Int)+1)),bx4.set_ne (p:=⟨P,1,none⟩) (by simp only;omega) _,bSet B4 (p:=⟨P,1,none⟩) (by simp only;omega) _⟩,by rw [(px4.set 1 (.int .i64 ((k:Int)+1))).bx.cells 1 _ rfl,q1];simp only [Option.getD_some,intOf];omega⟩
          | true =>
            have hne:=fmtFac_ne hv
            have tok1:True:=trivial
            cases he:((fmtFac ⟨x,(k:Int),w2,w3,⟨t,ux,uy⟩,y⟩).toList == s.toList) with
            | true =>
              have HP:=Lib.hid (psFac_some ((fac_iff hv).1 he))
              clear hv
              go_wp2_with (first | (have _t:=tok1;go_at_call 121;refine (spec_FormatFactor_c _ _ _ _ _ _ _ _ _ hs2 hs3).mono ?_;rintro e w4_ ⟨rfl,hb4⟩;have px4:=px.below hb4;have bx4:=bx.below hb4;have B4:=bTrans B hb4;clear tok1;have s0:=px4.bx.cells 0 _ rfl;have s1:=px4.bx.cells 1 _ rfl;have s2:=px4.bx.cells 2 _ rfl;have s3:=px4.bx.cells 3 _ rfl;have s4:=px4.bx.cells 4 _ rfl;have s5:=px4.bx.cells 5 _ rfl;have s6:=px4.bx.cells 6 _ rfl;have s7:=px4.bx.cells 7 _ rfl;have sf:=px4.bx.froz;have sz:=px4.lt) | (go_at_call 121;refine (spec_FormatFactor_c _ _ _ _ _ _ _ _ _ hs2 hs3).mono ?_;rintro e w5_ ⟨rfl,hb5⟩;have px5:=px4.below hb5;have bx5:=bx4.below hb5;have B5:=bTrans B4 hb5;have t0:=px5.bx.cells 0 _ rfl;have t1:=px5.bx.cells 1 _ rfl;have t2:=px5.bx.cells 2 _ rfl;have t3:=px5.bx.cells 3 _ rfl;have t4:=px5.bx.cells 4 _ rfl;have t5:=px5.bx.cells 5 _ rfl;have t6:=px5.bx.cells 6 _ rfl;have t7:=px5.bx.cells 7 _ rfl;have tf:=px5.bx.froz;have tz:=px5.lt;have r0:=bx5.bx.cells 0 _ rfl;have r1:=bx5.bx.cells 1 _ rfl;have r2:=bx5.bx.cells 2 _ rfl;have r3:=bx5.bx.cells 3 _ rfl;have r4:=bx5.bx.cells 4 _ rfl;have r5:=bx5.bx.cells 5 _ rfl;have r6:=bx5.bx.cells 6 _ rfl;have r7:=bx5.bx.cells 7 _ rfl;have rf:=bx5.bx.froz;have rz:=bx5.lt))
              refine bodyPost_ret (v:=.tuple #[vFactor x (k:Int) w2 w3 t ux uy y,.bool true]) (by simp [*,results,Tryz.results171,go_sem]) rfl ⟨by rw [HP.out];rfl,?_⟩
              exact b8 B5 (Nat.le_refl _) _ _ _ _ _ _ _ _
            | false =>
              have HNX:=Lib.hid (show ∀ j:Nat,1≤j→j < k+1→¬ FacOf s ⟨x,j,w2,w3,⟨t,ux,uy⟩,y⟩ from fun j hj hj2 hp=>by
                by_cases e:j=k
                · subst e;rw [(fac_iff hv).2 hp] at he;cases he
                · exact HNO.out j hj (by omega) hp)
              clear hv
              go_wp2_with (first | (have _t:=tok1;go_at_call 121;refine (spec_FormatFactor_c _ _ _ _ _ _ _ _ _ hs2 hs3).mono ?_;rintro e w4_ ⟨rfl,hb4⟩;have px4:=px.below hb4;have bx4:=bx.below hb4;have B4:=bTrans B hb4;clear tok1;have s0:=px4.bx.cells 0 _ rfl;have s1:=px4.bx.cells 1 _ rfl;have s2:=px4.bx.cells 2 _ rfl;have s3:=px4.bx.cells 3 _ rfl;have s4:=px4.bx.cells 4 _ rfl;have s5:=px4.bx.cells 5 _ rfl;have s6:=px4.bx.cells 6 _ rfl;have s7:=px4.bx.cells 7 _ rfl;have sf:=px4.bx.froz;have sz:=px4.lt) | (go_at_call 121;refine (spec_FormatFactor_c _ _ _ _ _ _ _ _ _ hs2 hs3).mono ?_;rintro e w5_ ⟨rfl,hb5⟩;have px5:=px4.below hb5;have bx5:=bx4.below hb5;have B5:=bTrans B4 hb5;have t0:=px5.bx.cells 0 _ rfl;have t1:=px5.bx.cells 1 _ rfl;have t2:=px5.bx.cells 2 _ rfl;have t3:=px5.bx.cells 3 _ rfl;have t4:=px5.bx.cells 4 _ rfl;have t5:=px5.bx.cells 5 _ rfl;have t6:=px5.bx.cells 6 _ rfl;have t7:=px5.bx.cells 7 _ rfl;have tf:=px5.bx.froz;have tz:=px5.lt))
              exact ⟨⟨k+1,by omega,by omega,HNX.out,by simpa using px5.set 1 (.int .i64 ((k:Int)+1)),bx5.set_ne (p:=⟨P,1,none⟩) (by simp only;omega) _,bSet B5 (p:=⟨P,1,none⟩) (by simp only;omega) _⟩,by rw [(px5.set 1 (.int .i64 ((k:Int)+1))).bx.cells 1 _ rfl,q1];simp only [Option.getD_some,intOf];omega⟩
        · obtain rfl:k=5:=by omega
          have HN:=Lib.hid (HALL.out HNO.out)
          have r0:=bx.bx.cells 0 _ rfl;have r1:=bx.bx.cells 1 _ rfl;have r2:=bx.bx.cells 2 _ rfl;have r3:=bx.bx.cells 3 _ rfl;have r4:=bx.bx.cells 4 _ rfl;have r5:=bx.bx.cells 5 _ rfl;have r6:=bx.bx.cells 6 _ rfl;have r7:=bx.bx.cells 7 _ rfl;have rf:=bx.bx.froz;have rz:=bx.lt
          go_wp2_with fail
          refine bodyPost_ret (v:=.tuple #[vFactor 0 0 ⟨#[]⟩ ⟨#[]⟩ 0 0 0 0,.bool false]) (by simp [*,results,Tryz.results171,go_sem]) rfl ⟨by rw [HN.out];rfl,?_⟩
          exact b8 B (Nat.le_refl _) _ _ _ _ _ _ _ _
    · clear hws
      have c1:=RowS.get hrow h1
      have c3:=RowS.get hrow h3
      have c4:=RowS.get hrow h4
      have c5:=RowS.get hrow h5
      rw [hlen] at c3 c4 c5
      have e3:wrap64 ((n:Int) - 3)=(n:Int) - 3:=IntWalk.wrap64_in _ ⟨by omega,by omega⟩
      have e2:wrap64 ((n:Int) - 2)=(n:Int) - 2:=IntWalk.wrap64_in _ ⟨by omega,by omega⟩
      have e1:wrap64 ((n:Int) - 1)=(n:Int) - 1:=IntWalk.wrap64_in _ ⟨by omega,by omega⟩
      have i3:(0:Int)≤(n:Int) - 3:=by omega
      have i2:(0:Int)≤(n:Int) - 2:=by omega
      have i1:(0:Int)≤(n:Int) - 1:=by omega
      have j3:(n:Int) - 3 < (n:Int):=by omega
      have j2:(n:Int) - 2 < (n:Int):=by omega
      have j1:(n:Int) - 1 < (n:Int):=by omega
      have k1:(1:Int) < (n:Int):=by omega
      have k5:¬ (n:Int) < 5:=by omega
      have k6:¬ n=6:=by omega
      have k6':¬ (n:Int)=6:=by omega
      have k6b:((n:Int) == 6)=false:=by simp only [beq_eq_false_iff_ne];omega
      have HALL:=Lib.hid (fac_none_all (fr:=⟨#[]⟩) HL.out h1 h3 h4 h5 ⟨fun _=>by omega,fun _=>rfl⟩)
      obtain ⟨x,hx⟩:∃ x,x=(psI w1).getD 0:=⟨_,rfl⟩
      obtain ⟨p,hp⟩:∃ p,p=(psPose w4).getD ⟨0,0,0⟩:=⟨_,rfl⟩
      obtain ⟨y,hy⟩:∃ y,y=(psI w5).getD 0:=⟨_,rfl⟩
      rw [← hx,← hp,← hy] at HALL
      have H1:=Lib.hid (show vPair (psI w1)=.tuple #[.int .i64 x,.bool (psI w1).isSome] by rw [hx];exact vPair_eq _)
      have H4:=Lib.hid (show vPoseO (psPose w4)=.tuple #[vPose p.turn p.x p.y,.bool (psPose w4).isSome] by rw [hp];exact vPoseO_eq _)
      have H5:=Lib.hid (show vPair (psI w5)=.tuple #[.int .i64 y,.bool (psI w5).isSome] by rw [hy];exact vPair_eq _)
      obtain ⟨t,ux,uy⟩:=p
      simp only at H4
      have hg1:g < w1_.heap.size:=cell_lt c1
      have hlt1:w.heap.size < w1_.heap.size:=bx1.lt
      have hB1:w.heap.size≤w1_.heap.size:=by omega
      have hne1:¬ g=w1_.heap.size:=by omega
      clear hx hp hy hrow h1 h3 h4 h5
      go_wp2_with fail
      refine Calls.mono (spec_ParseInt_c w1 _ (by omega)) ?_
      rintro e w2_ ⟨rfl,hb2⟩
      rw [H1.out]
      have c4':=bCell hb2 (bCell (bAlloc (Below.refl _ _) _) c4)
      have c5':=bCell hb2 (bCell (bAlloc (Below.refl _ _) _) c5)
      have bx2:=(bx1.alloc_ _).below hb2
      have px2:=(Bk.new w1_ [.int .i64 0,.int .i64 0,.string ⟨#[]⟩,.string w3,.int .i64 0,.int .i64 0,.int .i64 0,.int .i64 0] 34 _ rfl).below hb2
      have B2:=bTrans (bAlloc B1 _) hb2
      clear hb2 c1 c3 c4 c5 bx1 B1 H1
      have q0:=px2.bx.cells 0 _ rfl;have q1:=px2.bx.cells 1 _ rfl;have q2:=px2.bx.cells 2 _ rfl;have q3:=px2.bx.cells 3 _ rfl;have q4:=px2.bx.cells 4 _ rfl;have q5:=px2.bx.cells 5 _ rfl;have q6:=px2.bx.cells 6 _ rfl;have q7:=px2.bx.cells 7 _ rfl;have qf:=px2.bx.froz;have qz:=px2.lt
      go_wp2_with fail
      refine Calls.mono (spec_ParsePose_c w4 _ (by omega)) ?_
      rintro e w3_ ⟨rfl,hb3⟩
      rw [H4.out]
      have c5'':=bCell hb3 (cell_set_ne c5' (p:=⟨w1_.heap.size,0,none⟩) (by simp only;omega) (.int .i64 x))
      have bx3:=(bx2.set_ne (p:=⟨w1_.heap.size,0,none⟩) (by simp only;omega) (.int .i64 x)).below hb3
      have px3:=(px2.set 0 (.int .i64 x)).below hb3
      have B3:=bTrans (bSet B2 hB1 _) hb3
      simp only [List.set_cons_succ,List.set_cons_zero] at px3
      clear hb3 c4' c5' bx2 px2 B2 H4 q0 q1 q2 q3 q4 q5 q6 q7 qf qz
      have q0:=px3.bx.cells 0 _ rfl;have q1:=px3.bx.cells 1 _ rfl;have q2:=px3.bx.cells 2 _ rfl;have q3:=px3.bx.cells 3 _ rfl;have q4:=px3.bx.cells 4 _ rfl;have q5:=px3.bx.cells 5 _ rfl;have q6:=px3.bx.cells 6 _ rfl;have q7:=px3.bx.cells 7 _ rfl;have qf:=px3.bx.froz;have qz:=px3.lt
      go_wp2_with fail
      refine Calls.mono (spec_ParseInt_c w5 _ (by omega)) ?_
      rintro e w4_ ⟨rfl,hb4⟩
      rw [H5.out]
      have bx4:=(((bx3.set_ne (p:=⟨w1_.heap.size,4,none⟩) (by simp only;omega) (.int .i64 t)).set_ne (p:=⟨w1_.heap.size,5,none⟩) (by simp only;omega) (.int .i64 ux)).set_ne (p:=⟨w1_.heap.size,6,none⟩) (by simp only;omega) (.int .i64 uy)).below hb4
      have px4:=(((px3.set 4 (.int .i64 t)).set 5 (.int .i64 ux)).set 6 (.int .i64 uy)).below hb4
      have B4:=bTrans (bSet (bSet (bSet B3 hB1 _) hB1 _) hB1 _) hb4
      simp only [List.set_cons_succ,List.set_cons_zero] at px4
      clear hb4 c5'' bx3 px3 B3 H5 q0 q1 q2 q3 q4 q5 q6 q7 qf qz
      have q0:=px4.bx.cells 0 _ rfl;have q1:=px4.bx.cells 1 _ rfl;have q2:=px4.bx.cells 2 _ rfl;have q3:=px4.bx.cells 3 _ rfl;have q4:=px4.bx.cells 4 _ rfl;have q5:=px4.bx.cells 5 _ rfl;have q6:=px4.bx.cells 6 _ rfl;have q7:=px4.bx.cells 7 _ rfl;have qf:=px4.bx.froz;have qz:=px4.lt
      go_wp2_with fail
      have bx5:=((bx4.set_ne (p:=⟨w1_.heap.size,7,none⟩) (by simp only;omega) (.int .i64 y)).set_ne (p:=⟨w1_.heap.size,1,none⟩) (by simp only;omega) (.int .i64 1))
      have px5:=((px4.set 7 (.int .i64 y)).set 1 (.int .i64 1))
      have B5:=(bSet (bSet B4 (p:=⟨w1_.heap.size,7,none⟩) hB1 (.int .i64 y)) (p:=⟨w1_.heap.size,1,none⟩) hB1 (.int .i64 1))
      simp only [List.set_cons_succ,List.set_cons_zero] at px5
      clear bx4 px4 B4 q0 q1 q2 q3 q4 q5 q6 q7 qf qz
      have HNE:=hlt1
      clear hlt1 hne1 hg1
      generalize w1_.heap.size=P at *
      clear e1 e2 e3 i1 i2 i3 j1 j2 j3 k1 k5 k6 k6' h6n h5n
      go_loopw [58] (fun _ wr=>∃ k:Nat,1≤k∧k≤5∧(∀ j:Nat,1≤j→j < k→¬ FacOf s ⟨x,j,⟨#[]⟩,w3,⟨t,ux,uy⟩,y⟩)∧Bk wr P 34 [.int .i64 x,.int .i64 (k:Int),.string ⟨#[]⟩,.string w3,.int .i64 t,.int .i64 ux,.int .i64 uy,.int .i64 y]∧Bk wr w.heap.size 34 [.int .i64 0,.int .i64 0,.string ⟨#[]⟩,.string ⟨#[]⟩,.int .i64 0,.int .i64 0,.int .i64 0,.int .i64 0]∧Below w.heap.size w wr) (fun _ wr=>5 - (intOf ((wr.cell? ⟨P,1,none⟩).getD (.int .i64 0))).toNat)
      case atStart=>exact ⟨1,by omega,by omega,fun j hj hj2=>by omega,px5,bx5,B5⟩
      case round =>
        obtain ⟨k,hk1,hk,hno,px,bx,B⟩:=hrel
        have HNO:=Lib.hid hno
        clear hno
        have hPk:¬ P=w.heap.size:=by omega
        have hPk2:¬ w.heap.size=P:=by omega
        have hs3:w3.size≤4194304:=by omega
        have q0:=px.bx.cells 0 _ rfl;have q1:=px.bx.cells 1 _ rfl;have q2:=px.bx.cells 2 _ rfl;have q3:=px.bx.cells 3 _ rfl;have q4:=px.bx.cells 4 _ rfl;have q5:=px.bx.cells 5 _ rfl;have q6:=px.bx.cells 6 _ rfl;have q7:=px.bx.cells 7 _ rfl;have qf:=px.bx.froz;have qz:=px.lt
        by_cases hlt:k < 5
        · have hkl:(k:Int)≤4:=by omega
          cases hv:vldFactor ⟨x,(k:Int),⟨#[]⟩,w3,⟨t,ux,uy⟩,y⟩ with
          | false =>
            have HNX:=Lib.hid (show ∀ j:Nat,1≤j→j < k+1→¬ FacOf s ⟨x,j,⟨#[]⟩,w3,⟨t,ux,uy⟩,y⟩ from fun j hj hj2 hp=>by
              by_cases e:j=k
              · subst e;rw [hp.1] at hv;cases hv
              · exact HNO.out j hj (by omega) hp)
            have HV:=Lib.hid (fmtFac_no hv)
            clear hv
            go_wp2_with (go_at_call 121;refine (spec_FormatFactor_c _ _ _ _ _ _ _ _ _ (by decide) hs3).mono ?_;rw [HV.out];rintro e w4_ ⟨rfl,hb4⟩;have px4:=px.below hb4;have bx4:=bx.below hb4;have B4:=bTrans B hb4;have s0:=px4.bx.cells 0 _ rfl;have s1:=px4.bx.cells 1 _ rfl;have s2:=px4.bx.cells 2 _ rfl;have s3:=px4.bx.cells 3 _ rfl;have s4:=px4.bx.cells 4 _ rfl;have s5:=px4.bx.cells 5 _ rfl;have s6:=px4.bx.cells 6 _ rfl;have s7:=px4.bx.cells 7 _ rfl;have sf:=px4.bx.froz;have sz:=px4.lt)
            exact ⟨⟨k+1,by omega,by omega,HNX.out,by simpa using px4.set 1 (.int .i64 ((k:Int)+1)),bx4.set_ne (p:=⟨P,1,none⟩) (by simp only;omega) _,bSet B4 (p:=⟨P,1,none⟩) (by simp only;omega) _⟩,by rw [(px4.set 1 (.int .i64 ((k:Int)+1))).bx.cells 1 _ rfl,q1];simp only [Option.getD_some,intOf];omega⟩
          | true =>
            have hne:=fmtFac_ne hv
            have tok1:True:=trivial
            cases he:((fmtFac ⟨x,(k:Int),⟨#[]⟩,w3,⟨t,ux,uy⟩,y⟩).toList == s.toList) with
            | true =>
              have HP:=Lib.hid (psFac_some ((fac_iff hv).1 he))
              clear hv
              go_wp2_with (first | (have _t:=tok1;go_at_call 121;refine (spec_FormatFactor_c _ _ _ _ _ _ _ _ _ (by decide) hs3).mono ?_;rintro e w4_ ⟨rfl,hb4⟩;have px4:=px.below hb4;have bx4:=bx.below hb4;have B4:=bTrans B hb4;clear tok1;have s0:=px4.bx.cells 0 _ rfl;have s1:=px4.bx.cells 1 _ rfl;have s2:=px4.bx.cells 2 _ rfl;have s3:=px4.bx.cells 3 _ rfl;have s4:=px4.bx.cells 4 _ rfl;have s5:=px4.bx.cells 5 _ rfl;have s6:=px4.bx.cells 6 _ rfl;have s7:=px4.bx.cells 7 _ rfl;have sf:=px4.bx.froz;have sz:=px4.lt) | (go_at_call 121;refine (spec_FormatFactor_c _ _ _ _ _ _ _ _ _ (by decide) hs3).mono ?_;rintro e w5_ ⟨rfl,hb5⟩;have px5:=px4.below hb5;have bx5:=bx4.below hb5;have B5:=bTrans B4 hb5;have t0:=px5.bx.cells 0 _ rfl;have t1:=px5.bx.cells 1 _ rfl;have t2:=px5.bx.cells 2 _ rfl;have t3:=px5.bx.cells 3 _ rfl;have t4:=px5.bx.cells 4 _ rfl;have t5:=px5.bx.cells 5 _ rfl;have t6:=px5.bx.cells 6 _ rfl;have t7:=px5.bx.cells 7 _ rfl;have tf:=px5.bx.froz;have tz:=px5.lt;have r0:=bx5.bx.cells 0 _ rfl;have r1:=bx5.bx.cells 1 _ rfl;have r2:=bx5.bx.cells 2 _ rfl;have r3:=bx5.bx.cells 3 _ rfl;have r4:=bx5.bx.cells 4 _ rfl;have r5:=bx5.bx.cells 5 _ rfl;have r6:=bx5.bx.cells 6 _ rfl;have r7:=bx5.bx.cells 7 _ rfl;have rf:=bx5.bx.froz;have rz:=bx5.lt))
              refine bodyPost_ret (v:=.tuple #[vFactor x (k:Int) ⟨#[]⟩ w3 t ux uy y,.bool true]) (by simp [*,results,Tryz.results171,go_sem]) rfl ⟨by rw [HP.out];rfl,?_⟩
              exact b8 B5 (Nat.le_refl _) _ _ _ _ _ _ _ _
            | false =>
              have HNX:=Lib.hid (show ∀ j:Nat,1≤j→j < k+1→¬ FacOf s ⟨x,j,⟨#[]⟩,w3,⟨t,ux,uy⟩,y⟩ from fun j hj hj2 hp=>by
                by_cases e:j=k
                · subst e;rw [(fac_iff hv).2 hp] at he;cases he
                · exact HNO.out j hj (by omega) hp)
              clear hv
              go_wp2_with (first | (have _t:=tok1;go_at_call 121;refine (spec_FormatFactor_c _ _ _ _ _ _ _ _ _ (by decide) hs3).mono ?_;rintro e w4_ ⟨rfl,hb4⟩;have px4:=px.below hb4;have bx4:=bx.below hb4;have B4:=bTrans B hb4;clear tok1;have s0:=px4.bx.cells 0 _ rfl;have s1:=px4.bx.cells 1 _ rfl;have s2:=px4.bx.cells 2 _ rfl;have s3:=px4.bx.cells 3 _ rfl;have s4:=px4.bx.cells 4 _ rfl;have s5:=px4.bx.cells 5 _ rfl;have s6:=px4.bx.cells 6 _ rfl;have s7:=px4.bx.cells 7 _ rfl;have sf:=px4.bx.froz;have sz:=px4.lt) | (go_at_call 121;refine (spec_FormatFactor_c _ _ _ _ _ _ _ _ _ (by decide) hs3).mono ?_;rintro e w5_ ⟨rfl,hb5⟩;have px5:=px4.below hb5;have bx5:=bx4.below hb5;have B5:=bTrans B4 hb5;have t0:=px5.bx.cells 0 _ rfl;have t1:=px5.bx.cells 1 _ rfl;have t2:=px5.bx.cells 2 _ rfl;have t3:=px5.bx.cells 3 _ rfl;have t4:=px5.bx.cells 4 _ rfl;have t5:=px5.bx.cells 5 _ rfl;have t6:=px5.bx.cells 6 _ rfl;have t7:=px5.bx.cells 7 _ rfl;have tf:=px5.bx.froz;have tz:=px5.lt))
              exact ⟨⟨k+1,by omega,by omega,HNX.out,by simpa using px5.set 1 (.int .i64 ((k:Int)+1)),bx5.set_ne (p:=⟨P,1,none⟩) (by simp only;omega) _,bSet B5 (p:=⟨P,1,none⟩) (by simp only;omega) _⟩,by rw [(px5.set 1 (.int .i64 ((k:Int)+1))).bx.cells 1 _ rfl,q1];simp only [Option.getD_some,intOf];omega⟩
        · obtain rfl:k=5:=by omega
          have HN:=Lib.hid (HALL.out HNO.out)
          have r0:=bx.bx.cells 0 _ rfl;have r1:=bx.bx.cells 1 _ rfl;have r2:=bx.bx.cells 2 _ rfl;have r3:=bx.bx.cells 3 _ rfl;have r4:=bx.bx.cells 4 _ rfl;have r5:=bx.bx.cells 5 _ rfl;have r6:=bx.bx.cells 6 _ rfl;have r7:=bx.bx.cells 7 _ rfl;have rf:=bx.bx.froz;have rz:=bx.lt
          go_wp2_with fail
          refine bodyPost_ret (v:=.tuple #[vFactor 0 0 ⟨#[]⟩ ⟨#[]⟩ 0 0 0 0,.bool false]) (by simp [*,results,Tryz.results171,go_sem]) rfl ⟨by rw [HN.out];rfl,?_⟩
          exact b8 B (Nat.le_refl _) _ _ _ _ _ _ _ _
  · have HN:=Lib.hid (fac_none_len HL.out (by omega) (by omega))
    have hl5:(n:Int) < 5:=by omega
    have r0:=bx1.bx.cells 0 _ rfl;have r1:=bx1.bx.cells 1 _ rfl;have r2:=bx1.bx.cells 2 _ rfl;have r3:=bx1.bx.cells 3 _ rfl;have r4:=bx1.bx.cells 4 _ rfl;have r5:=bx1.bx.cells 5 _ rfl;have r6:=bx1.bx.cells 6 _ rfl;have r7:=bx1.bx.cells 7 _ rfl;have rf:=bx1.bx.froz;have rz:=bx1.lt
    go_wp2_with fail
    refine bodyPost_ret (v:=.tuple #[vFactor 0 0 ⟨#[]⟩ ⟨#[]⟩ 0 0 0 0,.bool false]) (by simp [*,results,Tryz.results171,go_sem]) rfl ⟨by rw [HN.out];rfl,?_⟩
    exact b8 B1 (Nat.le_refl _) _ _ _ _ _ _ _ _
end Go.Proofs.YtdfemnffpaopfaaGreatDoor
