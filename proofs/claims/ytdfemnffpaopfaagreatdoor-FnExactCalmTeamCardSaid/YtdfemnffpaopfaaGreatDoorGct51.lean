/- Texts of this proof, one behind the other: TmVS. -/
import Derived.Test.YtdfemnffpaopfaaGreatDoorGct33
import Derived.Test.YtdfemnffpaopfaaGreatDoorGct41
import Derived.Test.YtdfemnffpaopfaaGreatDoorGct43
import Derived.Test.YtdfemnffpaopfaaGreatDoorGct44
namespace Go.Proofs.YtdfemnffpaopfaaGreatDoor
open Go.RowKit
set_option linter.unusedVariables false
set_option linter.unusedSimpArgs false
set_option maxHeartbeats 12000000
set_option maxRecDepth 100000
theorem fresh_take_len (l M:List Factor) (m:Nat):(fresh_ l (M.take m)).length≤(fresh_ l M).length:=by
  unfold fresh_;exact ((List.take_sublist m M).filter _).length_le
theorem fresh_step {l M:List Factor} {m:Nat} {f:Factor} (h:Hid (M[m]? = some f)):fresh_ l (M.take (m+1))=fresh_ l (M.take m)++(if hasId l f.id then [] else [f]):=by
  have h':M[m]? = some f:=h
  obtain ⟨hk,rfl⟩:=List.getElem?_eq_some_iff.1 h'
  unfold fresh_
  rw [List.take_succ_eq_append_getElem hk,List.filter_append]
  congr 1
  cases hh:hasId l M[m].id <;> simp [hh]
theorem fresh_no {l M:List Factor} {m:Nat} {f:Factor} (h:Hid (M[m]? = some f)) (hh:hasId l f.id=true):fresh_ l (M.take (m+1))=fresh_ l (M.take m):=by rw [fresh_step h,hh];simp
theorem jadds_one (j:ByteArray) (A:List Factor) (f:Factor):jadds j (A++[f])=jadd (jadds j A) f:=by unfold jadds;rw [List.foldl_append];rfl
theorem fresh_yes {l M:List Factor} {m:Nat} {f:Factor} {j:ByteArray} (h:Hid (M[m]? = some f)) (hh:hasId l f.id=false):jadds j (fresh_ l (M.take (m+1)))=jadds j (fresh_ l (M.take m)++[f]):=by rw [fresh_step h,hh];rfl
theorem spec_recv_k (Wb:World) (B N:Nat) (v:TV) (t:Team) (i j:Nat) (row:List Chan) (c:Chan) (x:Robot) (w:World) (O:OT B w v t) (hBw:B≤w.heap.size) (hWb:Below Wb.heap.size Wb w) (hBb:Wb.heap.size≤B)
    (hi:t.channels[i]? = some row) (hj:row[j]? = some c) (hx:t.robots[j]? = some x) (hro:RobOk N x) (hN:N≤4194304) (hfc:fewC c) (hin:∀ s∈c.inbox,s.size≤4194304) :
    Calls Tryz.prog 75 #[vTeam v,.int .i64 i,.int .i64 j] w fun e w'=>∃ v',e=.returned (.tuple #[])∧OT B w' v' (recvC t i j c)∧TStep w v w' v':=by
  have HRQ:=Lib.hid (recvC_eq (i:=i) (c:=c) hx)
  have HIN:=Lib.hid hin
  have HRO:=Lib.hid hro

  obtain ⟨gt,g,vs,vc,hA,p0,hrl,⟨c0,c1,c2,c3,c4,c5⟩,cf,hRd,hln,hg,hgt,hgB,hgtB,hne,hput⟩:=O.ch hBw hi hj
  obtain ⟨gr,vr0,hAr,_,_,_,_,hgr,hgrB,hgrm,_,_,_,_⟩:=O.rob hBw hx
  have hvr:t.robots.length=v.r.n:=O.own.r.len.out
  have hvc:t.channels.length=v.c.n:=O.own.c.len.out
  have hil:=(List.getElem?_eq_some_iff.1 hi).1
  have hjl:=(List.getElem?_eq_some_iff.1 hj).1
  have hjr:=(List.getElem?_eq_some_iff.1 hx).1
  have HP:=Lib.hid hput
  have HLT:=Lib.hid O.lt
  have HLO:Hid (∀ q∈fpT v,Wb.heap.size≤q):=fun q hq=>Nat.le_trans hBb (O.fr.lo q hq)
  have e0:(0:Int)≤(i:Int):=by omega
  have e1:(i:Int) < (v.c.n:Int):=by omega
  have e2:(0:Int)≤(j:Int):=by omega
  have e3:(j:Int) < (vs.n:Int):=by omega
  have e4:(j:Int) < (v.r.n:Int):=by omega
  have HX:=Lib.hid hx
  have hn01:w.heap.size≠gr:=by omega
  have hn02:gr≠w.heap.size:=by omega
  obtain ⟨⟨Ar,nr,cr⟩,⟨Ac,nc,cc⟩,fr,fc⟩:=v
  dsimp only at hA hAr hvr hvc e1 e4
  subst hA hAr
  clear hput hi hj hx hro hin  hrl
  go_enter Tryz.func75,Tryz.ntmps75
  go_wp2_with fail
  refine Calls.mono (spec_TakeInbox_f vc c _ hfc ?_) ?_
  · exact hRd.below (bAlloc (Below.refl _ _) _)
  rintro e w1 ⟨v1,vq,rfl,ho1,hf1,hoq,hfq,hap,hb1⟩
  have H1:=bTrans (show Below w.heap.size w _ from bAlloc (Below.refl _ _) _) hb1
  have X0:Bx2 w1 w.heap.size (.slice (some ⟨gr,0,none⟩) nr cr) (.slice (some ⟨gt,0,none⟩) nc cc):=Bx2.below ⟨by go_simp,by go_simp,fun o=>by go_simp⟩ hb1
  have hlo1:Hid (∀ q∈fpC v1,w.heap.size+1≤q):=fun q hq=>by have h9:=hf1.lo q hq;simp at h9;omega
  have hloq:Hid (∀ q∈fpS vq,w.heap.size+1≤q):=fun q hq=>by have h9:=hfq.lo q hq;simp at h9;omega
  have HAP:=Lib.hid hap
  have HHQ:=Lib.hid hfq.hi
  have hq9:(c.inbox.length:Int)=vq.n:=by have:=hoq.rd.len.out;omega
  have hqn:vq.n≤4194304:=by have h9:c.inbox.length≤4194304:=hfc.2.1;omega
  have p0:=bCell H1 p0
  have c0:=bCell H1 c0;have c1:=bCell H1 c1;have c2:=bCell H1 c2;have c3:=bCell H1 c3;have c4:=bCell H1 c4;have c5:=bCell H1 c5
  have cf:=fun o=>(bBoxF H1 g hg o).trans (cf o)
  have s1:=H1.size
  have hf1':Fresh w.heap.size w1 (fpC v1):=hf1.rebase (by first | (simp;done) | (simp;omega))
  clear hf1 hfq hap hb1 hRd hln
  go_wp2_with fail
  refine region_at fun W hW=>?_
  have hWb1:Below w1.heap.size w1 W:=by rw [hW.out];exact bAlloc (Below.refl _ _) _
  have k0:W.cell? ⟨w1.heap.size,0,none⟩=some (.slice v1.q.A v1.q.n v1.q.c):=by rw [hW.out];simp
  have k1:W.cell? ⟨w1.heap.size,1,none⟩=some (.int .i64 (takeC c).base):=by rw [hW.out];simp
  have k2:W.cell? ⟨w1.heap.size,2,none⟩=some (.int .i64 (takeC c).expected):=by rw [hW.out];simp
  have k3:W.cell? ⟨w1.heap.size,3,none⟩=some (.slice v1.i.A v1.i.n v1.i.c):=by rw [hW.out];simp
  have k4:W.cell? ⟨w1.heap.size,4,none⟩=some (.slice v1.n.A v1.n.n v1.n.c):=by rw [hW.out];simp
  have k5:W.cell? ⟨w1.heap.size,5,none⟩=some (.slice v1.a.A v1.a.n v1.a.c):=by rw [hW.out];simp
  clear hW
  have kz:=cell_lt k0
  have X0:=X0.below hWb1

  have p0:=bCell hWb1 p0
  have c0:=bCell hWb1 c0;have c1:=bCell hWb1 c1;have c2:=bCell hWb1 c2;have c3:=bCell hWb1 c3;have c4:=bCell hWb1 c4;have c5:=bCell hWb1 c5
  have cf:=fun o=>(bBoxF hWb1 g (by omega) o).trans (cf o)
  have ho1:=ho1.below hWb1
  have hoq:=hoq.below hWb1
  have hf1':=hf1'.grow hWb1.size
  have H1:=bTrans H1 hWb1
  have x0:=X0.c0;have x1:=X0.c1
  go_region
  all_goals
    obtain ⟨v2,O2,st2,ft2⟩:=HP.out W H1 v1 (takeC c) ho1 hf1'
    have uS:=setChan_upd W g j v1 (takeC c)
    have X0:=(X0.upd uS (by simp;omega)).below (bDrew (Below.refl _ _))

    have hoq:=(hoq.upd uS (fun q hq hm=>by have:=hloq.out q hq;simp at hm;omega)).below (bDrew (Below.refl _ _))
    have O2:=O2.below (bDrew (Below.refl _ _))
    have st2:=st2.below (bDrew (Below.refl _ _))
    obtain ⟨W2,hW2⟩:∃ W2,W2=(setChan W g j v1 (takeC c)).drew:=⟨_,rfl⟩
    rw [← hW2] at O2 st2 X0  hoq
    unfold setChan at hW2
    rw [← hW2]
    have hnb:Hid (∀ q∈fpT v2,q < w.heap.size∨q∈fpC v1):=fun q hq=>(ft2 q hq).imp (HLT.out q) id
    have hbb:Hid (∀ b,w.heap.size≤b→b < w.heap.size+1→b ∉ fpT v2):=fun b h1 h2 hm=>by
      rcases hnb.out b hm with h3 | h3
      · omega
      · have:=hlo1.out b h3;omega
    have hnq:Hid (∀ q∈fpS vq,q ∉ fpT v2):=fun q hq hm=>by
      rcases hnb.out q hm with h3 | h3
      · have:=hloq.out q hq;omega
      · exact HAP.out q h3 hq
    clear hW2 uS ft2 x0 x1 p0 c0 c1 c2 c3 c4 c5 cf k0 k1 k2 k3 k4 k5 ho1 hf1'
    have O2':OT B W2 v2 (setR (setC t i j (takeC c)) j (recvs x (c.inbox.take 0))):=by
      rw [List.take_zero,show recvs x []=x from rfl,setR_self (setC_rob.trans HX.out)];exact O2
    go_wp2_with fail
    go_loopw [39,9,11,12,13,14] (fun iv y9 y11 y12 y13 y14 wr=>∃ (k:Nat) (v':TV),k≤vq.n∧iv=.int .i64 k∧OT B wr v' (setR (setC t i j (takeC c)) j (recvs x (c.inbox.take k)))∧TStep W2 v2 wr v') (fun iv _ _ _ _ _ _=>vq.n - (intOf iv).toNat)
    case atStart=>exact ⟨0,v2,by omega,rfl,O2',TStep.refl _ _⟩
    case round =>
      obtain ⟨k,v',hk,rfl,Or,st⟩:=hrel
      obtain ⟨wo,rfl⟩:∃ wo:World,wo=wr:=⟨_,rfl⟩
      have Y0:=X0.upd st.upd (hbb.out _ (by omega) (by omega))
      have y0:=Y0.c0;have y1:=Y0.c1;have y2:=Y0.lt
      have us:=st.upd.size
      have hrq:=(hoq.upd st.upd hnq.out).rd
      have hxk:(setR (setC t i j (takeC c)) j (recvs x (c.inbox.take k))).robots[j]? = some (recvs x (c.inbox.take k)):=setR_rob (setC_rob.trans HX.out)
      have HBo:Below Wb.heap.size Wb wo:=bUpd hWb (st2.trans st).upd HLO.out
      by_cases hlt:k < vq.n
      · obtain ⟨s,gi,offi,hs,hAi,q0⟩:=RowS.at_ hrq hlt
        have hss:=HIN.out s (List.mem_of_getElem? hs.out)
        have hnx:=recvs_snoc (r:=x) hs
        have hok:RobOk N (recvs x (c.inbox.take k)):=HRO.out.recvs _
        obtain ⟨xk,hxe⟩:∃ xk,xk=recvs x (c.inbox.take k):=⟨_,rfl⟩
        rw [← hxe] at hxk Or hnx hok
        rw [hAi]
        have z0:(0:Int)≤(k:Int):=by omega
        have z1:(k:Int) < (vq.n:Int):=by omega
        obtain ⟨g5,vr,hA5,r0,r1,rf,hOwr,hg5,hgB5,hgm5,hvl5,put2,putF,putJ⟩:=Or.rob (by have:=st2.upd.size;omega) hxk
        rw [st.r,st2.r] at hA5
        obtain rfl:gr=g5:=by simpa using hA5
        have HPF:=Lib.hid putF
        clear put2 putF putJ hA5 hxe
        go_wp2_with fail
        refine Calls.mono (spec_ParseBundle_k s _ hss) ?_
        rintro e w3 ⟨vb,rfl,hob,hfb,hb3⟩
        have hfb2:=few_pb s
        have hsb2:=pb_small s
        cases hpb:(pb s).2 with
        | false =>
          go_wp2_with fail
          go_roundw
          case rel =>
            have hB4:Below wo.heap.size wo (w3.alloc (.cells #[.int .i64 (pb s).1.robot,.slice vb.A vb.n vb.c] 80)):=bAlloc hb3 _
            refine ⟨k+1,v',by omega,by go_num,?_,st.below hB4⟩
            rw [hnx,recvR_no hpb]
            exact Or.below hB4
          case measure=>simp [intOf];omega
        | true =>
          rw [recvR_yes hpb] at hnx
          have Y3:=Y0.below hb3
          have y0:=Y3.c0;have y2:=Y3.lt
          have r0:=bCell hb3 r0
          have rf:=fun o=>(bBoxF hb3 gr hg5 o).trans (rf o)
          have s3:=hb3.size
          have hg3:gr < w3.heap.size:=by omega
          go_wp2_with fail
          refine Calls.mono (spec_MergeBundle_x vr vb xk.factors (pb s).1 _ hok.few hok.small hfb2 hsb2 ?_ ?_) ?_
          · exact (hOwr.below hb3).rd.below (bAlloc (Below.refl _ _) _)
          · exact hob.rd.below (bAlloc (Below.refl _ _) _)
          rintro e w4 ⟨vm,rfl,hom,hfm,hb5⟩
          have hW4:Below w3.heap.size w3 w4:=bTrans (bAlloc (Below.refl _ _) _) hb5
          have hb6:=bTrans hb3 hW4
          have s6:=hW4.size
          have Y0:=Y3.below hW4
          have y0:=Y0.c0;have y2:=Y0.lt
          have r0:=bCell hW4 r0
          have rf:=fun o=>(bBoxF hW4 gr hg3 o).trans (rf o)
          have hgw4:gr < w4.heap.size:=by omega
          have hfm:=hfm.rebase (show w3.heap.size≤_ by simp)
          obtain ⟨v4,O4,st4,ft4⟩:=HPF.out w4 hb6 vm _ hom (hfm.rebase s3)
          have uS:Upd [gr] w4 (w4.setCell ⟨gr,j * 2,none⟩ (.slice vm.A vm.n vm.c)):=(Upd.refl _ _).set_in (by simp) _
          have hgm:gr ∉ fpF vm:=fun hm=>by have:=hfm.lo gr hm;omega
          have hgv4:gr∈fpT v4:=by
            obtain ⟨g9,_,hA9,_,_,_,_,_,_,hm9,_⟩:=O4.rob (by have:=uS.size;omega) (setR_rob hxk)
            rw [st4.r,st.r,st2.r] at hA9
            obtain rfl:gr=g9:=by simpa using hA9
            exact hm9
          have hgvr:gr ∉ fpF vr:=fun hm=>by
            rcases ft4 gr hgv4 with h3 | h3
            · exact h3.2 hm
            · exact hgm h3
          have hom:=hom.upd uS (fun q hq hm=>by simp at hm;subst hm;exact hgm hq)
          have hov:=(hOwr.below hb6).upd uS (fun q hq hm=>by simp at hm;subst hm;exact hgvr hq)
          have Y4:=Y0.upd uS (by simp;omega)
          have HMID:=Lib.hid (fun (A:List Factor) (h:A.length≤(mergeB xk.factors (pb s).1.robot (pb s).1.factors).2.length)=>hok.mid h)
          have hA40:=(mergeB_few (m:=(pb s).1.factors) (r:=(pb s).1.robot) hok.1).1
          have HAS:=Lib.hid (mergeB_small (m:=(pb s).1.factors) (r:=(pb s).1.robot) hok.1)
          rw [setR_set] at O4
          rw [mergeB_added] at hnx HMID
          obtain ⟨M,hM⟩:∃ M,M=(mergeB xk.factors (pb s).1.robot (pb s).1.factors).1:=⟨_,rfl⟩
          rw [← hM] at O4 hnx hom HMID hA40 HAS
          have lva:M.length=vm.n:=hom.rd.len.out
          have lvr:=hov.rd.len.out
          have hvrn:vr.n≤4194304:=by have:=hok.len;omega
          go_wp2_with fail
          obtain ⟨W4,hW4e⟩:∃ W4,W4=w4.setCell ⟨gr,j * 2,none⟩ (.slice vm.A vm.n vm.c):=⟨_,rfl⟩
          rw [← hW4e] at O4 st4 hom hov Y4 ⊢
          have s7:wo.heap.size≤W4.heap.size:=st4.upd.size
          clear hW4e uS r0 r1 rf y0 y2 ft4 hfm hM Y0 Y3 hOwr hob
          have O4':OT B W4 v4 (setR (setC t i j (takeC c)) j ⟨M,jadds xk.journal (fresh_ xk.factors (M.take 0))⟩):=by rw [List.take_zero];exact O4
          go_loopw [70] (fun iv wr=>∃ (m:Nat) (v5:TV),m≤vm.n∧iv=.int .i64 m∧OT B wr v5 (setR (setC t i j (takeC c)) j ⟨M,jadds xk.journal (fresh_ xk.factors (M.take m))⟩)∧TStep W4 v4 wr v5∧Upd [gr] W4 wr) (fun iv _=>vm.n - (intOf iv).toNat)
          case atStart=>exact ⟨0,v4,by omega,rfl,O4',TStep.refl _ _,Upd.refl _ _⟩
          case round =>
            obtain ⟨m,v5,hm,rfl,O5,st5,ug⟩:=hrel
            obtain ⟨wi,rfl⟩:∃ wi:World,wi=wr:=⟨_,rfl⟩
            have Z0:=Y4.upd ug (by simp;omega)
            have s8:=ug.size
            have hra:=(hom.upd ug (fun q hq hm=>by simp at hm;subst hm;exact hgm hq)).rd
            have hrv:=(hov.upd ug (fun q hq hm=>by simp at hm;subst hm;exact hgvr hq)).rd
            by_cases hml:m < vm.n
            · obtain ⟨f,g7,off7,hf,hA7,a0,a1,a2,a3,a4,a5,a6,a7⟩:=RowF.at_ hra hml
              rw [hA7]
              obtain ⟨hfs1,hfs2⟩:=HAS.out f (List.mem_of_getElem? hf.out)
              have hjs:(jadds xk.journal (fresh_ xk.factors (M.take m))).size≤4194304:=Nat.le_trans (HMID.out _ (fresh_take_len _ _ _)) hN
              have hfy:=fresh_yes (l:=xk.factors) (j:=xk.journal) hf
              have hfn:=fresh_no (l:=xk.factors) hf
              obtain ⟨J,hJ⟩:∃ J,J=jadds xk.journal (fresh_ xk.factors (M.take m)):=⟨_,rfl⟩
              have hx5:(setR (setC t i j (takeC c)) j ⟨M,J⟩).robots[j]? = some ⟨M,J⟩:=setR_rob (setC_rob.trans HX.out)
              rw [← hJ] at O5 hjs
              have HJJ:=Lib.hid hJ
              clear hJ
              obtain ⟨g8,vr8,hA8,d0,d1,df,hOw8,hg8,_,hgm8,_,_,_,putJ8⟩:=O5.rob (by omega) hx5
              rw [st5.r,st4.r,st.r,st2.r] at hA8
              obtain rfl:gr=g8:=by simpa using hA8
              have HPJ:=Lib.hid putJ8
              have u0:(0:Int)≤(m:Int):=by omega
              have u1:(m:Int) < (vm.n:Int):=by omega
              clear putJ8 hA8 hOw8
              go_wp2_with fail
              refine Calls.mono (l28Has_c vr.A vr.n vr.c xk.factors f.id _ hvrn ?_) ?_
              · exact Row.below hrv (bAlloc (Below.refl _ _) _)
              rintro e w5 ⟨rfl,hb8⟩
              have hWjb:Below wi.heap.size wi w5:=bTrans (bAlloc (Below.refl _ _) _) hb8
              have Z0:=Z0.below hWjb
              have z0:=Z0.c0;have zl:=Z0.lt
              cases hid:hasId xk.factors f.id with
              | true =>
                go_wp2_with fail
                go_roundw
                case rel=>exact ⟨m+1,v5,by omega,by go_num,by rw [hfn hid,← HJJ.out];exact O5.below hWjb,st5.below hWjb,ug.then_below hWjb⟩
                case measure=>simp [intOf];omega
              | false =>
                have t0:w5.cell? ⟨wi.heap.size,0,none⟩=some (.int .i64 f.id):=bCell hb8 (by go_simp)
                have t1:w5.cell? ⟨wi.heap.size,1,none⟩=some (.int .i64 f.kind):=bCell hb8 (by go_simp)
                have t2:w5.cell? ⟨wi.heap.size,2,none⟩=some (.string f.frm):=bCell hb8 (by go_simp)
                have t3:w5.cell? ⟨wi.heap.size,3,none⟩=some (.string f.to):=bCell hb8 (by go_simp)
                have t4:w5.cell? ⟨wi.heap.size,4,none⟩=some (.int .i64 f.pose.turn):=bCell hb8 (by go_simp)
                have t5:w5.cell? ⟨wi.heap.size,5,none⟩=some (.int .i64 f.pose.x):=bCell hb8 (by go_simp)
                have t6:w5.cell? ⟨wi.heap.size,6,none⟩=some (.int .i64 f.pose.y):=bCell hb8 (by go_simp)
                have t7:w5.cell? ⟨wi.heap.size,7,none⟩=some (.int .i64 f.weight):=bCell hb8 (by go_simp)
                clear a0 a1 a2 a3 a4 a5 a6 a7 hra hrv hb8
                have d1:=bCell hWjb d1
                have df:=fun o=>(bBoxF hWjb gr hg8 o).trans (df o)
                have sj:=hWjb.size
                have hgj:gr < w5.heap.size:=by omega
                have hfy:=hfy hid
                rw [jadds_one,← HJJ.out,jadd_eq] at hfy
                have HFY:=Lib.hid hfy
                clear hfy
                go_wp2_with fail
                go_region_law (first | (go_simp;go_at_call 70;refine Calls.mono (spec_AppendEntry_c J false 0 f.id f.kind f.frm f.to f.pose.turn f.pose.x f.pose.y f.weight _ hjs (by omega) hfs1 hfs2) ?_;rintro e w6 ⟨rfl,hb7⟩;have hW6:=bTrans (show Below w5.heap.size w5 _ from (by repeat (first | with_reducible exact (Below.refl _ _) | with_reducible refine bAlloc ?_ _ | with_reducible refine bDrew ?_ | with_reducible refine bDrewN ?_ _))) hb7;have z0:=bCell hW6 z0;have d1:=bCell hW6 d1;have df:=fun o=>(bBoxF hW6 gr hgj o).trans (df o);have s9:=hW6.size;have hg9:gr < w6.heap.size:=(by omega);have hz9:w.heap.size < w6.heap.size:=cell_lt z0))
                all_goals
                  obtain ⟨v6,O6,st6,_⟩:=HPJ.out w6 (bTrans hWjb hW6) (apE J ⟨false,0,⟨f.id,f.kind,f.frm,f.to,⟨f.pose.turn,f.pose.x,f.pose.y⟩,f.weight⟩⟩).1
                  have ug6:Upd [gr] W4 (w6.setCell ⟨gr,j * 2+1,none⟩ (.string (apE J ⟨false,0,⟨f.id,f.kind,f.frm,f.to,⟨f.pose.turn,f.pose.x,f.pose.y⟩,f.weight⟩⟩).1)):=(ug.then_below (bTrans hWjb hW6)).set_in (by simp) _
                  rw [setR_set] at O6
                  go_wp2_with fail
                  go_roundw
                  case rel=>exact ⟨m+1,v6,by omega,by go_num,by rw [HFY.out];exact O6,st5.trans st6,ug6⟩
                  case measure=>simp [intOf];omega
            · obtain rfl:m=vm.n:=by omega
              rw [← lva,List.take_length,← hnx] at O5
              go_wp2_with fail
              go_roundw
              case rel=>exact ⟨k+1,v5,by omega,by go_num,O5,st.trans (st4.trans st5)⟩
              case measure=>simp [intOf];omega
      · obtain rfl:k=vq.n:=by omega
        rw [List.take_of_length_le (by omega),← HRQ.out] at Or
        go_wp2_with fail
        refine bodyPost_end (v:=.tuple #[]) (by simp [results,Tryz.results75,go_sem]) rfl ?_
        exact ⟨v',rfl,Or,st2.trans st⟩
end Go.Proofs.YtdfemnffpaopfaaGreatDoor
