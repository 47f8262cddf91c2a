/- Texts of this proof, one behind the other: TmV. -/
import Derived.Test.YtdfemnffpaopfaaGreatDoorGrs33
import Derived.Test.YtdfemnffpaopfaaGreatDoorGrs39
import Derived.Test.YtdfemnffpaopfaaGreatDoorGrs40
import Derived.Test.YtdfemnffpaopfaaGreatDoorGrs41
namespace Go.Proofs.YtdfemnffpaopfaaGreatDoor
open Go.RowKit
set_option linter.unusedVariables false
set_option linter.unusedSimpArgs false
set_option maxHeartbeats 12000000
set_option maxRecDepth 100000
theorem pb_small (s:ByteArray):smallFs (pb s).1.factors:=by
  unfold pb
  cases h:psBun s with
  | none=>intro f hf;cases hf
  | some b=>exact fun f hf=>vld_sz ((isBundle_parts (psBun_text h).1).2.2.2 f hf)
theorem RobOk.small {N:Nat} {r:Robot} (h:RobOk N r):smallFs r.factors:=(fl_rp h.1).small
theorem RobOk.few {N:Nat} {r:Robot} (h:RobOk N r):fewF r.factors:=by have:=h.len;unfold fewF;omega
theorem mergeB_small {l m:List Factor} {r:Int} (h:isFL l=true):smallFs (mergeB l r m).1:=(fl_rp (mergeB_isFL h)).small
theorem mergeB2_small {l m:List Factor} {r:Int} (h:isFL l=true):smallFs (mergeB l r m).2:=by
  rw [mergeB_added]
  exact fun f hf=>mergeB_small h f (List.mem_filter.1 hf).1
theorem mergeB_few {l m:List Factor} {r:Int} (h:isFL l=true):(mergeB l r m).1.length≤40∧(mergeB l r m).2.length≤40:=by
  have h1:=isFL_len (mergeB_isFL (m:=m) (r:=r) h)
  have h2:=mergeB_count l m r
  omega
theorem setR_rob {t:Team} {j:Nat} {x y:Robot} (h:t.robots[j]? = some x):(setR t j y).robots[j]? = some y:=by
  unfold setR;simp only;rw [List.getElem?_set_self (List.getElem?_eq_some_iff.1 h).1]
theorem setR_set (t:Team) (j:Nat) (a b:Robot):setR (setR t j a) j b=setR t j b:=by unfold setR;simp only [List.set_set]
theorem setC_rob {t:Team} {i j k:Nat} {c:Chan}:(setC t i k c).robots[j]? = t.robots[j]?:=rfl
theorem setR_self {t:Team} {j:Nat} {x:Robot} (h:t.robots[j]? = some x):setR t j x=t:=by
  unfold setR;rw [List.set_getElem?_self_ h]
theorem recvC_eq {t:Team} {i j:Nat} {c:Chan} {x:Robot} (h:t.robots[j]? = some x):recvC t i j c=setR (setC t i j (takeC c)) j (recvs x c.inbox):=by
  unfold recvC;rw [robOf_eq h]
theorem jadd_eq (s:ByteArray) (f:Factor):jadd s f=(apE s ⟨false,0,⟨f.id,f.kind,f.frm,f.to,⟨f.pose.turn,f.pose.x,f.pose.y⟩,f.weight⟩⟩).1:=rfl
theorem impl_recv_k (Wb:World) (B N:Nat) (v:TV) (t:Team) (i j:Nat) (row:List Chan) (c:Chan) (x:Robot) (w:World) (O:OT B w v t) (hBw:B≤w.heap.size) (hWb:Below Wb.heap.size Wb w) (hBb:Wb.heap.size≤B)
    (hi:t.channels[i]? = some row) (hj:row[j]? = some c) (hx:t.robots[j]? = some x) (hro:RobOk N x) (hN:N≤4194304) (hfc:fewC c) (hin:∀ s∈c.inbox,s.size≤4194304) (hT:TabJ Wb) :
    Calls Tryz.prog 41 #[vTeam v,.int .i64 i,.int .i64 j] w fun e w'=>∃ v',e=.returned (vTeam v')∧OT B w' v' (recvC t i j c)∧TStep w v w' v':=by
  have HRQ:=Lib.hid (recvC_eq (i:=i) (c:=c) hx)
  have HIN:=Lib.hid hin
  have HRO:=Lib.hid hro
  have HTb:=Lib.hid hT
  obtain ⟨gt,g,vs,vc,hA,p0,hrl,⟨c0,c1,c2,c3,c4,c5⟩,cf,hRd,hln,hg,hgt,hgB,hgtB,hne,hput⟩:=O.ch hBw hi hj
  obtain ⟨gr,vr0,hAr,_,_,_,_,hgr,hgrB,hgrm,_,_,_,_⟩:=O.rob hBw hx
  have hvr:t.robots.length=v.r.n:=O.own.r.len.out
  have hvc:t.channels.length=v.c.n:=O.own.c.len.out
  have hil:=(List.getElem?_eq_some_iff.1 hi).1
  have hjl:=(List.getElem?_eq_some_iff.1 hj).1
  have hjr:=(List.getElem?_eq_some_iff.1 hx).1
  have HP:=Lib.hid hput
  have HLT:=Lib.hid O.lt
  have HLO:Hid (∀ q∈fpT v,Wb.heap.size≤q):=fun q hq=>Nat.le_trans hBb (O.fr.lo q hq)
  have e0:(0:Int)≤(i:Int):=by omega
  have e1:(i:Int) < (v.c.n:Int):=by omega
  have e2:(0:Int)≤(j:Int):=by omega
  have e3:(j:Int) < (vs.n:Int):=by omega
  have e4:(j:Int) < (v.r.n:Int):=by omega
  have HX:=Lib.hid hx
  have hn01:w.heap.size≠gr:=by omega
  have hn02:gr≠w.heap.size:=by omega
  obtain ⟨⟨Ar,nr,cr⟩,⟨Ac,nc,cc⟩,fr,fc⟩:=v
  dsimp only at hA hAr hvr hvc e1 e4
  subst hA hAr
  clear hput hi hj hx hro hin hT hrl
  go_enter Tryz.func41,Tryz.ntmps41
  go_wp2_with fail
  refine Calls.mono (impl_TakeInbox_f vc c _ hfc ?_) ?_
  · exact hRd.below (bAlloc (bAlloc (Below.refl _ _) _) _)
  rintro e w1 ⟨v1,vq,rfl,ho1,hf1,hoq,hfq,hap,hb1⟩
  have H1:=bTrans (show Below w.heap.size w _ from bAlloc (bAlloc (Below.refl _ _) _) _) hb1
  have X0:Bx2 w1 w.heap.size (.slice (some ⟨gr,0,none⟩) nr cr) (.slice (some ⟨gt,0,none⟩) nc cc):=Bx2.below ⟨by go_simp,by go_simp,fun o=>by go_simp⟩ hb1
  have X1:Bx2 w1 (w.heap.size+1) (.slice none 0 0) (.slice none 0 0):=Bx2.below ⟨by go_simp,by go_simp,fun o=>by go_simp⟩ hb1
  have hlo1:Hid (∀ q∈fpC v1,w.heap.size+2≤q):=fun q hq=>by have h9:=hf1.lo q hq;simp at h9;omega
  have hloq:Hid (∀ q∈fpS vq,w.heap.size+2≤q):=fun q hq=>by have h9:=hfq.lo q hq;simp at h9;omega
  have HAP:=Lib.hid hap
  have HHQ:=Lib.hid hfq.hi
  have hq9:(c.inbox.length:Int)=vq.n:=by have:=hoq.rd.len.out;omega
  have hqn:vq.n≤4194304:=by have h9:c.inbox.length≤4194304:=hfc.2.1;omega
  have p0:=bCell H1 p0
  have c0:=bCell H1 c0;have c1:=bCell H1 c1;have c2:=bCell H1 c2;have c3:=bCell H1 c3;have c4:=bCell H1 c4;have c5:=bCell H1 c5
  have cf:=fun o=>(bBoxF H1 g hg o).trans (cf o)
  have s1:=H1.size
  have hf1':Fresh w.heap.size w1 (fpC v1):=hf1.rebase (by first | (simp;done) | (simp;omega))
  clear hf1 hfq hap hb1 hRd hln
  go_wp2_with fail
  refine region_at fun W hW=>?_
  have hWb1:Below w1.heap.size w1 W:=by rw [hW.out];exact bAlloc (Below.refl _ _) _
  have k0:W.cell? ⟨w1.heap.size,0,none⟩=some (.slice v1.q.A v1.q.n v1.q.c):=by rw [hW.out];simp
  have k1:W.cell? ⟨w1.heap.size,1,none⟩=some (.int .i64 (takeC c).base):=by rw [hW.out];simp
  have k2:W.cell? ⟨w1.heap.size,2,none⟩=some (.int .i64 (takeC c).expected):=by rw [hW.out];simp
  have k3:W.cell? ⟨w1.heap.size,3,none⟩=some (.slice v1.i.A v1.i.n v1.i.c):=by rw [hW.out];simp
  have k4:W.cell? ⟨w1.heap.size,4,none⟩=some (.slice v1.n.A v1.n.n v1.n.c):=by rw [hW.out];simp
  have k5:W.cell? ⟨w1.heap.size,5,none⟩=some (.slice v1.a.A v1.a.n v1.a.c):=by rw [hW.out];simp
  clear hW
  have kz:=cell_lt k0
  have X0:=X0.below hWb1
  have X1:=X1.below hWb1
  have p0:=bCell hWb1 p0
  have c0:=bCell hWb1 c0;have c1:=bCell hWb1 c1;have c2:=bCell hWb1 c2;have c3:=bCell hWb1 c3;have c4:=bCell hWb1 c4;have c5:=bCell hWb1 c5
  have cf:=fun o=>(bBoxF hWb1 g (by omega) o).trans (cf o)
  have ho1:=ho1.below hWb1
  have hoq:=hoq.below hWb1
  have hf1':=hf1'.grow hWb1.size
  have H1:=bTrans H1 hWb1
  have x0:=X0.c0;have x1:=X0.c1
  go_region
  all_goals
    obtain ⟨v2,O2,st2,ft2⟩:=HP.out W H1 v1 (takeC c) ho1 hf1'
    have uS:=setChan_upd W g j v1 (takeC c)
    have X0:=(X0.upd uS (by simp;omega)).below (bDrew (Below.refl _ _))
    have X1:=(X1.upd uS (by simp;omega)).below (bDrew (Below.refl _ _))
    have hoq:=(hoq.upd uS (fun q hq hm=>by have:=hloq.out q hq;simp at hm;omega)).below (bDrew (Below.refl _ _))
    have O2:=O2.below (bDrew (Below.refl _ _))
    have st2:=st2.below (bDrew (Below.refl _ _))
    obtain ⟨W2,hW2⟩:∃ W2,W2=(setChan W g j v1 (takeC c)).drew:=⟨_,rfl⟩
    rw [← hW2] at O2 st2 X0 X1 hoq
    unfold setChan at hW2
    rw [← hW2]
    have hnb:Hid (∀ q∈fpT v2,q < w.heap.size∨q∈fpC v1):=fun q hq=>(ft2 q hq).imp (HLT.out q) id
    have hbb:Hid (∀ b,w.heap.size≤b→b < w.heap.size+2→b ∉ fpT v2):=fun b h1 h2 hm=>by
      rcases hnb.out b hm with h3 | h3
      · omega
      · have:=hlo1.out b h3;omega
    have hnq:Hid (∀ q∈fpS vq,q ∉ fpT v2):=fun q hq hm=>by
      rcases hnb.out q hm with h3 | h3
      · have:=hloq.out q hq;omega
      · exact HAP.out q h3 hq
    clear hW2 uS ft2 x0 x1 p0 c0 c1 c2 c3 c4 c5 cf k0 k1 k2 k3 k4 k5 ho1 hf1'
    have O2':OT B W2 v2 (setR (setC t i j (takeC c)) j (recvs x (c.inbox.take 0))):=by
      rw [List.take_zero,show recvs x []=x from rfl,setR_self (setC_rob.trans HX.out)];exact O2
    go_wp2_with fail
    go_loopw [39,10,12,13,14] (fun iv y10 y12 y13 y14 wr=>∃ (k:Nat) (v':TV),k≤vq.n∧iv=.int .i64 k∧OT B wr v' (setR (setC t i j (takeC c)) j (recvs x (c.inbox.take k)))∧TStep W2 v2 wr v') (fun iv _ _ _ _ _=>vq.n - (intOf iv).toNat)
    case atStart=>exact ⟨0,v2,by omega,rfl,O2',TStep.refl _ _⟩
    case round =>
      obtain ⟨k,v',hk,rfl,Or,st⟩:=hrel
      obtain ⟨wo,rfl⟩:∃ wo:World,wo=wr:=⟨_,rfl⟩
      have Y0:=X0.upd st.upd (hbb.out _ (by omega) (by omega))
      have y0:=Y0.c0;have y1:=Y0.c1;have y2:=Y0.lt
      have us:=st.upd.size
      have hrq:=(hoq.upd st.upd hnq.out).rd
      have hxk:(setR (setC t i j (takeC c)) j (recvs x (c.inbox.take k))).robots[j]? = some (recvs x (c.inbox.take k)):=setR_rob (setC_rob.trans HX.out)
      have HBo:Below Wb.heap.size Wb wo:=bUpd hWb (st2.trans st).upd HLO.out
      by_cases hlt:k < vq.n
      · obtain ⟨s,gi,offi,hs,hAi,q0⟩:=RowS.at_ hrq hlt
        have hss:=HIN.out s (List.mem_of_getElem? hs.out)
        have hnx:=recvs_snoc (r:=x) hs
        have hok:RobOk N (recvs x (c.inbox.take k)):=HRO.out.recvs _
        obtain ⟨xk,hxe⟩:∃ xk,xk=recvs x (c.inbox.take k):=⟨_,rfl⟩
        rw [← hxe] at hxk Or hnx hok
        rw [hAi]
        have z0:(0:Int)≤(k:Int):=by omega
        have z1:(k:Int) < (vq.n:Int):=by omega
        obtain ⟨g5,vr,hA5,r0,r1,rf,hOwr,hg5,hgB5,hgm5,hvl5,put2,putF,putJ⟩:=Or.rob (by have:=st2.upd.size;omega) hxk
        rw [st.r,st2.r] at hA5
        obtain rfl:gr=g5:=by simpa using hA5
        have HPF:=Lib.hid putF
        clear put2 putF putJ hA5 hxe
        go_wp2_with fail
        refine Calls.mono (impl_ParseBundle_k s _ hss ((HTb.out.below HBo).1)) ?_
        rintro e w3 ⟨vb,rfl,hob,hfb,hb3⟩
        have hfb2:=few_pb s
        have hsb2:=pb_small s
        cases hpb:(pb s).2 with
        | false =>
          go_wp2_with fail
          go_roundw
          case rel =>
            have hB4:Below wo.heap.size wo (w3.alloc (.cells #[.int .i64 (pb s).1.robot,.slice vb.A vb.n vb.c] 80)):=bAlloc hb3 _
            refine ⟨k+1,v',by omega,by go_num,?_,st.below hB4⟩
            rw [hnx,recvR_no hpb]
            exact Or.below hB4
          case measure=>simp [intOf];omega
        | true =>
          rw [recvR_yes hpb] at hnx
          go_wp2_with fail
          refine region_at fun W hW=>?_
          have hWb4:Below w3.heap.size w3 W:=by rw [hW.out];exact bAlloc (Below.refl _ _) _
          have k0:W.cell? ⟨w3.heap.size,0,none⟩=some (.int .i64 (pb s).1.robot):=by rw [hW.out];simp
          have k1:W.cell? ⟨w3.heap.size,1,none⟩=some (.slice vb.A vb.n vb.c):=by rw [hW.out];simp
          clear hW y0 y1 y2
          have kz:=cell_lt k0
          have hb4:=bTrans hb3 hWb4
          have Y0:=Y0.below hb4
          have y0:=Y0.c0;have y2:=Y0.lt
          have r0:=bCell hb4 r0;have r1:=bCell hb4 r1
          have rf:=fun o=>(bBoxF hb4 gr hg5 o).trans (rf o)
          have hobW:=(hob.below hWb4).rd
          have hRF:=(hOwr.below hb4).rd
          have s4:=hb4.size
          have hgW:gr < W.heap.size:=by omega
          go_region_held3 (fun w'=>w'.cell? ⟨w.heap.size,0,none⟩=some (.slice (some ⟨gr,0,none⟩) nr cr)∧w'.cell? ⟨gr,j * 2,none⟩=some (.slice vr.A vr.n vr.c)∧w'.cell? ⟨w3.heap.size,0,none⟩=some (.int .i64 (pb s).1.robot)∧w'.cell? ⟨w3.heap.size,1,none⟩=some (.slice vb.A vb.n vb.c)) (first | (go_split_ands;(repeat' apply And.intro) <;> (exact bCell hb5 (by assumption))) | go_keep) ((first | (go_at_call 92;refine Calls.mono (impl_mergeBundle_y vr vb xk.factors (pb s).1 _ hok.few hok.small hfb2 hsb2 ?_ ?_) ?_;exact hRF.below (by repeat (first | with_reducible exact (Below.refl _ _) | with_reducible refine bAlloc ?_ _ | with_reducible refine bDrew ?_ | with_reducible refine bDrewN ?_ _));exact hobW.below (by repeat (first | with_reducible exact (Below.refl _ _) | with_reducible refine bAlloc ?_ _ | with_reducible refine bDrew ?_ | with_reducible refine bDrewN ?_ _));rintro e w4 ⟨vm,va,rfl,hom,hoa,hfm,hb5⟩;have hW4:=bTrans (show Below W.heap.size W _ from (by repeat (first | with_reducible exact (Below.refl _ _) | with_reducible refine bAlloc ?_ _ | with_reducible refine bDrew ?_ | with_reducible refine bDrewN ?_ _))) hb5)))
          all_goals
            have hb6:=bTrans hb4 hW4
            have s6:=hW4.size
            have Y0:=Y0.below hW4
            have y0:=Y0.c0;have y2:=Y0.lt
            have r0:=bCell hW4 r0
            have rf:=fun o=>(bBoxF hW4 gr hgW o).trans (rf o)
            have hgw4:gr < w4.heap.size:=by omega
            have hfm:=hfm.rebase (show W.heap.size≤_ by simp)
            obtain ⟨v4,O4,st4,ft4⟩:=HPF.out w4 hb6 vm _ hom ((Fresh.left hfm).rebase s4)
            have uS:Upd [gr] w4 (w4.setCell ⟨gr,j * 2,none⟩ (.slice vm.A vm.n vm.c)):=(Upd.refl _ _).set_in (by simp) _
            have hoa:=hoa.upd uS (fun q hq hm=>by have:=(Fresh.right hfm).lo q hq;simp at hm;omega)
            have Y4:=Y0.upd uS (by simp;omega)
            have hbb4:Hid (∀ b,w.heap.size≤b→b < w.heap.size+2→b ∉ fpT v4):=fun b h1 h2 hm=>by
              have hX:=X0.lt
              rcases ft4 b hm with h3 | h3
              · rcases st.foot b h3.1 with h4 | h4
                · exact hbb.out b h1 h2 h4
                · have:=X1.lt;omega
              · have:=(Fresh.left hfm).lo b h3;have:=X1.lt;omega
            have hna:Hid (∀ q∈fpF va,q ∉ fpT v4):=fun q hq hm=>by
              rcases ft4 q hm with h3 | h3
              · have:=Or.lt q h3.1;have:=(Fresh.right hfm).lo q hq;omega
              · exact Fresh.apart hfm q h3 hq
            have HMID:=Lib.hid (fun (A:List Factor) (h:A.length≤(mergeB xk.factors (pb s).1.robot (pb s).1.factors).2.length)=>hok.mid h)
            have hA40:=(mergeB_few (m:=(pb s).1.factors) (r:=(pb s).1.robot) hok.1).2
            have HAS:=Lib.hid (mergeB2_small (m:=(pb s).1.factors) (r:=(pb s).1.robot) hok.1)
            rw [setR_set] at O4
            obtain ⟨M,hM⟩:∃ M,M=(mergeB xk.factors (pb s).1.robot (pb s).1.factors).1:=⟨_,rfl⟩
            obtain ⟨A,hAd⟩:∃ A,A=(mergeB xk.factors (pb s).1.robot (pb s).1.factors).2:=⟨_,rfl⟩
            rw [← hM] at O4 hnx
            rw [← hAd] at hnx hoa HMID hA40 HAS
            have lva:A.length=va.n:=hoa.rd.len.out
            go_wp2_with fail
            obtain ⟨W4,hW4e⟩:∃ W4,W4=w4.setCell ⟨gr,j * 2,none⟩ (.slice vm.A vm.n vm.c):=⟨_,rfl⟩
            rw [← hW4e] at O4 st4 hoa Y4 ⊢
            have s7:wo.heap.size≤W4.heap.size:=st4.upd.size
            clear hW4e uS r0 r1 rf y0 y2 ft4 hfm hom hM hAd k0 k1 kz Y0 hRF hobW hOwr hob
            have O4':OT B W4 v4 (setR (setC t i j (takeC c)) j ⟨M,jadds xk.journal (A.take 0)⟩):=by rw [List.take_zero];exact O4
            go_loopw [69] (fun iv wr=>∃ (m:Nat) (v5:TV),m≤va.n∧iv=.int .i64 m∧OT B wr v5 (setR (setC t i j (takeC c)) j ⟨M,jadds xk.journal (A.take m)⟩)∧TStep W4 v4 wr v5) (fun iv _=>va.n - (intOf iv).toNat)
            case atStart=>exact ⟨0,v4,by omega,rfl,O4',TStep.refl _ _⟩
            case round =>
              obtain ⟨m,v5,hm,rfl,O5,st5⟩:=hrel
              obtain ⟨wi,rfl⟩:∃ wi:World,wi=wr:=⟨_,rfl⟩
              have Z0:=Y4.upd st5.upd (hbb4.out _ (by omega) (by omega))
              have s8:=st5.upd.size
              have hra:=(hoa.upd st5.upd hna.out).rd
              by_cases hml:m < va.n
              · obtain ⟨f,g7,off7,hf,hA7,a0,a1,a2,a3,a4,a5,a6,a7⟩:=RowF.at_ hra hml
                rw [hA7]
                obtain ⟨hfs1,hfs2⟩:=HAS.out f (List.mem_of_getElem? hf.out)
                have hnj:=jadds_snoc (j:=xk.journal) hf
                have hjs:(jadds xk.journal (A.take m)).size≤4194304:=Nat.le_trans (HMID.out (A.take m) (by rw [List.length_take];omega)) hN
                obtain ⟨J,hJ⟩:∃ J,J=jadds xk.journal (A.take m):=⟨_,rfl⟩
                rw [← hJ] at O5 hnj hjs
                rw [jadd_eq] at hnj
                have hx5:(setR (setC t i j (takeC c)) j ⟨M,J⟩).robots[j]? = some ⟨M,J⟩:=setR_rob (setC_rob.trans HX.out)
                obtain ⟨g8,vr8,hA8,d0,d1,df,hOw8,hg8,_,hgm8,_,_,_,putJ8⟩:=O5.rob (by omega) hx5
                rw [st5.r,st4.r,st.r,st2.r] at hA8
                obtain rfl:gr=g8:=by simpa using hA8
                have HPJ:=Lib.hid putJ8
                have HBi:Below Wb.heap.size Wb wi:=bUpd HBo (st4.trans st5).upd (fun q hq=>Nat.le_trans hBb (Or.fr.lo q hq))
                have u0:(0:Int)≤(m:Int):=by omega
                have u1:(m:Int) < (va.n:Int):=by omega
                clear putJ8 hA8 hOw8 hJ
                go_wp2_with fail
                refine region_at fun Wj hWj=>?_
                have hWjb:Below wi.heap.size wi Wj:=by rw [hWj.out];exact bAlloc (Below.refl _ _) _
                have t0:Wj.cell? ⟨wi.heap.size,0,none⟩=some (.int .i64 f.id):=by rw [hWj.out];simp
                have t1:Wj.cell? ⟨wi.heap.size,1,none⟩=some (.int .i64 f.kind):=by rw [hWj.out];simp
                have t2:Wj.cell? ⟨wi.heap.size,2,none⟩=some (.string f.frm):=by rw [hWj.out];simp
                have t3:Wj.cell? ⟨wi.heap.size,3,none⟩=some (.string f.to):=by rw [hWj.out];simp
                have t4:Wj.cell? ⟨wi.heap.size,4,none⟩=some (.int .i64 f.pose.turn):=by rw [hWj.out];simp
                have t5:Wj.cell? ⟨wi.heap.size,5,none⟩=some (.int .i64 f.pose.x):=by rw [hWj.out];simp
                have t6:Wj.cell? ⟨wi.heap.size,6,none⟩=some (.int .i64 f.pose.y):=by rw [hWj.out];simp
                have t7:Wj.cell? ⟨wi.heap.size,7,none⟩=some (.int .i64 f.weight):=by rw [hWj.out];simp
                clear hWj a0 a1 a2 a3 a4 a5 a6 a7 hra
                have Z0:=Z0.below hWjb
                have z0:=Z0.c0
                have d1:=bCell hWjb d1
                have df:=fun o=>(bBoxF hWjb gr hg8 o).trans (df o)
                have HBj:=bTrans HBi hWjb
                have sj:=hWjb.size
                have hgj:gr < Wj.heap.size:=by omega
                go_region_law (first | (go_simp;go_at_call 37;refine Calls.mono (impl_AppendEntry_c J false 0 f.id f.kind f.frm f.to f.pose.turn f.pose.x f.pose.y f.weight _ hjs (by omega) hfs1 hfs2 (HTb.out.below (by repeat (first | with_reducible exact HBj | with_reducible refine bAlloc ?_ _ | with_reducible refine bDrew ?_ | with_reducible refine bDrewN ?_ _)))) ?_;rintro e w6 ⟨rfl,hb7⟩;have hW6:=bTrans (show Below Wj.heap.size Wj _ from (by repeat (first | with_reducible exact (Below.refl _ _) | with_reducible refine bAlloc ?_ _ | with_reducible refine bDrew ?_ | with_reducible refine bDrewN ?_ _))) hb7;have z0:=bCell hW6 z0;have d1:=bCell hW6 d1;have df:=fun o=>(bBoxF hW6 gr hgj o).trans (df o);have s9:=hW6.size;have hg9:gr < w6.heap.size:=(by omega);have hz9:w.heap.size < w6.heap.size:=cell_lt z0))
                all_goals
                  obtain ⟨v6,O6,st6,_⟩:=HPJ.out w6 (bTrans hWjb hW6) (apE J ⟨false,0,⟨f.id,f.kind,f.frm,f.to,⟨f.pose.turn,f.pose.x,f.pose.y⟩,f.weight⟩⟩).1
                  rw [setR_set] at O6
                  go_wp2_with fail
                  go_roundw
                  case rel=>exact ⟨m+1,v6,by omega,by go_num,by rw [hnj];exact O6,st5.trans st6⟩
                  case measure=>simp [intOf];omega
              · obtain rfl:m=va.n:=by omega
                rw [← lva,List.take_length,← hnx] at O5
                go_wp2_with fail
                go_roundw
                case rel=>exact ⟨k+1,v5,by omega,by go_num,O5,st.trans (st4.trans st5)⟩
                case measure=>simp [intOf];omega
      · obtain rfl:k=vq.n:=by omega
        rw [List.take_of_length_le (by omega),← HRQ.out] at Or
        have Y1:=X1.upd st.upd (hbb.out _ (by omega) (by omega))
        have y3:=Y1.c0;have y4:=Y1.c1;have y5:=Y1.fz;have y6:=Y1.lt
        have hlr:=HLT.out
        go_wp2_with fail
        refine bodyPost_ret (v:=.agg #[.slice (some ⟨gr,0,none⟩) nr cr,.slice (some ⟨gt,0,none⟩) nc cc]) (by simp [*,results,Tryz.results41,go_sem]) rfl ?_
        have uE:Upd [w.heap.size+1] wo ((wo.setCell ⟨w.heap.size+1,0,none⟩ (.slice (some ⟨gr,0,none⟩) nr cr)).setCell ⟨w.heap.size+1,1,none⟩ (.slice (some ⟨gt,0,none⟩) nc cc)):=((Upd.refl _ _).set_in (by simp) _).set_in (by simp) _
        have hEd:∀ q∈[w.heap.size+1],q ∉ fpT v':=fun q hq hm=>by
          simp at hq;subst hq
          rcases st.foot _ hm with h3 | h3
          · exact hbb.out _ (by omega) (by omega) h3
          · have:=X1.lt;omega
        refine ⟨v',by simp only [vTeam,st.r,st.c,st2.r,st2.c],⟨Or.own.upd uE (fun q hq hm=>hEd q hm hq),Or.fr.grow uE.size⟩,?_⟩
        have stt:=st2.trans st
        exact ⟨stt.r,stt.c,stt.upd.trans2 uE (fun q hq=>by simp at hq;exact .inr (by omega)),stt.foot⟩
end Go.Proofs.YtdfemnffpaopfaaGreatDoor
