/- Texts of this proof, one behind the other: TmGS. -/
import Derived.Test.YtdfemnffpaopfaaGreatDoorGmf13
import Derived.Test.YtdfemnffpaopfaaGreatDoorGmf27
import Derived.Test.YtdfemnffpaopfaaGreatDoorGmf28
import Derived.Test.YtdfemnffpaopfaaGreatDoorGmf34
import Derived.Test.YtdfemnffpaopfaaGreatDoorGmf40
import Derived.Test.YtdfemnffpaopfaaGreatDoorGmf42
import Derived.Test.YtdfemnffpaopfaaGreatDoorGmf43
namespace Go.Proofs.YtdfemnffpaopfaaGreatDoor
open Go.RowKit
set_option linter.unusedVariables false
set_option linter.unusedSimpArgs false
set_option maxHeartbeats 8000000
set_option maxRecDepth 100000
theorem isBun1 {f:Factor} {r:Nat} {l:List Factor} (h:(addF l f).2=true) (hr:robotOf f.id=r) (h2:r≤2):isBundle r [f]=true:=by
  obtain ⟨h3,h4,_⟩:=addF_cases h
  have hv:vldFactor f=true:=(fl_rp h4).1 f (mem_insF.2 (.inl rfl))
  unfold isBundle
  have e1:inR (r:Int) 0 2=true:=inR_iff.2 (by omega)
  have e2:inR (([f]:List Factor).length:Int) 1 4=true:=inR_iff.2 (by simp)
  rw [e1,e2]
  simp [bunL,hv,hr]
theorem OT.apart {B:Nat} {w:World} {v:TV} {t:Team} (h:OT B w v t) {g gt:Nat} (hr:v.r.A=some ⟨g,0,none⟩) (hc:v.c.A=some ⟨gt,0,none⟩):gt≠g:=fun e=>by
  have h1:g∈v.fr:=h.own.r.obl_mem g (by rw [hr];simp [obl,ob])
  have h2:gt∈v.fc:=h.own.c.obl_mem gt (by rw [hc];simp [obl,ob])
  exact Fresh.apart h.fr g h1 (e ▸ h2)
theorem spec_Measure_k (v:TV) (t:Team) (r:Int) (f:Factor) (w:World) (hm:bulkT t≤1048576) (hok:okT t) (hr:RdT w v t) (hwr:(Lit.int .i64 r).wf=true) (hfb:bulkF [f]≤2097152) (hfo:okF [f]) :
    Calls Tryz.prog 26 #[vTeam v,.int .i64 r,vFactor f.id f.kind f.frm f.to f.pose.turn f.pose.x f.pose.y f.weight] w fun e w'=>∃ v',e=.returned (.tuple #[vTeam v',.bool (measT t r f).2])∧OwT w' v' (measT t r f).1∧Fresh w.heap.size w' (fpT v')∧Below w.heap.size w w':=by
  have FT:=Lib.hid (fewT_of (Nat.le_trans hm (show 1048576≤4194304 by decide)))
  have HM:=Lib.hid (Nat.le_trans hm (show 1048576≤4194304 by decide))
  have HMT:=Lib.hid hm
  have HK:=Lib.hid hok
  have HR:=Lib.hid hr
  have HL:Hid (t.robots.length=v.r.n):=hr.r.len
  have HN:Hid (v.r.n≤4194304):=by have h1:=fewT_len FT.out;have:=HL.out;rw [Hid];omega
  obtain ⟨hf1,hf2⟩:=bulkF_small (Nat.le_trans hfb (show 2097152≤4194304 by decide)) f (by simp)
  have HFB:=Lib.hid hfb
  have HFO:=Lib.hid hfo
  have HWR:=Lib.hid hwr
  obtain ⟨⟨Ar,nr,cr⟩,⟨Ac,nc,cc⟩,fr,fc⟩:=v
  generalize hbt:isTeam t=bt
  generalize hbr:isRob t r=br
  have HB:=Lib.hid hbt
  have HI:=Lib.hid hbr
  clear hbt hbr hm hok hr hwr hfb hfo
  go_enter Tryz.func26,Tryz.ntmps26
  go_wp2_with fail
  refine Calls.mono (spec_IsTeam_k ⟨⟨Ar,nr,cr⟩,⟨Ac,nc,cc⟩,fr,fc⟩ t _ HM.out HK.out ?_) ?_
  · exact HR.out.below (bAlloc (bAlloc (bAlloc (Below.refl _ _) _) _) _)
  rintro e w2 ⟨he,hb2⟩
  rw [HB.out] at he
  subst he
  have B:=bTrans (bAlloc (bAlloc (bAlloc (Below.refl w.heap.size w) _) _) _) hb2
  have X0:Bx2 w2 w.heap.size (.slice Ar nr cr) (.slice Ac nc cc):=Bx2.below ⟨by go_simp,by go_simp,fun o=>by go_simp⟩ hb2
  have XF:Bx8 w2 (w.heap.size+1) f:=Bx8.below ⟨by go_simp,by go_simp,by go_simp,by go_simp,by go_simp,by go_simp,by go_simp,by go_simp⟩ hb2
  have X1:Bx2 w2 (w.heap.size+1+1) (.slice none 0 0) (.slice none 0 0):=Bx2.below ⟨by go_simp,by go_simp,fun o=>by go_simp⟩ hb2
  have a0:=X0.c0;have a1:=X0.c1;have a2:=X0.lt;have b0:=X1.c0;have b1:=X1.c1;have b2:=X1.fz;have b3:=X1.lt;have f0:=XF.c0;have f1:=XF.c1;have f2:=XF.c2;have f3:=XF.c3;have f4:=XF.c4;have f5:=XF.c5;have f6:=XF.c6;have f7:=XF.c7;have f8:=XF.lt
  cases bt
  · have HF:=Lib.hid (measT_no1 (r:=r) (f:=f) HB.out)
    go_wp2_with fail
    refine Calls.mono (spec_l30Copy_k ⟨⟨Ar,nr,cr⟩,⟨Ac,nc,cc⟩,fr,fc⟩ t _ FT.out ?_) ?_
    · exact HR.out.below B
    rintro e w9 ⟨v9,rfl,ho9,hf9,hb9⟩
    have X9:=X1.below hb9
    clear a0 a1 a2 b0 b1 b2 b3
    have b0:=X9.c0;have b1:=X9.c1;have b2:=X9.fz;have b3:=X9.lt
    go_wp2_with fail
    refine bodyPost_ret (v:=.tuple #[vTeam v9,.bool false]) (by simp [*,results,Tryz.results26,go_sem]) rfl ?_
    rw [HF.out]
    exact ⟨v9,rfl,teamEndB (bTrans B hb9) (by omega) ⟨ho9,hf9.rebase (by have:=X1.lt;omega)⟩ _ _⟩
  go_wp2_with fail
  refine Calls.mono (spec_l30Robot_c ⟨⟨Ar,nr,cr⟩,⟨Ac,nc,cc⟩,fr,fc⟩ t r _ HL.out HN.out) ?_
  rintro e w3 ⟨he,hb3⟩
  rw [HI.out] at he
  subst he
  have X0:=X0.below hb3
  have X1:=X1.below hb3
  have XF:=XF.below hb3
  have B:=bTrans B hb3
  clear a0 a1 a2 b0 b1 b2 b3 f0 f1 f2 f3 f4 f5 f6 f7 f8
  have a0:=X0.c0;have a1:=X0.c1;have a2:=X0.lt;have b0:=X1.c0;have b1:=X1.c1;have b2:=X1.fz;have b3:=X1.lt;have f0:=XF.c0;have f1:=XF.c1;have f2:=XF.c2;have f3:=XF.c3;have f4:=XF.c4;have f5:=XF.c5;have f6:=XF.c6;have f7:=XF.c7;have f8:=XF.lt
  cases br
  · have HF:=Lib.hid (measT_no2 (f:=f) HI.out)
    go_wp2_with fail
    refine Calls.mono (spec_l30Copy_k ⟨⟨Ar,nr,cr⟩,⟨Ac,nc,cc⟩,fr,fc⟩ t _ FT.out ?_) ?_
    · exact HR.out.below B
    rintro e w9 ⟨v9,rfl,ho9,hf9,hb9⟩
    have X9:=X1.below hb9
    clear a0 a1 a2 b0 b1 b2 b3
    have b0:=X9.c0;have b1:=X9.c1;have b2:=X9.fz;have b3:=X9.lt
    go_wp2_with fail
    refine bodyPost_ret (v:=.tuple #[vTeam v9,.bool false]) (by simp [*,results,Tryz.results26,go_sem]) rfl ?_
    rw [HF.out]
    exact ⟨v9,rfl,teamEndB (bTrans B hb9) (by omega) ⟨ho9,hf9.rebase (by have:=X1.lt;omega)⟩ _ _⟩
  go_wp2_with fail
  refine Calls.mono (spec_RobotOf_c _ _) ?_
  rintro e w4 ⟨rfl,rfl⟩
  by_cases hid:robotOf f.id=r
  rotate_left
  · have HF:=Lib.hid (measT_no3 (t:=t) hid)
    go_wp2_with fail
    refine Calls.mono (spec_l30Copy_k ⟨⟨Ar,nr,cr⟩,⟨Ac,nc,cc⟩,fr,fc⟩ t _ FT.out ?_) ?_
    · exact HR.out.below B
    rintro e w9 ⟨v9,rfl,ho9,hf9,hb9⟩
    have X9:=X1.below hb9
    clear a0 a1 a2 b0 b1 b2 b3
    have b0:=X9.c0;have b1:=X9.c1;have b2:=X9.fz;have b3:=X9.lt
    go_wp2_with fail
    refine bodyPost_ret (v:=.tuple #[vTeam v9,.bool false]) (by simp [*,results,Tryz.results26,go_sem]) rfl ?_
    rw [HF.out]
    exact ⟨v9,rfl,teamEndB (bTrans B hb9) (by omega) ⟨ho9,hf9.rebase (by have:=X1.lt;omega)⟩ _ _⟩
  have g2:=isRob_iff.1 HI.out
  obtain ⟨r,rfl⟩:∃ n:Nat,r=n:=⟨r.toNat,by omega⟩
  have hj:r < nr:=by have:=HL.out;(try dsimp only at this);omega
  obtain ⟨x,hx⟩:∃ x,t.robots[r]? = some x:=⟨_,List.getElem?_eq_getElem (by have:=HL.out;(try dsimp only at this);omega)⟩
  have hxm:=List.mem_of_getElem? hx
  have hflx:=(isTeam_parts HB.out).2.2.2.1 x hxm
  have hsx:smallFs x.factors:=(fl_rp hflx).small
  have hfx:fewF x.factors:=(fl_rp hflx).few
  have hjs:x.journal.size≤4194304:=Nat.le_trans (jrn_size HMT.out hxm) (by decide)
  have HX:=Lib.hid hx
  have HME:=Lib.hid (measT_eq HB.out HI.out hid hx)
  have HID:=Lib.hid hid
  have hr2:r≤2:=by have:=(isTeam_parts HB.out).2.1;omega
  go_wp2_with fail
  refine Calls.mono (spec_l30Copy_k ⟨⟨Ar,nr,cr⟩,⟨Ac,nc,cc⟩,fr,fc⟩ t _ FT.out ?_) ?_
  · exact HR.out.below B
  rintro e w1 ⟨⟨⟨Ar1,nr1,cr1⟩,⟨Ac1,nc1,cc1⟩,fr1,fc1⟩,rfl,ho1,hf3,hb1⟩
  have X0:=X0.below hb1
  have X1:=X1.below hb1
  have XF:=XF.below hb1
  have O:OT (w.heap.size+1+1+1) w1 ⟨⟨Ar1,nr1,cr1⟩,⟨Ac1,nc1,cc1⟩,fr1,fc1⟩ t:=⟨ho1,hf3.rebase (by have:=X1.lt;have:=hb1.size;omega)⟩
  have B:=bTrans B hb1
  have O1:=Lib.hid O
  have hlt1:=O.lt
  have HSZ:Hid (w.heap.size+1+1+1≤w1.heap.size):=by have h9:=X1.lt;rw [Hid];omega
  clear ho1 hf3 a0 a1 a2 b0 b1 b2 b3 f0 f1 f2 f3 f4 f5 f6 f7 f8
  go_wp2_with fail
  refine region_at fun w3 hW=>?_
  have hb13:Below w1.heap.size w1 w3:=by rw [hW.out];exact bAlloc (Below.refl _ _) _
  have X2:Bx2 w3 w1.heap.size (.slice Ar1 nr1 cr1) (.slice Ac1 nc1 cc1):=⟨by rw [hW.out];simp,by rw [hW.out];simp,fun o=>by rw [hW.out];simp⟩
  clear hW
  have X0:=X0.below hb13
  have X1:=X1.below hb13
  have XF:=XF.below hb13
  have O:=O.below hb13
  have B:=bTrans B hb13
  have O3:=Lib.hid O
  have hs3:w1.heap.size < w3.heap.size:=X2.lt
  obtain ⟨g,vr,hA,p0,p1,pf,hOw,hg,hgB,hgm,hvl,put2,putF,putJ⟩:=O3.out.rob (by have:=HSZ.out;omega) hx
  dsimp only at hA
  subst hA
  have q0:=p0
  have q1:=p1
  have hRx:=hOw.rd
  have hslx:SlOk vr:=Own.slOk hOw
  have HP2:=Lib.hid put2
  have z0:(0:Int)≤(r:Int):=by omega
  have hn1:t.robots.length=nr1:=O.own.r.len.out
  have z1:(r:Int) < (nr1:Int):=by omega
  clear put2 putF putJ
  have a0:=X0.c0;have a1:=X0.c1;have a2:=X0.lt;have b0:=X1.c0;have b1:=X1.c1;have b2:=X1.fz;have b3:=X1.lt;have c0:=X2.c0;have c1:=X2.c1;have c3:=X2.lt;have f0:=XF.c0;have f1:=XF.c1;have f2:=XF.c2;have f3:=XF.c3;have f4:=XF.c4;have f5:=XF.c5;have f6:=XF.c6;have f7:=XF.c7;have f8:=XF.lt
  go_region_held3 (fun w'=>w'.cell? ⟨w1.heap.size,0,none⟩=some (.slice (some ⟨g,0,none⟩) nr1 cr1)∧w'.cell? ⟨g,r * 2,none⟩=some (.slice vr.A vr.n vr.c)∧w'.cell? ⟨w.heap.size+1,0,none⟩=some (.int .i64 f.id)∧w'.cell? ⟨w.heap.size+1,1,none⟩=some (.int .i64 f.kind)∧w'.cell? ⟨w.heap.size+1,2,none⟩=some (.string f.frm)∧w'.cell? ⟨w.heap.size+1,3,none⟩=some (.string f.to)∧w'.cell? ⟨w.heap.size+1,4,none⟩=some (.int .i64 f.pose.turn)∧w'.cell? ⟨w.heap.size+1,5,none⟩=some (.int .i64 f.pose.x)∧w'.cell? ⟨w.heap.size+1,6,none⟩=some (.int .i64 f.pose.y)∧w'.cell? ⟨w.heap.size+1,7,none⟩=some (.int .i64 f.weight)) (first | (go_split_ands;(repeat' apply And.intro) <;> (exact bCell hb4 (by assumption))) | go_keep) ((first | (go_at_call 69;refine Calls.mono (spec_AddFactor_k vr x.factors f _ hfx hsx ⟨hf1,hf2⟩ hslx ?_) ?_;exact hRx.below (by repeat (first | with_reducible exact (Below.refl _ _) | with_reducible refine bAlloc ?_ _ | with_reducible refine bDrew ?_ | with_reducible refine bDrewN ?_ _));rintro e w4 ⟨v4,rfl,ho4,hf4,hb4⟩)))
  have hW4:Below w3.heap.size w3 w4:=bTrans (show Below w3.heap.size w3 _ from (by repeat (first | with_reducible exact (Below.refl _ _) | with_reducible refine bAlloc ?_ _ | with_reducible refine bDrew ?_ | with_reducible refine bDrewN ?_ _))) hb4
  have X0:=X0.below hW4
  have X1:=X1.below hW4
  have X2:=X2.below hW4
  have XF:=XF.below hW4
  have O:=O.below hW4
  have B:=bTrans B hW4
  have q1:=bCell hW4 q1
  have hg4:g < w4.heap.size:=by have:=hW4.size;omega
  clear a0 a1 a2 b0 b1 b2 b3 c0 c1 c3 f0 f1 f2 f3 f4 f5 f6 f7 f8
  have a0:=X0.c0;have a1:=X0.c1;have a2:=X0.lt;have b0:=X1.c0;have b1:=X1.c1;have b2:=X1.fz;have b3:=X1.lt;have c0:=X2.c0;have c1:=X2.c1;have c3:=X2.lt;have f0:=XF.c0;have f1:=XF.c1;have f2:=XF.c2;have f3:=XF.c3;have f4:=XF.c4;have f5:=XF.c5;have f6:=XF.c6;have f7:=XF.c7;have f8:=XF.lt
  go_wp2_with fail
  go_region_held3 (fun w'=>w'.cell? ⟨w1.heap.size,0,none⟩=some (.slice (some ⟨g,0,none⟩) nr1 cr1)∧w'.cell? ⟨g,r * 2+1,none⟩=some (.string x.journal)∧w'.cell? ⟨w.heap.size+1,0,none⟩=some (.int .i64 f.id)∧w'.cell? ⟨w.heap.size+1,1,none⟩=some (.int .i64 f.kind)∧w'.cell? ⟨w.heap.size+1,2,none⟩=some (.string f.frm)∧w'.cell? ⟨w.heap.size+1,3,none⟩=some (.string f.to)∧w'.cell? ⟨w.heap.size+1,4,none⟩=some (.int .i64 f.pose.turn)∧w'.cell? ⟨w.heap.size+1,5,none⟩=some (.int .i64 f.pose.x)∧w'.cell? ⟨w.heap.size+1,6,none⟩=some (.int .i64 f.pose.y)∧w'.cell? ⟨w.heap.size+1,7,none⟩=some (.int .i64 f.weight)) (first | (go_split_ands;(repeat' apply And.intro) <;> (exact bCell hb5 (by assumption))) | go_keep) ((first | (go_at_call 70;refine Calls.mono (spec_AppendEntry_c x.journal false 0 f.id f.kind f.frm f.to f.pose.turn f.pose.x f.pose.y f.weight _ hjs (by omega) hf1 hf2) ?_;rintro e w5 ⟨rfl,hb5⟩)))
  have hW5:Below w4.heap.size w4 w5:=bTrans (show Below w4.heap.size w4 _ from (by repeat (first | with_reducible exact (Below.refl _ _) | with_reducible refine bAlloc ?_ _ | with_reducible refine bDrew ?_ | with_reducible refine bDrewN ?_ _))) hb5
  have X0:=X0.below hW5
  have X1:=X1.below hW5
  have X2:=X2.below hW5
  have XF:=XF.below hW5
  have O:=O.below hW5
  have B:=bTrans B hW5
  clear a0 a1 a2 b0 b1 b2 b3 c0 c1 c3 f0 f1 f2 f3 f4 f5 f6 f7 f8
  have a0:=X0.c0;have a1:=X0.c1;have a2:=X0.lt;have b0:=X1.c0;have b1:=X1.c1;have b2:=X1.fz;have b3:=X1.lt;have c0:=X2.c0;have c1:=X2.c1;have c3:=X2.lt;have f0:=XF.c0;have f1:=XF.c1;have f2:=XF.c2;have f3:=XF.c3;have f4:=XF.c4;have f5:=XF.c5;have f6:=XF.c6;have f7:=XF.c7;have f8:=XF.lt
  have ho4:=ho4.below hW5
  have hf4:=hf4.rebase (show w3.heap.size≤_ by simp)
  go_wp2_with fail
  refine Calls.mono (spec_FormatBundle_k ⟨some ⟨w5.heap.size,0,none⟩,1,1⟩ ⟨r,[f]⟩ _ (show bulkF [f]≤4194304 from Nat.le_trans HFB.out (by decide)) ⟨HWR.out,HFO.out⟩ ?_) ?_
  · exact Row.new1' _ _ f.cells 8 _ (by simp)
  rintro e w6 ⟨rfl,hb6⟩
  have hW6:Below w5.heap.size w5 w6:=bTrans (bAlloc (Below.refl _ _) _) hb6
  have X0:=X0.below hW6
  have X1:=X1.below hW6
  have X2:=X2.below hW6
  have XF:=XF.below hW6
  have O:=O.below hW6
  have B:=bTrans B hW6
  clear a0 a1 a2 b0 b1 b2 b3 c0 c1 c3 f0 f1 f2 f3 f4 f5 f6 f7 f8
  have a0:=X0.c0;have a1:=X0.c1;have a2:=X0.lt;have b0:=X1.c0;have b1:=X1.c1;have b2:=X1.fz;have b3:=X1.lt;have c0:=X2.c0;have c1:=X2.c1;have c3:=X2.lt;have f0:=XF.c0;have f1:=XF.c1;have f2:=XF.c2;have f3:=XF.c3;have f4:=XF.c4;have f5:=XF.c5;have f6:=XF.c6;have f7:=XF.c7;have f8:=XF.lt
  have ho4:=ho4.below hW6
  have hx9:=HX.out
  have hW36:Below w3.heap.size w3 w6:=bTrans (bTrans hW4 hW5) hW6
  obtain ⟨T,hTd⟩:∃ T,T=fmtBun ⟨(r:Int),[f]⟩:=⟨_,rfl⟩
  have hTs:T.size≤4194304:=by have:=fmt1_sz f r;rw [← hTd] at this;omega
  obtain ⟨E,hEd⟩:∃ E,E=apE x.journal ⟨false,0,⟨f.id,f.kind,f.frm,f.to,⟨f.pose.turn,f.pose.x,f.pose.y⟩,f.weight⟩⟩:=⟨_,rfl⟩
  obtain ⟨D,hDd⟩:∃ D,D=addF x.factors f:=⟨_,rfl⟩
  have hme:measT t r f=if D.2 && E.2 then (match offJ r T t.robots.length (setR t r ⟨D.1,E.1⟩) with | some u=>(u,true) | none=>(t,false)) else (t,false):=by rw [HME.out,hTd,hEd,hDd];first | done | rfl
  have hoi0:OI t nr1 r 0 (setR t r ⟨D.1,E.1⟩):=by rw [hDd];exact OI.start HB.out HMT.out O.own.r.len.out hx9
  rw [← hTd,← hEd,← hDd]
  rw [← hDd] at ho4
  have HME2:=Lib.hid hme
  have hTe0:D.2=true→T.toList.isEmpty=false:=fun h=>by rw [hTd];exact (fmtBun_ne (b:=⟨(r:Int),[f]⟩) (isBun1 (by rw [← hDd];exact h) HID.out hr2)).2
  clear hTd hEd hDd hme HME hx9 hRx q0 q1
  obtain ⟨D1,D2⟩:=D
  obtain ⟨E1,E2⟩:=E
  dsimp only at hoi0 ho4 HME2 hTe0 ⊢
  cases D2
  · have HF:=Lib.hid (show measT t r f=(t,false) by rw [HME2.out];rfl)
    go_wp2_with fail
    refine Calls.mono (spec_l30Copy_k ⟨⟨Ar,nr,cr⟩,⟨Ac,nc,cc⟩,fr,fc⟩ t _ FT.out ?_) ?_
    · exact HR.out.below B
    rintro e w9 ⟨v9,rfl,ho9,hf9,hb9⟩
    have X9:=X1.below hb9
    clear a0 a1 a2 b0 b1 b2 b3 c0 c1 c3
    have b0:=X9.c0;have b1:=X9.c1;have b2:=X9.fz;have b3:=X9.lt
    go_wp2_with fail
    refine bodyPost_ret (v:=.tuple #[vTeam v9,.bool false]) (by simp [*,results,Tryz.results26,go_sem]) rfl ?_
    rw [HF.out]
    exact ⟨v9,rfl,teamEndB (bTrans B hb9) (by omega) ⟨ho9,hf9.rebase (by have:=X1.lt;omega)⟩ _ _⟩
  have hTe:=hTe0 rfl
  cases E2
  · have HF:=Lib.hid (show measT t r f=(t,false) by rw [HME2.out];rfl)
    go_wp2_with fail
    refine Calls.mono (spec_l30Copy_k ⟨⟨Ar,nr,cr⟩,⟨Ac,nc,cc⟩,fr,fc⟩ t _ FT.out ?_) ?_
    · exact HR.out.below B
    rintro e w9 ⟨v9,rfl,ho9,hf9,hb9⟩
    have X9:=X1.below hb9
    clear a0 a1 a2 b0 b1 b2 b3 c0 c1 c3
    have b0:=X9.c0;have b1:=X9.c1;have b2:=X9.fz;have b3:=X9.lt
    go_wp2_with fail
    refine bodyPost_ret (v:=.tuple #[vTeam v9,.bool false]) (by simp [*,results,Tryz.results26,go_sem]) rfl ?_
    rw [HF.out]
    exact ⟨v9,rfl,teamEndB (bTrans B hb9) (by omega) ⟨ho9,hf9.rebase (by have:=X1.lt;omega)⟩ _ _⟩
  have HME3:=Lib.hid (show measT t r f=(match offJ r T nr1 (setR t r ⟨D1,E1⟩) with | some u=>(u,true) | none=>(t,false)) by rw [HME2.out,hn1];rfl)
  have p0:=bCell hW36 p0;have p1:=bCell hW36 p1
  have pf:=fun o=>(bBoxF hW36 g hg o).trans (pf o)
  have s36:=hW36.size
  have hg6:g < w6.heap.size:=by omega
  have hgl1:=hlt1 g hgm
  obtain ⟨⟨v7r,v7c,fr7,fc7⟩,O7,st7,ft7⟩:=HP2.out w6 hW36 v4 _ ho4 (hf4.grow (bTrans hW5 hW6).size) E1
  have e1:=st7.r
  have e2:=st7.c
  dsimp only at e1 e2
  subst e1 e2
  have uS:Upd [g] w6 ((w6.setCell ⟨g,r * 2,none⟩ (.slice v4.A v4.n v4.c)).setCell ⟨g,r * 2+1,none⟩ (.string E1)):=((Upd.refl _ _).set_in (by simp) _).set_in (by simp) _
  have B7:=bUpd B uS (fun q hq=>by simp at hq;omega)
  have X0:=X0.upd uS (by simp;omega)
  have X1:=X1.upd uS (by simp;omega)
  have X2:=X2.upd uS (by simp;omega)
  have hnb7:w1.heap.size ∉ fpT (⟨⟨some ⟨g,0,none⟩,nr1,cr1⟩,⟨Ac1,nc1,cc1⟩,fr7,fc7⟩:TV):=fun hm=>by
    rcases ft7 _ hm with h3 | h3
    · have:=hlt1 _ h3.1;omega
    · have:=hf4.lo _ h3;omega
  have hjn1:r < nr1:=by have h1:=HL.out;(try dsimp only at h1);omega
  have hncn:nc1=nr1:=by have h1:=O.own.c.len.out;have h2:=(isTeam_parts HB.out).2.2.1;(try dsimp only at h1);omega
  have HNC:=Lib.hid hncn
  have hn3:nr1≤3:=by have:=(isTeam_parts HB.out).2.1;omega
  have HN1:=Lib.hid hn1
  obtain ⟨row0,c00,m1,m2,_⟩:=hoi0.parts HB.out HMT.out HK.out hn1 hjn1 (show 0 < nr1 by omega)
  obtain ⟨gt,gc0,⟨vsA,vsn,vsc⟩,_,hA,pc0,hvs0,_⟩:=O3.out.ch (by have:=HSZ.out;omega) m1 m2
  have hgg:=O3.out.apart rfl hA
  dsimp only at hA
  subst hA
  have hrl0:row0.length=nr1:=hoi0.row row0 (List.mem_of_getElem? m1)
  obtain rfl:nr1=vsn:=by have:row0.length=vsn:=hvs0;omega
  have pc0:=bCell hW36 pc0
  have z7:(r:Int) < (nc1:Int):=by omega
  have hgg2:g≠gt:=fun e=>hgg e.symm
  have hggl:gt < w6.heap.size:=cell_lt pc0
  clear hn1 hncn m1 m2 ho4 hf4
  go_wp2_with fail
  obtain ⟨W7,hW7⟩:∃ W7,W7=(w6.setCell ⟨g,r * 2,none⟩ (.slice v4.A v4.n v4.c)).setCell ⟨g,r * 2+1,none⟩ (.string E1):=⟨_,rfl⟩
  rw [← hW7] at O7 B7 X0 X1 X2 ⊢
  have hgw0:GW w w1 W7 (.slice Ar nr cr) (.slice Ac nc cc) (.slice (some ⟨g,0,none⟩) nr1 cr1) (.slice (some ⟨gt,0,none⟩) nc1 cc1) ⟨some ⟨g,0,none⟩,nr1,cr1⟩ ⟨some ⟨gt,0,none⟩,nc1,cc1⟩ ⟨⟨some ⟨g,0,none⟩,nr1,cr1⟩,⟨some ⟨gt,0,none⟩,nc1,cc1⟩,fr7,fc7⟩ (setR t r ⟨D1,E1⟩):=⟨X0,X1,X2,O7,rfl,rfl,hnb7,B7⟩
  clear hW7 uS st7 ft7 O O1 O3 X0 X1 X2 XF p0 p1 pf a0 a1 a2 b0 b1 b2 b3 c0 c1 c3 f0 f1 f2 f3 f4 f5 f6 f7 f8
  go_loopw [95,14,16] (fun jv y14 y16 wr=>∃ (j:Nat) (v':TV) (u:Team),j≤nr1∧jv=.int .i64 j∧GW w w1 wr (.slice Ar nr cr) (.slice Ac nc cc) (.slice (some ⟨g,0,none⟩) nr1 cr1) (.slice (some ⟨gt,0,none⟩) nc1 cc1) ⟨some ⟨g,0,none⟩,nr1,cr1⟩ ⟨some ⟨gt,0,none⟩,nc1,cc1⟩ v' u∧OI t nr1 r j u∧Hid (offJ r T j (setR t r ⟨D1,E1⟩)=some u)) (fun jv _ _ _=>nr1 - (intOf jv).toNat)
  case atStart=>exact ⟨0,_,_,by omega,rfl,hgw0,hoi0,rfl⟩
  case round =>
    clear hgw0
    obtain ⟨j,v',u,hj2,rfl,hgw,hoi,he⟩:=hrel
    obtain ⟨wo,rfl⟩:∃ wo:World,wo=wr:=⟨_,rfl⟩
    have a0:=hgw.x0.c0;have a1:=hgw.x0.c1;have a2:=hgw.x0.lt;have b0:=hgw.x1.c0;have b1:=hgw.x1.c1;have b2:=hgw.x1.fz;have b3:=hgw.x1.lt;have c0:=hgw.x2.c0;have c1:=hgw.x2.c1;have c3:=hgw.x2.lt
    by_cases hjl:j < nr1
    · by_cases hjr:j=r
      · subst hjr
        go_wp2_with fail
        go_roundw
        case rel=>exact ⟨j+1,v',u,by omega,by go_num,hgw,hoi.skip,offJ_skip he.out⟩
        case measure=>simp [intOf];omega
      · obtain ⟨row,c,k1,k2,k3,k4,k5⟩:=hoi.parts HB.out HMT.out HK.out HN1.out hjn1 hjl
        have hszo:w.heap.size+1+1+1≤wo.heap.size:=by have:=HSZ.out;omega
        obtain ⟨gt2,gc,vs,vc,hA,p0,hvs,⟨q0,q1,q2,q3,q4,q5⟩,cf,hRc,hln,hgc,hgt,hgB,hgtB,hne,hput⟩:=hgw.o.ch hszo k1 k2
        have hgm:gc∈fpT v':=hgw.o.ch_mem hszo k1 k2 hA p0
        have hgn1:gc≠w1.heap.size:=fun e=>hgw.nb (e ▸ hgm)
        rw [hgw.c] at hA
        obtain rfl:gt=gt2:=by simpa using hA
        have HP:=Lib.hid hput
        have z4:(r:Int) < (nc1:Int):=by have:=HNC.out;omega
        have z5:(0:Int)≤(j:Int):=by omega
        have z6:(j:Int) < (vs.n:Int):=by omega
        have hjrn:¬ (j:Int)=(r:Int):=by omega
        clear hput hA hln
        go_wp2_with fail
        refine Calls.mono (spec_Offer_k vc c T _ (by omega) k4 ?_ hTs) ?_
        · exact hRc
        rintro e w8 ⟨v8,rfl,ho8,hf8,hb8⟩
        have hgw8:=hgw.below hb8
        cases hof:(offer c T).2 with
        | false =>
          have HN:=Lib.hid (offJ_no he.out hjr k1 k2 hof)
          have HF:Hid (measT t r f=(t,false)):=by
            have h1:=offJ_none HN.out (nr1 - (j+1))
            rw [show j+1+(nr1 - (j+1))=nr1 by omega] at h1
            rw [Hid,HME3.out,h1]
          have a0:=hgw8.x0.c0;have a1:=hgw8.x0.c1;have a2:=hgw8.x0.lt;have b0:=hgw8.x1.c0;have b1:=hgw8.x1.c1;have b2:=hgw8.x1.fz;have b3:=hgw8.x1.lt
          go_wp2_with fail
          refine Calls.mono (spec_l30Copy_k ⟨⟨Ar,nr,cr⟩,⟨Ac,nc,cc⟩,fr,fc⟩ t _ FT.out ?_) ?_
          · exact HR.out.below (bAlloc hgw8.b _)
          rintro e w9 ⟨v9,rfl,ho9,hf9,hb9⟩
          have hb89:Below w8.heap.size w8 w9:=bTrans (bAlloc (Below.refl _ _) _) hb9
          have X9:=hgw8.x1.below hb89
          clear a0 a1 a2 b0 b1 b2 b3
          have b0:=X9.c0;have b1:=X9.c1;have b2:=X9.fz;have b3:=X9.lt
          go_wp2_with fail
          refine bodyPost_ret (v:=.tuple #[vTeam v9,.bool false]) (by simp [*,results,Tryz.results26,go_sem]) rfl ?_
          rw [HF.out]
          exact ⟨v9,rfl,teamEndB (bTrans hgw8.b hb89) (by omega) ⟨ho9,hf9.rebase (by have:=hb8.size;simp;omega)⟩ _ _⟩
        | true =>
          have hoi2:=hoi.step (s:=T) k1 k2
          have hoj:=offJ_yes he.out hjr k1 k2 hof
          have HOJ:=Lib.hid hoj
          clear hoj a0 a1 a2 b0 b1 b2 b3 c0 c1 c3
          go_wp2_with fail
          refine region_at fun W hW=>?_
          have hWb:Below w8.heap.size w8 W:=by rw [hW.out];exact bAlloc (Below.refl _ _) _
          have k0:W.cell? ⟨w8.heap.size,0,none⟩=some (.slice v8.q.A v8.q.n v8.q.c):=by rw [hW.out];simp
          have k1':W.cell? ⟨w8.heap.size,1,none⟩=some (.int .i64 (offer c T).1.base):=by rw [hW.out];simp
          have k2':W.cell? ⟨w8.heap.size,2,none⟩=some (.int .i64 (offer c T).1.expected):=by rw [hW.out];simp
          have k3':W.cell? ⟨w8.heap.size,3,none⟩=some (.slice v8.i.A v8.i.n v8.i.c):=by rw [hW.out];simp
          have k4':W.cell? ⟨w8.heap.size,4,none⟩=some (.slice v8.n.A v8.n.n v8.n.c):=by rw [hW.out];simp
          have k5':W.cell? ⟨w8.heap.size,5,none⟩=some (.slice v8.a.A v8.a.n v8.a.c):=by rw [hW.out];simp
          clear hW
          have kz:=cell_lt k0
          have hbW:Below wo.heap.size wo W:=bTrans hb8 hWb
          have hgwW:=hgw.below hbW
          have c0:=hgwW.x2.c0;have c1:=hgwW.x2.c1;have c3:=hgwW.x2.lt
          have p0:=bCell hbW p0
          have q0:=bCell hbW q0;have q1:=bCell hbW q1;have q2:=bCell hbW q2;have q3:=bCell hbW q3;have q4:=bCell hbW q4;have q5:=bCell hbW q5
          have cf:=fun o=>(bBoxF hbW gc hgc o).trans (cf o)
          have ho8:=ho8.below hWb
          have hf8:=hf8.grow hWb.size
          go_region
          all_goals
            obtain ⟨⟨v6r,v6c,fr6,fc6⟩,O6,st6,ft6⟩:=HP.out W hbW v8 _ ho8 (hf8.rebase (by simp))
            have e1:=st6.r.trans hgw.r
            have e2:=st6.c.trans hgw.c
            dsimp only at e1 e2
            subst e1 e2
            have uS:=setChan_upd W gc j v8 (offer c T).1
            have B6:=bDrew (bUpd hgwW.b uS (fun q hq=>by simp at hq;omega))
            have X0:=(hgwW.x0.upd uS (by simp;omega)).below (bDrew (Below.refl _ _))
            have X1:=(hgwW.x1.upd uS (by simp;omega)).below (bDrew (Below.refl _ _))
            have X2:=(hgwW.x2.upd uS (by simp;omega)).below (bDrew (Below.refl _ _))
            have O6:=O6.below (bDrew (Below.refl _ _))
            have hnb6:w1.heap.size ∉ fpT (⟨⟨some ⟨g,0,none⟩,nr1,cr1⟩,⟨some ⟨gt,0,none⟩,nc1,cc1⟩,fr6,fc6⟩:TV):=fun hm=>by
              rcases ft6 _ hm with h3 | h3
              · exact hgw.nb h3
              · have:=hf8.lo _ h3;(try simp at this);have:=hgw.x2.lt;omega
            have hgw6:GW w w1 (setChan W gc j v8 (offer c T).1).drew (.slice Ar nr cr) (.slice Ac nc cc) (.slice (some ⟨g,0,none⟩) nr1 cr1) (.slice (some ⟨gt,0,none⟩) nc1 cc1) ⟨some ⟨g,0,none⟩,nr1,cr1⟩ ⟨some ⟨gt,0,none⟩,nc1,cc1⟩ ⟨⟨some ⟨g,0,none⟩,nr1,cr1⟩,⟨some ⟨gt,0,none⟩,nc1,cc1⟩,fr6,fc6⟩ (setC u r j (offer c T).1):=⟨X0,X1,X2,O6,rfl,rfl,hnb6,B6⟩
            clear c0 c1 c3 p0 q0 q1 q2 q3 q4 q5 cf k0 k1' k2' k3' k4' k5' uS
            go_wp2_with fail
            go_roundw
            case rel=>exact ⟨j+1,_,_,by omega,by go_num,hgw6,hoi2,HOJ⟩
            case measure=>simp [intOf];omega
    · obtain rfl:nr1=j:=by omega
      have HF:Hid (measT t r f=(u,true)):=by rw [Hid,HME3.out,he.out]
      go_wp2_with fail
      refine bodyPost_ret (v:=.tuple #[.agg #[.slice (some ⟨g,0,none⟩) nr1 cr1,.slice (some ⟨gt,0,none⟩) nc1 cc1],.bool true]) (by simp [*,results,Tryz.results26,go_sem]) rfl ?_
      rw [HF.out]
      exact ⟨v',by simp only [vTeam,hgw.r,hgw.c],teamEndB hgw.b (by omega) hgw.o _ _⟩
end Go.Proofs.YtdfemnffpaopfaaGreatDoor
