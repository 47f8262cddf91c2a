/- Texts of this proof, one behind the other: WRestart, OpenY. -/
import Derived.Test.YtdfemnffpaopfaaGreatDoorGrs5
import Derived.Test.YtdfemnffpaopfaaGreatDoorGrs8
import Derived.Test.YtdfemnffpaopfaaGreatDoorGrs14
import Derived.Test.YtdfemnffpaopfaaGreatDoorGrs31
import Derived.Test.YtdfemnffpaopfaaGreatDoorGrs40
import Derived.Test.YtdfemnffpaopfaaGreatDoorGrs46
import Derived.Test.YtdfemnffpaopfaaGreatDoorGrs47
import Derived.Test.YtdfemnffpaopfaaGreatDoorGrs50
namespace Go.Proofs.YtdfemnffpaopfaaGreatDoor
open Go.RowKit
set_option linter.unusedVariables false
set_option linter.unusedSimpArgs false
set_option maxHeartbeats 4000000
set_option maxRecDepth 100000
theorem cutJ_c (s:ByteArray) (k:Int) (w:World) (hs:s.size≤1048576) (h0:-1≤k) (hk:k≤s.size):Calls Tryz.prog 15 #[.string s,.int .i64 k] w fun e w'=>e=.returned (.string (s.extract 0 k.toNat))∧Below w.heap.size w w':=by
  rcases Int.lt_or_le k 0 with h | h
  · obtain rfl:k = -1:=by omega
    have hk3:min (0:Int) (s.size:Int)=0:=by omega
    have hk2:max (-1:Int) 0=0:=by omega
    rw [show s.extract 0 (-1:Int).toNat=ByteArray.empty from by apply bext;rw [ext_list];rfl]
    go_enter Tryz.func15,Tryz.ntmps15
    go_wp2
    go_ret
    exact ⟨rfl,Below.refl _ _⟩
  · obtain ⟨k,rfl⟩:∃ j:Nat,k=j:=⟨k.toNat,by omega⟩
    have hk0:(0:Int)≤(k:Int):=by omega
    have hk1:(k:Int)≤(s.size:Int):=by omega
    have hk2:max (k:Int) 0=(k:Int):=by omega
    have hk3:min (k:Int) (s.size:Int)=(k:Int):=by omega
    go_enter Tryz.func15,Tryz.ntmps15
    go_wp2
    go_ret
    exact ⟨rfl,Below.refl _ _⟩
theorem makeNum_c {W:World} {A:Option Addr} {n c:Nat} {w:World} (hB:Below W.heap.size W w) (hy:Bytes W A n) (hn:n≤4194304) (m:Nat) (hm:m≤1000) :
    Calls Tryz.prog 12 #[.slice A n c,.int .i64 (m:Int)] w fun e w'=>∃ x,e=rInt x∧0≤x∧x≤65535∧Below w.heap.size w w':=by
  have hy':=Lib.hid hy
  have HB:=Lib.hid hB
  clear hy hB
  go_enter Tryz.func12,Tryz.ntmps12
  go_wp2_with fail
  refine Calls.mono (l32New_c (c:=c) HB.out hy'.out hn m (by omega)) ?_
  rintro e w1 ⟨b,rfl,hb,hc1,hb1⟩
  have HC:=Lib.hid hc1
  clear hc1
  go_wp2_with fail
  refine Calls.mono (l01Byte_c hy'.out hn HC.out) ?_
  rintro e w2 ⟨x,rfl,hx0,hx1,hc2,hu2⟩
  have HC2:=Lib.hid hc2
  clear hc2
  go_wp2_with fail
  refine Calls.mono (l01Byte_c hy'.out hn HC2.out) ?_
  rintro e w3 ⟨y,rfl,hy0,hy1,hc3,hu3⟩
  go_wp2
  go_ret
  exact ⟨_,rfl,by omega,by omega,bUpd1 (bUpd1 hb1 hu2 hb) hu3 hb⟩
theorem newTeam2_c (w:World):Calls Tryz.prog 9 #[.int .i64 2] w fun e w'=>∃ v',e=.returned (.tuple #[vTeam v',.bool true])∧OwT w' v' ⟨List.replicate 2 zRobot,List.replicate 2 (zRow 2)⟩∧Fresh w.heap.size w' (fpT v')∧Below w.heap.size w w' :=
  (impl_NewTeam_k 2 w rfl).mono fun e w' h=>h
theorem FOK.reid {f:Factor} (h:FOK f) {x:Int} (h0:0≤x) (h1:x≤99999):FOK ⟨x,f.kind,f.frm,f.to,f.pose,f.weight⟩:=by
  refine ⟨?_,h.2⟩
  have h2:=h.1
  unfold vldFactor vldF at h2 ⊢
  simp only [Bool.and_eq_true] at h2 ⊢
  exact ⟨inR_iff.2 ⟨h0,h1⟩,h2.2⟩
structure FP (k:Nat) (F:List Factor):Prop where
  len:F.length=k
  ok:∀ g∈F,FOK g∧∃ j:Nat,j < k∧g.id=1000 * ((j:Int) % 2)+j
theorem FP.nil:FP 0 []:=⟨rfl,by simp⟩
theorem FP.new {k:Nat} {F:List Factor} {f:Factor} (h:FP k F) (hf:FOK f) (hk:k≤7) (hid:f.id=1000 * ((k:Int) % 2)+k):New F f∧FP (k+1) (F++[f]):=by
  have h2:FP (k+1) (F++[f]):=⟨by simp [h.len],fun g hg=>by
    rcases List.mem_append.1 hg with hg | hg
    · obtain ⟨h1,j,hj,he⟩:=h.ok g hg;exact ⟨h1,j,by omega,he⟩
    · simp only [List.mem_singleton] at hg;subst hg;exact ⟨hf,k,by omega,hid⟩⟩
  have h3:=FOK.names (l:=F++[f]) fun g hg=>(h2.ok g hg).1
  exact ⟨⟨hf.1,fun g hg=>by obtain ⟨_,j,hj,he⟩:=h.ok g hg;omega,by rw [h.len];omega,by omega⟩,h2⟩
theorem round_ok {k:Nat} {F:List Factor} {t:Team} {f:Factor} (hk:k≤7) (hF:FP k F) (hT:TI F k (2 * k) 2 t) (hf:FOK f) (hid:f.id=1000 * ((k:Int) % 2)+k) :
    bulkT t≤1048576∧okT t∧bulkF [f]≤2097152∧okF [f]∧FP (k+1) (F++[f]) ∧
    ∃ u,measT t ((k:Int) % 2) f=(u,true)∧bulkT u≤1048576∧okT u ∧
    ∃ u2,moveT u ((k:Int) % 2) (((k:Int)+1) % 2) 1 0=u2∧bulkT u2≤1048576∧okT u2 ∧
    ∃ u3,moveT u2 ((k:Int) % 2) (((k:Int)+1) % 2) 2 0=u3∧TI (F++[f]) (k+1) (2 * (k+1)) 2 u3:=by
  obtain ⟨hN,hP⟩:=hF.new hf hk hid
  have e1:((k:Int) % 2)=((k % 2:Nat):Int):=by omega
  have e2:(((k:Int)+1) % 2)=(((k+1) % 2:Nat):Int):=by omega
  have hr:robotOf f.id=((k % 2:Nat):Int):=by
    have hi:inR f.id 0 2999=true:=inR_iff.2 (by omega)
    unfold robotOf;rw [hi,if_pos rfl];omega
  obtain ⟨u,hu,hU⟩:=hT.meas (r:=k % 2) (by omega) (by omega) hN hr
  have hV:=hU.move (i:=k % 2) (j:=(k+1) % 2) (by omega) (by omega) (by omega) (by omega) (by omega) 1 0
  have hX:=hV.move (i:=k % 2) (j:=(k+1) % 2) (by omega) (by omega) (by omega) (by omega) (by omega) 2 0
  have he:=ent_small (vldE hf.1)
  refine ⟨hT.bulk,hT.ok (by omega) (by omega),?_,?_,hP,u,by rw [e1];exact hu,hU.bulk,hU.ok (by omega) (by omega),_,rfl,?_,?_,_,rfl,?_⟩
  · have:=he.2.2.2
    have h2:(⟨false,0,f⟩:Entry).factor.bulk=f.bulk:=rfl
    simp only [bulkF,sumBulk,List.length_cons,List.length_nil]
    omega
  · intro x hx;simp only [List.mem_singleton] at hx;subst hx;exact he.2.1
  · rw [e1,e2];exact hV.bulk
  · rw [e1,e2];exact hV.ok (by omega) (by omega)
  · rw [e1,e2];exact hX
theorem torn_ok {e:Entry} {p:Int} (h:vldEntry e=true) (hp:inR p 0 65520=true) {k:Nat} (hk:k+1≤(entT e p).size):∀ x∈((entT e p).extract 0 k).data.toList,isB 10 x=false:=by
  obtain ⟨ln,hln⟩:=ent_line h hp
  intro x hx
  rw [ext_list,List.drop_zero,hln.2.2] at hx
  have hl:=bsize (entT e p)
  rw [hln.2.2] at hl
  simp only [List.length_append,List.length_cons,List.length_nil] at hl
  rw [List.take_append_of_le_length (by omega)] at hx
  exact ent_no10 hln x (List.mem_of_mem_take hx)
theorem OwT.rn {w:World} {v:TV} {t:Team} (h:OwT w v t):t.robots.length=v.r.n:=by
  obtain ⟨css,fss,h1,h3⟩:=h.rd.r
  have h4:=h3.lens;have h5:=h1.1
  omega
theorem entT_posR {e:Entry} {p:Int} (h:vldEntry e=true) (hp:inR p 0 65520=true):0 < (entT e p).size:=by
  obtain ⟨ln,hln⟩:=ent_line h hp
  have:=ent_size hln;omega
theorem w_FnRestart (W:World) (A:Option Addr) (n c:Nat) (hm:n≤maxLen) (hy:Bytes W A n) (hT:TabJ W) :
    Calls Tryz.prog 3 #[.slice A n c] W fun e w'=>e=rBool true∧Below W.heap.size W w':=by
  by_cases hn:n≤1048576
  rotate_left
  · have hn':(1048576:Int) < (n:Int):=by omega
    go_enter Tryz.func3,Tryz.ntmps3
    go_wp2
    go_ret
    exact ⟨rfl,Below.refl _ _⟩
  have hn':decide ((1048576:Int) < (n:Int))=false:=by simp;omega
  have hy':=Lib.hid hy
  have HT:=Lib.hid hT
  clear hy hm hT
  go_enter Tryz.func3,Tryz.ntmps3
  go_wp2_with fail
  refine Calls.mono (MakeFactors_c (W:=W) (c:=c) (Below.refl _ _) hy'.out (by omega)) ?_
  rintro e w1 ⟨v,l,rfl,h8,hg,ho,hf,hb1⟩
  have GK:=Lib.hid hg
  have HRD:=Lib.hid ho.rd
  have hlen:l.length=v.n:=ho.rd.len
  have hv8:v.n≤8:=by omega
  clear hg ho hf
  obtain ⟨A0,n0,c0⟩:=v
  dsimp only at hlen hv8 HRD
  have LEN:=Lib.hid hlen
  clear hlen h8
  have hz1:=hb1.size
  go_wp2_with fail
  refine Calls.mono (newTeam2_c _) ?_
  rintro e w2 ⟨vt,rfl,hot,hft,hb2⟩
  have hz2:=hb2.size
  have HOT:=Lib.hid hot
  have HFT:=Lib.hid hft
  have HB1:=Lib.hid hb1
  clear hot hft hb1
  go_wp2_with fail
  go_loopw [26] (fun iv wr=>∃ (k:Nat) (F:List Factor) (t:Team) (v':TV),k≤n0∧iv=.int .i64 (k:Int)∧TI F k (2 * k) 2 t∧FP k F∧OwT wr v' t∧w2.heap.size ∉ fpT v'∧Bx2 wr w2.heap.size (.slice v'.r.A v'.r.n v'.r.c) (.slice v'.c.A v'.c.n v'.c.c)∧Below w1.heap.size w1 wr) (fun iv _=>n0 - (intOf iv).toNat)
  case atStart=>exact ⟨0,[],_,vt,Nat.zero_le _,rfl,TI.start (by omega) (by omega),FP.nil,HOT.out.below (bAlloc (Below.refl _ _) _),fun hm=>by have:=HFT.out.hi _ hm;omega,Bx2.new _ _ _ _,bAlloc hb2 _⟩
  case round =>
    obtain ⟨k,F,t,v',hk,rfl,hti,hfp,hot,hnb,hbx,hbr⟩:=hrel
    have HO:=Lib.hid hot
    have HBR:=Lib.hid hbr
    have hbl:=hbx.lt
    have HX:=Lib.hid hbx
    have zb0:=hbx.c0
    have zb1:=hbx.c1
    have zbf:=hbx.fz
    have hzr:=hbr.size
    clear hot HOT HFT hbx
    by_cases hlt:k < n0
    · have hki:(k:Int) < (n0:Int):=by omega
      obtain ⟨f0,g,off,hx,rfl,g0,g1,g2,g3,g4,g5,g6,g7⟩:=RowF.at_ (Row.below HRD.out hbr) hlt
      have hfk:=(GK.out.2.1 f0 (List.mem_of_getElem? hx)).reid (x:=1000 * ((k:Int) % 2)+k) (by omega) (by omega)
      obtain ⟨fi,fk,ff,ft,⟨pt,px,py⟩,fw⟩:=f0
      dsimp only at g0 g1 g2 g3 g4 g5 g6 g7 hfk
      obtain ⟨q1,q2,q3,q4,q5,u,hu,q6,q7,u2,hu2,q8,q9,u3,hu3,q10⟩:=round_ok (f:=⟨1000 * ((k:Int) % 2)+k,fk,ff,ft,⟨pt,px,py⟩,fw⟩) (by omega) hfp hti hfk rfl
      have wk:(Lit.int .i64 ((k:Int) % 2)).wf=true:=wfz _ (by omega) (by omega)
      have wk2:(Lit.int .i64 (((k:Int)+1) % 2)).wf=true:=wfz _ (by omega) (by omega)
      have hMe:=fun (wx:World) (h:OwT wx v' t) (hT:TabJ wx)=>impl_Measure_k v' t ((k:Int) % 2) ⟨1000 * ((k:Int) % 2)+k,fk,ff,ft,⟨pt,px,py⟩,fw⟩ wx q1 q2 h wk q3 q4 hT
      rw [hu] at hMe
      have hM1:=fun (wx:World) (vx:TV) (h:OwT wx vx u) (hT:TabJ wx)=>impl_MoveTeam_k vx u ((k:Int) % 2) (((k:Int)+1) % 2) 1 0 wx q6 q7 h.rd wk wk2 rfl rfl hT
      rw [hu2] at hM1
      have hM2:=fun (wx:World) (vx:TV) (h:OwT wx vx u2) (hT:TabJ wx)=>impl_MoveTeam_k vx u2 ((k:Int) % 2) (((k:Int)+1) % 2) 2 0 wx q8 q9 h.rd wk wk2 rfl rfl hT
      rw [hu3] at hM2
      have HME:=Lib.hid hMe;have HM1:=Lib.hid hM1;have HM2:=Lib.hid hM2
      have HP:=Lib.hid q5;have HTI:=Lib.hid q10
      have hwr1:IntKind.i64.wrap (1000 * ((k:Int) % 2))=1000 * ((k:Int) % 2):=by rw [IntKind.wrap_i64];omega
      have hwr2:IntKind.i64.wrap (1000 * ((k:Int) % 2)+k)=1000 * ((k:Int) % 2)+k:=by rw [IntKind.wrap_i64];omega
      have hwr3:IntKind.i64.wrap ((k:Int)+1)=(k:Int)+1:=by rw [IntKind.wrap_i64];omega
      clear hfk hx hu hu2 hu3 q1 q2 q3 q4 q5 q6 q7 q8 q9 q10 hMe hM1 hM2 hti hfp
      have hwl:=(bTrans HB1.out HBR.out).size
      have hal:Below wr.heap.size wr (wr.alloc (.cells #[.int .i64 (1000 * ((k:Int) % 2)+k),.int .i64 fk,.string ff,.string ft,.int .i64 pt,.int .i64 px,.int .i64 py,.int .i64 fw] 34)):=bAlloc (Below.refl _ _) _
      go_wp2_with fail
      refine Calls.mono (HME.out _ (HO.out.below hal) (HT.out.below (bTrans (bTrans HB1.out HBR.out) hal))) ?_
      rintro e w3 ⟨v2,rfl,ho2,hf2,hb3⟩
      have H3:=Lib.hid (bTrans hal hb3)
      have HX3:=Lib.hid (HX.out.below H3.out)
      have HO2:=Lib.hid ho2
      have hz3:=H3.out.size
      clear zb0 zb1 zbf ho2 hf2 hb3 g0 g1 g2 g3 g4 g5 g6 g7 hal
      have zb0:=HX3.out.c0
      have zb1:=HX3.out.c1
      have zbf:=HX3.out.fz
      have hal3:Below w3.heap.size w3 (w3.alloc (.cells #[.slice v2.r.A v2.r.n v2.r.c,.slice v2.c.A v2.c.n v2.c.c] 28)):=bAlloc (Below.refl _ _) _
      go_wp2_with fail
      refine Calls.mono (HM1.out _ v2 (HO2.out.below hal3) (HT.out.below (bTrans (bTrans (bTrans HB1.out HBR.out) H3.out) hal3))) ?_
      rintro e w4 ⟨v3,rfl,ho3,hf3,hb4⟩
      have H4:=Lib.hid (bTrans (bTrans H3.out hal3) hb4)
      have HX4:=Lib.hid (HX.out.below H4.out)
      have hnx:w2.heap.size ∉ fpT v3:=fun hm=>by have:=hf3.lo _ hm;have:=hal3.size;omega
      have U4:Upd [w2.heap.size] w4 ((w4.setCell ⟨w2.heap.size,0,none⟩ (.slice v3.r.A v3.r.n v3.r.c)).setCell ⟨w2.heap.size,1,none⟩ (.slice v3.c.A v3.c.n v3.c.c)):=((Upd.refl _ _).set_in (by simp) _).set_in (by simp) _
      have HO3:=Lib.hid (ho3.upd U4 (fun q hq hm=>by simp at hm;subst hm;exact hnx hq))
      have HX5:=Lib.hid ((HX4.out.set0 (.slice v3.r.A v3.r.n v3.r.c)).set1 (.slice v3.c.A v3.c.n v3.c.c))
      have H5:=Lib.hid (bUpd (bTrans HBR.out H4.out) U4 (fun q hq=>by simp at hq;omega))
      have hz4:=H4.out.size
      clear zb0 zb1 zbf ho3 hf3 hb4 hal3
      have zb0:=HX4.out.c0
      have zb1:=HX4.out.c1
      have zbf:=HX4.out.fz
      have U4':=Lib.hid U4
      clear U4
      go_wp2_with fail
      refine Calls.mono (HM2.out _ v3 HO3.out (HT.out.below (bTrans HB1.out H5.out))) ?_
      rintro e w5 ⟨v4,rfl,ho4,hf4,hb5⟩
      have hz5:=U4'.out.size
      have HX6:=Lib.hid (HX5.out.below hb5)
      have hnx4:w2.heap.size ∉ fpT v4:=fun hm=>by have:=hf4.lo _ hm;omega
      have U5:Upd [w2.heap.size] w5 ((w5.setCell ⟨w2.heap.size,0,none⟩ (.slice v4.r.A v4.r.n v4.r.c)).setCell ⟨w2.heap.size,1,none⟩ (.slice v4.c.A v4.c.n v4.c.c)):=((Upd.refl _ _).set_in (by simp) _).set_in (by simp) _
      have HO4:=Lib.hid (ho4.upd U5 (fun q hq hm=>by simp at hm;subst hm;exact hnx4 hq))
      have HX7:=Lib.hid ((HX6.out.set0 (.slice v4.r.A v4.r.n v4.r.c)).set1 (.slice v4.c.A v4.c.n v4.c.c))
      have H6:=Lib.hid (bUpd (bTrans H5.out hb5) U5 (fun q hq=>by simp at hq;omega))
      clear zb0 zb1 zbf ho4 hf4 hb5 U5
      have zb0:=HX6.out.c0
      have zb1:=HX6.out.c1
      have zbf:=HX6.out.fz
      go_wp2_with fail
      exact ⟨⟨k+1,_,u3,v4,by omega,by simp,HTI.out,HP.out,HO4.out,hnx4,HX7.out,H6.out⟩,by simp only [intOf];omega⟩
    · have hkn:k=n0:=by omega
      have hki:¬ (k:Int) < (n0:Int):=by omega
      have HTI:=Lib.hid hti
      have n8:n0≤8:=hv8
      obtain ⟨⟨Ar,nr,cr⟩,⟨Ac,nc,cc⟩,fr_,fc_⟩:=v'
      obtain rfl:nr=2:=by have h1:=HO.out.rn;have h2:=hti.rl;simp only at h1;omega
      dsimp only at zb0 zb1
      have HW:=Lib.hid (bTrans HB1.out HBR.out)
      clear hti hfp hkn
      go_wp2_with fail
      refine Calls.mono (makeNum_c (c:=c) (W:=W) HW.out hy'.out (by omega) 1 (by omega)) ?_
      rintro e w3 ⟨x1,rfl,hx0,hx1,hb3⟩
      have H3:=Lib.hid hb3
      clear hb3
      go_wp2_with fail
      refine Calls.mono (MakeFactor_c (c:=c) (W:=W) (bTrans HW.out H3.out) hy'.out (by omega) 999 (by decide)) ?_
      rintro e w4 ⟨kd,fr,tt,tu,px,py,wt,rfl,hv,hb4⟩
      have H4:=Lib.hid (bTrans H3.out hb4)
      have hsz:=vld_sz hv
      have HV:=Lib.hid (vldE hv)
      clear hb4 hv
      go_wp2_with fail
      refine Calls.mono (impl_FormatEntry_false 0 999 kd fr tt tu px py wt 5 _ (by omega) hsz.1 hsz.2 HV.out (by decide) (HT.out.1.tab.below (bTrans HW.out H4.out))) ?_
      have hL1:=entT_sz (p:=5) HV.out (by decide)
      have hL2:=fun k hk=>torn_ok (p:=5) (k:=k) HV.out (by decide) hk
      have hL3:=ent_ne (e:=⟨false,0,⟨999,kd,fr,tt,⟨tu,px,py⟩,wt⟩⟩) (p:=5)
      have hL4:=entT_posR (p:=5) HV.out (by decide)
      generalize entT ⟨false,0,⟨999,kd,fr,tt,⟨tu,px,py⟩,wt⟩⟩ 5=L at hL1 hL2 hL3 hL4
      rintro e w5 ⟨rfl,hb5⟩
      have H5:=Lib.hid (bTrans H4.out hb5)
      clear hb5
      have hwl:IntKind.i64.wrap ((L.size:Int)+1)=(L.size:Int)+1:=by rw [IntKind.wrap_i64];omega
      have hnz:¬ ((L.size:Int)+1=0):=by omega
      go_wp2_with fail
      refine Calls.mono (makeNum_c (c:=c) (W:=W) (bTrans HW.out H5.out) hy'.out (by omega) 2 (by omega)) ?_
      rintro e w6 ⟨x2,rfl,hy0,hy1,hb6⟩
      have H6:=Lib.hid (bTrans H5.out hb6)
      clear hb6
      have hm0:=Int.emod_nonneg x2 (show ((L.size:Int)+1)≠0 by omega)
      have hm1:=Int.emod_lt_of_pos x2 (show 0 < (L.size:Int)+1 by omega)
      have hwm:IntKind.i64.wrap (x2 % ((L.size:Int)+1) - 1)=x2 % ((L.size:Int)+1) - 1:=by rw [IntKind.wrap_i64];omega
      go_wp2_with fail
      refine Calls.mono (cutJ_c L (x2 % ((L.size:Int)+1) - 1) _ (by omega) (by omega) (by omega)) ?_
      have hT1:(L.extract 0 (x2 % ((L.size:Int)+1) - 1).toNat).size≤400:=by rw [ByteArray.size_extract];omega
      have hN:=hL2 (x2 % ((L.size:Int)+1) - 1).toNat (by omega)
      generalize L.extract 0 (x2 % ((L.size:Int)+1) - 1).toNat=T at hT1 hN
      rintro e w7 ⟨rfl,hb7⟩
      have H7:=Lib.hid (bTrans H6.out hb7)
      have HX7:=Lib.hid (HX.out.below H7.out)
      clear hb7 zb0 zb1 zbf
      have zb0:=HX7.out.c0
      have zb1:=HX7.out.c1
      have hrs:restT t (x1 % 2) T=t:=by
        rw [show x1 % 2=((x1 % 2).toNat:Int) by omega]
        exact HTI.out.torn (by omega) (by omega) hN
      have hRR:=fun wx h1 h2=>impl_RestartRobot_k ⟨⟨Ar,2,cr⟩,⟨Ac,nc,cc⟩,fr_,fc_⟩ t (x1 % 2) T wx HTI.out.bulk (HTI.out.ok (by omega) (by omega)) h1 (wfz _ (by omega) (by omega)) (by omega) h2
      rw [hrs] at hRR
      have HRR:=Lib.hid hRR
      clear hRR
      go_wp2_with fail
      refine Calls.mono (HRR.out _ (HO.out.below H7.out).rd (HT.out.below (bTrans HW.out H7.out))) ?_
      rintro e w8 ⟨⟨⟨Au,nu,cu⟩,⟨Au2,nu2,cu2⟩,fu1,fu2⟩,rfl,hou,hfu,hb8⟩
      obtain rfl:nu=2:=by have h1:=hou.rn;have h2:=HTI.out.rl;simp only at h1;omega
      have H8:=Lib.hid (bTrans H7.out hb8)
      have HX8:=Lib.hid (HX.out.below H8.out)
      have HOU:=Lib.hid hou
      clear hb8 zb0 zb1 hou hfu
      have zb0:=HX8.out.c0
      have zb1:=HX8.out.c1
      have hbl8:=HX8.out.lt
      obtain ⟨j,hj⟩:∃ j:Nat,x1 % 2=(j:Int):=⟨(x1 % 2).toNat,by omega⟩
      have hj2:j < 2:=by omega
      obtain ⟨x,hx,hX⟩:=HTI.out.rob_at hj2
      obtain ⟨gu,vu,hAu,u0,u1,huF,hgu⟩:=HOU.out.rob_at hx
      obtain ⟨gt,vt2,hAt,t0,t1,htF,hgt⟩:=(HO.out.below H8.out).rob_at hx
      dsimp only at hAu hAt
      subst hAu hAt
      have hjr:x.factors.length≤40:=isFL_len hX.fl
      have hvu:vu.n≤4194304:=by have h9:x.factors.length=vu.n:=huF.rd.len;omega
      have hvt:vt2.n≤4194304:=by have h9:x.factors.length=vt2.n:=htF.rd.len;omega
      have HU:=Lib.hid huF.rd;have HTt:=Lib.hid htF.rd
      have TM:=Lib.hid (HTI.out.team (by omega))
      have BK:=Lib.hid (Nat.le_trans HTI.out.bulk (show 1048576≤4194304 by decide))
      have OK:=Lib.hid (HTI.out.ok (by omega) (by omega))
      clear huF htF hX hx hrs
      simp only [hj]
      have hj0:(0:Int)≤(j:Int):=by omega
      have hj1:(j:Int) < 2:=by omega
      go_wp2_with fail
      refine region_at fun R hW=>?_
      have hwb:Below w8.heap.size w8 R:=by rw [hW.out];exact bAlloc (Below.refl _ _) _
      have c0:=cell_regrown (bCell hwb zb0)
      have c1:=cell_regrown (bCell hwb zb1)
      have c2:=cell_regrown (show R.cell? ⟨w8.heap.size,0,none⟩=some (.slice (some ⟨gu,0,none⟩) 2 cu) by rw [hW.out];simp)
      have c3:=cell_regrown (show R.cell? ⟨w8.heap.size,1,none⟩=some (.slice Au2 nu2 cu2) by rw [hW.out];simp)
      have c4:=cell_regrown (bCell hwb u0)
      have c5:=cell_regrown (bCell hwb u1)
      have c6:=cell_regrown (bCell hwb t0)
      have c7:=cell_regrown (bCell hwb t1)
      have cS:∀ d os,Calls Tryz.prog 17 #[.slice vu.A vu.n vu.c,.slice vt2.A vt2.n vt2.c] (Go.Sort.grow (redrawn R d) os) fun e w2=>e=.returned (.bool true)∧∃ p:Regrown,w2=Go.Sort.grow (redrawn R p.d) p.os:=fun d os=>Calls.regrown_of ((impl_SameFactors_c vu.A vt2.A vu.n vt2.n vu.c vt2.c x.factors x.factors _ hvu hvt (Row.below HU.out (bTrans hwb (below_regrown R d os))) (Row.below HTt.out (bTrans hwb (below_regrown R d os)))).mono (fun _ _ h=>⟨h.1.trans (congrArg rBool (sameL_reflR _)),h.2⟩))
      have cT:∀ d os,Calls Tryz.prog 18 #[.agg #[.slice (some ⟨gu,0,none⟩) 2 cu,.slice Au2 nu2 cu2]] (Go.Sort.grow (redrawn R d) os) fun e w2=>e=.returned (.bool true)∧∃ p:Regrown,w2=Go.Sort.grow (redrawn R p.d) p.os:=fun d os=>Calls.regrown_of ((impl_IsTeam_k ⟨⟨some ⟨gu,0,none⟩,2,cu⟩,⟨Au2,nu2,cu2⟩,fu1,fu2⟩ t _ BK.out OK.out (HOU.out.rd.below (bTrans hwb (below_regrown R d os)))).mono (fun _ _ h=>⟨h.1.trans (congrArg rBool TM.out),h.2⟩))
      clear hW zb0 zb1 u0 u1 t0 t1
      refine wp_region_quiet_below (by kernel_rfl) (by kernel_rfl) ?_
      repeat (go_big_quiet_step (first | exact cS _ _ | exact cT _ _))
      refine wpQuiet_nil ?_
      intro _ hw
      obtain ⟨⟨dq,osq⟩,hw⟩:=hw
      subst hw
      have hbq:=bTrans hwb (below_regrown R dq osq)
      clear c0 c1 c2 c3 c4 c5 c6 c7 cS cT
      go_wp2
      go_ret
      exact ⟨rfl,bTrans (bTrans HW.out H8.out) hbq⟩
end Go.Proofs.YtdfemnffpaopfaaGreatDoor

namespace Go.Proofs.YtdfemnffpaopfaaGreatDoor
open Go.ChangeShapes Go.WideShapes Go.ChangeAt Go.RowKit Go.Deep
def gU8 (cs:List Value):Prop:=∃ n:Int,cs=[.int .u8 n]∧(Lit.int .u8 n).wf=true
theorem opens_u8 (w:World):Opens Tryz.prog w 5 gU8:=fun H enc base fuel spare held cs x h=>by
  obtain ⟨n,rfl,_,hw⟩:=DataW.trod_int Tryz.underlying5 h
  exact ⟨n,rfl,hw⟩
theorem cells_u8:Tryz.prog.cellsOf 5=1:=by kernel_rfl
theorem opens_bytes (w:World):Opens Tryz.prog w 22 (gSlice w 1 gU8):=opens_slice Tryz.underlying22 cells_u8 (opens_u8 w) (by omega)
theorem bytes_of {w:World} {cs:List Value} (h:gSlice w 1 gU8 cs):∃ A n c,cs=[.slice A n c]∧n≤maxLen∧Bytes w A n:=by
  obtain ⟨A,n,c,css,rfl,h1,h2,h3,h4⟩:=h
  refine ⟨A,n,c,rfl,by omega,fun i hi=>?_⟩
  have hl:css.length=n:=h3.1
  have hi':i < css.length:=by omega
  obtain ⟨_,x,hx,hw⟩:=h4 css[i] (List.getElem_mem hi')
  obtain ⟨g,off,hA,hc⟩:=h3.2 i css[i] (List.getElem?_eq_getElem hi')
  have hr:0≤x∧x≤255:=by
    simp [Lit.wf,IntKind.min,IntKind.max,IntKind.signed,IntKind.bits] at hw
    omega
  exact ⟨g,off,x,hA,hr.1,hr.2,by have:=hc 0 (.int .u8 x) (by rw [hx];rfl);simpa using this⟩
end Go.Proofs.YtdfemnffpaopfaaGreatDoor

