/- Texts of this proof, one behind the other: TeamF, Add2, Merge, TakeF. -/
import Derived.Test.YtdfemnffpaopfaaGreatDoorGmf6
import Derived.Test.YtdfemnffpaopfaaGreatDoorGmf9
import Derived.Test.YtdfemnffpaopfaaGreatDoorGmf13
namespace Go.Proofs.YtdfemnffpaopfaaGreatDoor
open Go.RowKit
set_option linter.unusedVariables false
set_option linter.unusedSimpArgs false
set_option maxHeartbeats 2000000
set_option maxRecDepth 100000
def teamG (n:Nat):List Robot→List (List Chan)→Bool
  | r :: rs,row :: rows=>isFL r.factors && (decide (row.length=n) && (row.all isChan && teamG n rs rows))
  | _,_=>true
theorem teamG_eq (n:Nat):∀ (rs:List Robot) (rows:List (List Chan)),rows.length=rs.length→teamG n rs rows=((rs.all fun r=>isFL r.factors) && (rows.all fun row=>decide (row.length=n) && row.all isChan))
  | [],[],_=>rfl
  | r :: rs,row :: rows,h=>by
    rw [teamG,teamG_eq n rs rows (by simpa using h)]
    simp only [List.all_cons]
    cases isFL r.factors <;> cases decide (row.length=n) <;> cases row.all isChan <;> simp
theorem isTeam_at {t:Team} {nr nc:Nat} (hr:Hid (t.robots.length=nr)) (hc:Hid (t.channels.length=nc)):Hid (isTeam t=(inR nr 1 3 && (decide (nc=nr) && teamG nr t.robots t.channels))):=by
  have h1:t.robots.length=nr:=hr
  have h2:t.channels.length=nc:=hc
  rw [Hid,isTeam,h1,h2]
  by_cases h:nc=nr
  · rw [teamG_eq nr _ _ (by omega)]
  · simp [h]
def TInv (n:Nat) (rs:List Robot) (rows:List (List Chan)) (k:Nat):Prop:=teamG n rs rows=teamG n (rs.drop k) (rows.drop k)
theorem TInv.step {n k:Nat} {rs:List Robot} {rows:List (List Chan)} {r:Robot} {row:List Chan} (h:TInv n rs rows k) (hr:Hid (rs[k]? = some r)) (hw:Hid (rows[k]? = some row)) :
    teamG n rs rows=(isFL r.factors && (decide (row.length=n) && (row.all isChan && teamG n (rs.drop (k+1)) (rows.drop (k+1))))):=by
  unfold TInv at h;rw [h,drop_at hr,drop_at hw,teamG]
theorem TInv.done {n k m:Nat} {rs:List Robot} {rows:List (List Chan)} (h:TInv n rs rows k) (hl:Hid (rs.length=m)) (hk:¬ k < m):Hid (teamG n rs rows=true):=by
  unfold TInv at h;rw [Hid,h,drop_end hl hk];rfl
def AInv {α:Type} (p:α→Bool) (l:List α) (k:Nat):Prop:=l.all p=(l.drop k).all p
theorem AInv.step {α:Type} {p:α→Bool} {l:List α} {k:Nat} {x:α} (h:AInv p l k) (hx:Hid (l[k]? = some x)):l.all p=(p x && (l.drop (k+1)).all p):=by
  unfold AInv at h;rw [h,drop_at hx,List.all_cons]
theorem AInv.done {α:Type} {p:α→Bool} {l:List α} {k n:Nat} (h:AInv p l k) (hl:Hid (l.length=n)) (hk:¬ k < n):Hid (l.all p=true):=by
  unfold AInv at h;rw [Hid,h,drop_end hl hk];rfl
theorem small_ro {t:Team} (hm:bulkT t≤4194304):∀ r∈t.robots,r.factors.length≤4194304∧smallFs r.factors∧bulkF r.factors≤4194304:=fun r hr=>by
  have h1:=mem_bulk (c:=Robot.bulk) hr
  unfold bulkT at hm
  have h3:r.bulk=bulkF r.factors+r.journal.size:=rfl
  have h2:bulkF r.factors≤4194304:=by omega
  exact ⟨by unfold bulkF at h2;omega,bulkF_small h2,h2⟩
theorem small_ch {t:Team} (hm:bulkT t≤4194304):∀ l∈t.channels,∀ c∈l,fewC c:=fun l hl c hc=>by
  have h1:=mem_bulk (c:=bulkCs) hl
  have h2:=mem_bulk (c:=bulkC) hc
  unfold bulkT at hm
  have h3:bulkCs l=l.length+sumBulk bulkC l:=rfl
  exact fewC_of (by omega)
theorem impl_IsTeam_k (v:TV) (t:Team) (w:World) (hm:bulkT t≤4194304) (hok:okT t) (hr:RdT w v t) :
    Calls Tryz.prog 18 #[vTeam v] w fun e w'=>e=rBool (isTeam t)∧Below w.heap.size w w':=by
  obtain ⟨⟨Ar,nr,cr⟩,⟨Ac,nc,cc⟩,fr,fc⟩:=v
  obtain ⟨r0,r1⟩:=hr
  dsimp only at r0 r1
  have lr:=r0.len
  have lc:=r1.len
  have E:=isTeam_at lr lc
  have SR:=Lib.hid (small_ro hm)
  have SC:=Lib.hid (small_ch hm)
  have OK:=Lib.hid hok
  have NR:=Lib.hid (show nr≤4194304 by have:=lr.out;unfold bulkT at hm;omega)
  clear hm hok
  by_cases hin:1≤nr∧nr≤3
  rotate_left
  · have hi0:Hid (inR (nr:Int) 1 3=false):=by
      rw [Hid,Bool.eq_false_iff];intro h;have:=inR_iff.1 h;omega
    have hfin:Hid (isTeam t=false):=by rw [Hid,E.out,hi0.out,Bool.false_and]
    have NR':=NR.out
    have hd:nr < 1∨3 < nr:=by omega
    clear hin hi0
    rcases hd with hd | hd
    · obtain rfl:nr=0:=by omega
      go_enter Tryz.func18,Tryz.ntmps18
      go_wp2_with fail
      go_ret
      exact ⟨by rw [hfin.out];rfl,bAlloc (Below.refl _ _) _⟩
    · have hd1:¬ (nr:Int) < 1:=by omega
      have hd2:(3:Int) < (nr:Int):=by omega
      go_enter Tryz.func18,Tryz.ntmps18
      go_wp2_with fail
      go_ret
      exact ⟨by rw [hfin.out];rfl,bAlloc (Below.refl _ _) _⟩
  have hi0:Hid (inR (nr:Int) 1 3=true):=inR_iff.2 (by omega)
  obtain ⟨hin1,hin2⟩:=hin
  have NR':=NR.out
  have ni1:¬ (nr:Int) < 1:=by omega
  have ni2:¬ (3:Int) < (nr:Int):=by omega
  by_cases hcn:nc=nr
  rotate_left
  · have hfin:Hid (isTeam t=false):=by rw [Hid,E.out];simp [hcn]
    have hcI:¬ (nc:Int)=(nr:Int):=by omega
    go_enter Tryz.func18,Tryz.ntmps18
    go_wp2_with fail
    all_goals first
      | (exfalso;omega)
      | (go_ret;exact ⟨by rw [hfin.out];rfl,bAlloc (Below.refl _ _) _⟩)
  subst hcn
  have E2:Hid (isTeam t=teamG nc t.robots t.channels):=by rw [Hid,E.out,hi0.out];simp
  clear E
  go_enter Tryz.func18,Tryz.ntmps18
  go_wp2_with fail
  go_loopw [27,4] (fun i j wr=>∃ (k:Nat),k≤nc∧i=.int .i64 k∧TInv nc t.robots t.channels k∧Below w.heap.size w wr∧wr.cell? ⟨w.heap.size,0,none⟩=some (.slice Ar nc cr)∧wr.cell? ⟨w.heap.size,1,none⟩=some (.slice Ac nc cc)) (fun i _ _=>nc - (intOf i).toNat)
  case atStart=>exact ⟨0,by omega,rfl,rfl,bAlloc (Below.refl _ _) _,by simp,by simp⟩
  case round =>
    obtain ⟨k,hk,rfl,hi,hb,t0,t1⟩:=hrel
    obtain ⟨wo,rfl⟩:∃ wo:World,wo=wr:=⟨_,rfl⟩
    have hz:=cell_lt t0
    dsimp only at hz
    by_cases hlt:k < nc
    · obtain ⟨x,cs,g,off,hx,rfl,hR,hc⟩:=RdSl.at_ (RdSl.below (R:=RdRo) RdRo.below r0 hb) hlt
      obtain ⟨vx,rfl,hRd,hLn⟩:=hR
      have g0:wo.cell? ⟨g,off+k * 2,none⟩=some (.slice vx.A vx.n vx.c):=hc 0 _ rfl
      have g1:wo.cell? ⟨g,off+k * 2+1,none⟩=some (.string x.journal):=hc 1 _ rfl
      obtain ⟨row,cs2,gc,offc,hrow,rfl,hR2,hc2⟩:=RdSl.at_ (RdSl.below (R:=RdCs) RdCs.below r1 hb) hlt
      obtain ⟨vr,rfl,hRdr,hLnr⟩:=hR2
      have k0:wo.cell? ⟨gc,offc+k,none⟩=some (.slice vr.A vr.n vr.c):=by simpa using hc2 0 _ rfl
      clear hc hc2
      have hst:=hi.step hx hrow
      have lrow:=hRdr.len
      rw [lrow.out] at hst
      obtain ⟨hs1,hs2,_⟩:=SR.out x (List.mem_of_getElem? hx.out)
      have hs3:vx.n≤4194304:=by have:=hRd.len.out;omega
      have hs4:vr.n≤9223372036854775807:=hLnr
      have HS4:=Lib.hid hs4
      have HC:=Lib.hid (SC.out row (List.mem_of_getElem? hrow.out))
      have HO:=Lib.hid (OK.out.2 row (List.mem_of_getElem? hrow.out))
      have z0:(0:Int)≤(k:Int):=by omega
      have z1:(k:Int) < (nc:Int):=by omega
      generalize hv:isFL x.factors=bf at hst
      generalize ha:row.all isChan=ba at hst
      have HV:=Lib.hid hv
      have HA:=Lib.hid ha
      have HS:=Lib.hid hst
      have HS2:=Lib.hid hs2
      clear hv ha hst hi hs1 hs2 hLnr hs4
      cases bf
      · have hfin:Hid (isTeam t=false):=by rw [Hid,E2.out,HS.out,Bool.false_and]
        go_wp2_with fail
        refine Calls.mono (impl_IsFactorList_c vx.A vx.n vx.c x.factors _ hs3 ?_ HS2.out) ?_
        · exact RdF.below hRd (bAlloc (Below.refl _ _) _)
        rintro e w1 ⟨he,hb1⟩
        rw [HV.out] at he
        subst he
        have hbq:=bTrans (bAlloc (Below.refl wo.heap.size wo) _) hb1
        have t0q:=bCell hbq t0
        have t1q:=bCell hbq t1
        have k0q:=bCell hbq k0
        go_wp2_with fail
        go_ret
        exact ⟨by rw [hfin.out];rfl,bTrans hb hbq⟩
      by_cases hrn:vr.n=nc
      rotate_left
      · have hfin:Hid (isTeam t=false):=by rw [Hid,E2.out,HS.out];simp [hrn]
        go_wp2_with fail
        refine Calls.mono (impl_IsFactorList_c vx.A vx.n vx.c x.factors _ hs3 ?_ HS2.out) ?_
        · exact RdF.below hRd (bAlloc (Below.refl _ _) _)
        rintro e w1 ⟨he,hb1⟩
        rw [HV.out] at he
        subst he
        have hbq:=bTrans (bAlloc (Below.refl wo.heap.size wo) _) hb1
        have t0q:=bCell hbq t0
        have t1q:=bCell hbq t1
        have k0q:=bCell hbq k0
        go_wp2_with fail
        all_goals first
          | (exfalso;omega)
          | (go_ret;exact ⟨by rw [hfin.out];rfl,bTrans hb hbq⟩)
      have hrnI:(vr.n:Int)=(nc:Int):=by omega
      go_wp2_with fail
      refine Calls.mono (impl_IsFactorList_c vx.A vx.n vx.c x.factors _ hs3 ?_ HS2.out) ?_
      · exact RdF.below hRd (bAlloc (Below.refl _ _) _)
      rintro e w1 ⟨he,hb1⟩
      rw [HV.out] at he
      subst he
      have hbq:=bTrans (bAlloc (Below.refl wo.heap.size wo) _) hb1
      have t0q:=bCell hbq t0
      have t1q:=bCell hbq t1
      have k0q:=bCell hbq k0
      obtain ⟨wq,hwq⟩:∃ wq:World,w1=wq:=⟨_,rfl⟩
      rw [hwq] at hbq t0q t1q k0q ⊢
      have HW:=Lib.hid hwq
      clear hwq
      go_wp2_with fail
      go_loopw [52] (fun i ww=>∃ (j:Nat),j≤vr.n∧i=.int .i64 j∧AInv isChan row j∧Below wq.heap.size wq ww) (fun i _=>vr.n - (intOf i).toNat)
      case atStart=>exact ⟨0,by omega,rfl,rfl,Below.refl _ _⟩
      case round =>
        obtain ⟨j,hj,rfl,hai,hb2⟩:=hrel
        have HB2:=bTrans hbq hb2
        by_cases hjl:j < vr.n
        · obtain ⟨ch,cs3,g3,off3,hch,hA3,hR3,hc3⟩:=RdSl.at_ (RdSl.below (R:=RdCe) RdCe.below hRdr HB2) hjl
          obtain ⟨vc,rfl,hRdc,hLnc⟩:=hR3
          have q0:wr.cell? ⟨g3,off3+j * 6,none⟩=some (.slice vc.q.A vc.q.n vc.q.c):=hc3 0 _ rfl
          have q1:wr.cell? ⟨g3,off3+j * 6+1,none⟩=some (.int .i64 ch.base):=hc3 1 _ rfl
          have q2:wr.cell? ⟨g3,off3+j * 6+2,none⟩=some (.int .i64 ch.expected):=hc3 2 _ rfl
          have q3:wr.cell? ⟨g3,off3+j * 6+3,none⟩=some (.slice vc.i.A vc.i.n vc.i.c):=hc3 3 _ rfl
          have q4:wr.cell? ⟨g3,off3+j * 6+4,none⟩=some (.slice vc.n.A vc.n.n vc.n.c):=hc3 4 _ rfl
          have q5:wr.cell? ⟨g3,off3+j * 6+5,none⟩=some (.slice vc.a.A vc.a.n vc.a.c):=hc3 5 _ rfl
          clear hc3
          rw [hA3]
          have hst:=hai.step hch
          have hwb:=(HO.out ch (List.mem_of_getElem? hch.out)).2.2.2.2.1
          have hfwc:=HC.out ch (List.mem_of_getElem? hch.out)
          generalize hbc:isChan ch=bc at hst
          have HBC:=Lib.hid hbc
          have HST:=Lib.hid hst
          have HWB:=Lib.hid hwb
          have HFW:=Lib.hid hfwc
          clear hst hai hbc hwb hfwc
          have y0:(0:Int)≤(j:Int):=by omega
          have y1:(j:Int) < (vr.n:Int):=by omega
          go_wp2_with fail
          have hwb:=HWB.out
          have hfwc:=HFW.out
          refine Calls.mono (impl_IsChannel_c vc ch _ hwb ?_) ?_
          · exact hRdc.below (bAlloc (Below.refl _ _) _)
          rintro e w5 ⟨he,hb5⟩
          rw [HBC.out] at he
          subst he
          clear hwb hfwc
          have HB5:=bTrans (bAlloc hb2 _) hb5
          cases bc
          · have hfin:Hid (isTeam t=false):=by
              have h1:ba=false:=by rw [← HA.out,HST.out,Bool.false_and]
              rw [Hid,E2.out,HS.out,h1];simp
            go_wp2_with fail
            go_ret
            exact ⟨by rw [hfin.out];rfl,bTrans (bTrans hb hbq) HB5⟩
          · have hnx:AInv isChan row (j+1):=by rw [AInv,HST.out,Bool.true_and]
            go_wp2_with fail
            go_roundw
            case rel=>exact ⟨j+1,by omega,by go_num,hnx,HB5⟩
            case measure=>simp [intOf];omega
        · have hba:Hid (ba=true):=by have:=hai.done lrow hjl;rw [Hid,← HA.out];exact this.out
          have hnx:TInv nc t.robots t.channels (k+1):=by rw [TInv,HS.out,hba.out];simp [hrn]
          have t0r:=bCell hb2 t0q
          have t1r:=bCell hb2 t1q
          go_wp2_with fail
          go_roundw
          case rel=>exact ⟨k+1,by omega,by go_num,hnx,bTrans (bTrans hb hbq) hb2,t0r,t1r⟩
          case measure=>simp [intOf];omega
    · have hfin:=hi.done lr hlt
      go_wp2_with fail
      go_ret
      exact ⟨by rw [E2.out,hfin.out];rfl,hb⟩
theorem spec_IsTeam_k (v:TV) (t:Team) (w:World) (hm:bulkT t≤4194304) (hok:okT t) (hr:RdT w v t) :
    Calls Tryz.prog 56 #[vTeam v] w fun e w'=>e=rBool (isTeam t)∧Below w.heap.size w w':=by
  obtain ⟨⟨Ar,nr,cr⟩,⟨Ac,nc,cc⟩,fr,fc⟩:=v
  obtain ⟨r0,r1⟩:=hr
  dsimp only at r0 r1
  have lr:=r0.len
  have lc:=r1.len
  have E:=isTeam_at lr lc
  have SR:=Lib.hid (small_ro hm)
  have SC:=Lib.hid (small_ch hm)
  have OK:=Lib.hid hok
  have NR:=Lib.hid (show nr≤4194304 by have:=lr.out;unfold bulkT at hm;omega)
  clear hm hok
  by_cases hin:1≤nr∧nr≤3
  rotate_left
  · have hi0:Hid (inR (nr:Int) 1 3=false):=by
      rw [Hid,Bool.eq_false_iff];intro h;have:=inR_iff.1 h;omega
    have hfin:Hid (isTeam t=false):=by rw [Hid,E.out,hi0.out,Bool.false_and]
    have NR':=NR.out
    go_enter Tryz.func56,Tryz.ntmps56
    go_wp2_with (go_at_call 105;refine (l01In_c _ _ _ _).mono ?_;rw [hi0.out];rintro e w2 ⟨rfl,rfl⟩)
    go_ret
    exact ⟨by rw [hfin.out];rfl,bAlloc (Below.refl _ _) _⟩
  have hi0:Hid (inR (nr:Int) 1 3=true):=inR_iff.2 (by omega)
  obtain ⟨hin1,hin2⟩:=hin
  have NR':=NR.out
  have ni1:¬ (nr:Int) < 1:=by omega
  have ni2:¬ (3:Int) < (nr:Int):=by omega
  by_cases hcn:nc=nr
  rotate_left
  · have hfin:Hid (isTeam t=false):=by rw [Hid,E.out];simp [hcn]
    have hcI:¬ (nc:Int)=(nr:Int):=by omega
    go_enter Tryz.func56,Tryz.ntmps56
    go_wp2_with (go_at_call 105;refine (l01In_c _ _ _ _).mono ?_;rw [hi0.out];rintro e w2 ⟨rfl,rfl⟩)
    all_goals first
      | (exfalso;omega)
      | (go_ret;exact ⟨by rw [hfin.out];rfl,bAlloc (Below.refl _ _) _⟩)
  subst hcn
  have E2:Hid (isTeam t=teamG nc t.robots t.channels):=by rw [Hid,E.out,hi0.out];simp
  clear E
  go_enter Tryz.func56,Tryz.ntmps56
  go_wp2_with (go_at_call 105;refine (l01In_c _ _ _ _).mono ?_;rw [hi0.out];rintro e w2 ⟨rfl,rfl⟩)
  go_loopw [24,3] (fun i j wr=>∃ (k:Nat),k≤nc∧i=.int .i64 k∧TInv nc t.robots t.channels k∧Below w.heap.size w wr∧wr.cell? ⟨w.heap.size,0,none⟩=some (.slice Ar nc cr)∧wr.cell? ⟨w.heap.size,1,none⟩=some (.slice Ac nc cc)) (fun i _ _=>nc - (intOf i).toNat)
  case atStart=>exact ⟨0,by omega,rfl,rfl,bAlloc (Below.refl _ _) _,by simp,by simp⟩
  case round =>
    obtain ⟨k,hk,rfl,hi,hb,t0,t1⟩:=hrel
    obtain ⟨wo,rfl⟩:∃ wo:World,wo=wr:=⟨_,rfl⟩
    have hz:=cell_lt t0
    dsimp only at hz
    by_cases hlt:k < nc
    · obtain ⟨x,cs,g,off,hx,rfl,hR,hc⟩:=RdSl.at_ (RdSl.below (R:=RdRo) RdRo.below r0 hb) hlt
      obtain ⟨vx,rfl,hRd,hLn⟩:=hR
      have g0:wo.cell? ⟨g,off+k * 2,none⟩=some (.slice vx.A vx.n vx.c):=hc 0 _ rfl
      have g1:wo.cell? ⟨g,off+k * 2+1,none⟩=some (.string x.journal):=hc 1 _ rfl
      obtain ⟨row,cs2,gc,offc,hrow,rfl,hR2,hc2⟩:=RdSl.at_ (RdSl.below (R:=RdCs) RdCs.below r1 hb) hlt
      obtain ⟨vr,rfl,hRdr,hLnr⟩:=hR2
      have k0:wo.cell? ⟨gc,offc+k,none⟩=some (.slice vr.A vr.n vr.c):=by simpa using hc2 0 _ rfl
      clear hc hc2
      have hst:=hi.step hx hrow
      have lrow:=hRdr.len
      rw [lrow.out] at hst
      obtain ⟨hs1,hs2,_⟩:=SR.out x (List.mem_of_getElem? hx.out)
      have hs3:vx.n≤4194304:=by have:=hRd.len.out;omega
      have hs4:vr.n≤9223372036854775807:=hLnr
      have HS4:=Lib.hid hs4
      have HC:=Lib.hid (SC.out row (List.mem_of_getElem? hrow.out))
      have HO:=Lib.hid (OK.out.2 row (List.mem_of_getElem? hrow.out))
      have z0:(0:Int)≤(k:Int):=by omega
      have z1:(k:Int) < (nc:Int):=by omega
      generalize hv:isFL x.factors=bf at hst
      generalize ha:row.all isChan=ba at hst
      have HV:=Lib.hid hv
      have HA:=Lib.hid ha
      have HS:=Lib.hid hst
      have HS2:=Lib.hid hs2
      clear hv ha hst hi hs1 hs2 hLnr hs4
      cases bf
      · have hfin:Hid (isTeam t=false):=by rw [Hid,E2.out,HS.out,Bool.false_and]
        go_wp2_with fail
        refine region_at fun W hW=>?_
        have hwb:Below wo.heap.size wo W:=by rw [hW.out];exact bAlloc (Below.refl _ _) _
        have c0:=cell_regrown (show W.cell? ⟨wo.heap.size,0,none⟩=some (.slice vx.A vx.n vx.c) by rw [hW.out];simp)
        have cV:∀ d os,Calls Tryz.prog 106 #[.slice vx.A vx.n vx.c] (Go.Sort.grow (redrawn W d) os) fun e w2=>e=.returned (.bool false)∧∃ p:Regrown,w2=Go.Sort.grow (redrawn W p.d) p.os:=fun d os=>Calls.regrown_of ((spec_IsFactorList_c vx.A vx.n vx.c x.factors _ hs3 (hRd.below (bTrans hwb (below_regrown W d os))) HS2.out).mono (fun _ _ h=>⟨h.1.trans (congrArg rBool HV.out),h.2⟩))
        have e0:=cell_regrown (bCell hwb t0)
        have e1:=cell_regrown (bCell hwb t1)
        have e2:=cell_regrown (bCell hwb k0)
        clear hW
        refine wp_region_quiet_below (by kernel_rfl) (by kernel_rfl) ?_
        repeat (go_big_quiet_step (first | exact cV _ _))
        refine wpQuiet_nil ?_
        intro _ hw
        obtain ⟨⟨dq,osq⟩,hw⟩:=hw
        subst hw
        have hbq:=bTrans hwb (below_regrown W dq osq)
        clear c0 cV e0 e1 e2
        go_wp2_with fail
        go_ret
        exact ⟨by rw [hfin.out];rfl,bTrans hb hbq⟩
      by_cases hrn:vr.n=nc
      rotate_left
      · have hfin:Hid (isTeam t=false):=by rw [Hid,E2.out,HS.out];simp [hrn]
        go_wp2_with fail
        refine region_at fun W hW=>?_
        have hwb:Below wo.heap.size wo W:=by rw [hW.out];exact bAlloc (Below.refl _ _) _
        have c0:=cell_regrown (show W.cell? ⟨wo.heap.size,0,none⟩=some (.slice vx.A vx.n vx.c) by rw [hW.out];simp)
        have cV:∀ d os,Calls Tryz.prog 106 #[.slice vx.A vx.n vx.c] (Go.Sort.grow (redrawn W d) os) fun e w2=>e=.returned (.bool true)∧∃ p:Regrown,w2=Go.Sort.grow (redrawn W p.d) p.os:=fun d os=>Calls.regrown_of ((spec_IsFactorList_c vx.A vx.n vx.c x.factors _ hs3 (hRd.below (bTrans hwb (below_regrown W d os))) HS2.out).mono (fun _ _ h=>⟨h.1.trans (congrArg rBool HV.out),h.2⟩))
        have e0:=cell_regrown (bCell hwb t0)
        have e1:=cell_regrown (bCell hwb t1)
        have e2:=cell_regrown (bCell hwb k0)
        clear hW
        refine wp_region_quiet_below (by kernel_rfl) (by kernel_rfl) ?_
        repeat (go_big_quiet_step (first | exact cV _ _))
        refine wpQuiet_nil ?_
        intro _ hw
        obtain ⟨⟨dq,osq⟩,hw⟩:=hw
        subst hw
        have hbq:=bTrans hwb (below_regrown W dq osq)
        clear c0 cV e0 e1 e2
        go_wp2_with fail
        go_ret
        exact ⟨by rw [hfin.out];rfl,bTrans hb hbq⟩
      have hrnI:(vr.n:Int)=(nc:Int):=by omega
      go_wp2_with fail
      refine region_at fun W hW=>?_
      have hwb:Below wo.heap.size wo W:=by rw [hW.out];exact bAlloc (Below.refl _ _) _
      have c0:=cell_regrown (show W.cell? ⟨wo.heap.size,0,none⟩=some (.slice vx.A vx.n vx.c) by rw [hW.out];simp)
      have cV:∀ d os,Calls Tryz.prog 106 #[.slice vx.A vx.n vx.c] (Go.Sort.grow (redrawn W d) os) fun e w2=>e=.returned (.bool true)∧∃ p:Regrown,w2=Go.Sort.grow (redrawn W p.d) p.os:=fun d os=>Calls.regrown_of ((spec_IsFactorList_c vx.A vx.n vx.c x.factors _ hs3 (hRd.below (bTrans hwb (below_regrown W d os))) HS2.out).mono (fun _ _ h=>⟨h.1.trans (congrArg rBool HV.out),h.2⟩))
      have e0:=cell_regrown (bCell hwb t0)
      have e1:=cell_regrown (bCell hwb t1)
      have e2:=cell_regrown (bCell hwb k0)
      clear hW
      refine wp_region_quiet_below (by kernel_rfl) (by kernel_rfl) ?_
      repeat (go_big_quiet_step (first | exact cV _ _))
      refine wpQuiet_nil ?_
      intro _ hw
      obtain ⟨⟨dq,osq⟩,hw⟩:=hw
      subst hw
      have hbq:=bTrans hwb (below_regrown W dq osq)
      clear c0 cV e0 e1 e2
      have t0q:=bCell hbq t0
      have t1q:=bCell hbq t1
      have k0q:=bCell hbq k0
      obtain ⟨wq,hwq⟩:∃ wq:World,(Go.Sort.grow (redrawn W dq) osq)=wq:=⟨_,rfl⟩
      rw [hwq] at hbq t0q t1q k0q ⊢
      have HW:=Lib.hid hwq
      clear hwq
      go_wp2_with fail
      go_loopw [51] (fun i ww=>∃ (j:Nat),j≤vr.n∧i=.int .i64 j∧AInv isChan row j∧Below wq.heap.size wq ww) (fun i _=>vr.n - (intOf i).toNat)
      case atStart=>exact ⟨0,by omega,rfl,rfl,Below.refl _ _⟩
      case round =>
        obtain ⟨j,hj,rfl,hai,hb2⟩:=hrel
        have HB2:=bTrans hbq hb2
        by_cases hjl:j < vr.n
        · obtain ⟨ch,cs3,g3,off3,hch,hA3,hR3,hc3⟩:=RdSl.at_ (RdSl.below (R:=RdCe) RdCe.below hRdr HB2) hjl
          obtain ⟨vc,rfl,hRdc,hLnc⟩:=hR3
          have q0:wr.cell? ⟨g3,off3+j * 6,none⟩=some (.slice vc.q.A vc.q.n vc.q.c):=hc3 0 _ rfl
          have q1:wr.cell? ⟨g3,off3+j * 6+1,none⟩=some (.int .i64 ch.base):=hc3 1 _ rfl
          have q2:wr.cell? ⟨g3,off3+j * 6+2,none⟩=some (.int .i64 ch.expected):=hc3 2 _ rfl
          have q3:wr.cell? ⟨g3,off3+j * 6+3,none⟩=some (.slice vc.i.A vc.i.n vc.i.c):=hc3 3 _ rfl
          have q4:wr.cell? ⟨g3,off3+j * 6+4,none⟩=some (.slice vc.n.A vc.n.n vc.n.c):=hc3 4 _ rfl
          have q5:wr.cell? ⟨g3,off3+j * 6+5,none⟩=some (.slice vc.a.A vc.a.n vc.a.c):=hc3 5 _ rfl
          clear hc3
          rw [hA3]
          have hst:=hai.step hch
          have hwb:=(HO.out ch (List.mem_of_getElem? hch.out)).2.2.2.2.1
          have hfwc:=HC.out ch (List.mem_of_getElem? hch.out)
          generalize hbc:isChan ch=bc at hst
          have HBC:=Lib.hid hbc
          have HST:=Lib.hid hst
          have HWB:=Lib.hid hwb
          have HFW:=Lib.hid hfwc
          clear hst hai hbc hwb hfwc
          have y0:(0:Int)≤(j:Int):=by omega
          have y1:(j:Int) < (vr.n:Int):=by omega
          go_wp2_with fail
          have hwb:=HWB.out
          have hfwc:=HFW.out
          refine Calls.mono (spec_IsChannel_c vc ch _ (by have:=hRdc.q.len.out;have:=hfwc.1;omega) ?_) ?_
          · exact hRdc.below (bAlloc (Below.refl _ _) _)
          rintro e w5 ⟨he,hb5⟩
          rw [HBC.out] at he
          subst he
          clear hwb hfwc
          have HB5:=bTrans (bAlloc hb2 _) hb5
          cases bc
          · have hfin:Hid (isTeam t=false):=by
              have h1:ba=false:=by rw [← HA.out,HST.out,Bool.false_and]
              rw [Hid,E2.out,HS.out,h1];simp
            go_wp2_with fail
            go_ret
            exact ⟨by rw [hfin.out];rfl,bTrans (bTrans hb hbq) HB5⟩
          · have hnx:AInv isChan row (j+1):=by rw [AInv,HST.out,Bool.true_and]
            go_wp2_with fail
            go_roundw
            case rel=>exact ⟨j+1,by omega,by go_num,hnx,HB5⟩
            case measure=>simp [intOf];omega
        · have hba:Hid (ba=true):=by have:=hai.done lrow hjl;rw [Hid,← HA.out];exact this.out
          have hnx:TInv nc t.robots t.channels (k+1):=by rw [TInv,HS.out,hba.out];simp [hrn]
          have t0r:=bCell hb2 t0q
          have t1r:=bCell hb2 t1q
          go_wp2_with fail
          go_roundw
          case rel=>exact ⟨k+1,by omega,by go_num,hnx,bTrans (bTrans hb hbq) hb2,t0r,t1r⟩
          case measure=>simp [intOf];omega
    · have hfin:=hi.done lr hlt
      go_wp2_with fail
      go_ret
      exact ⟨by rw [E2.out,hfin.out];rfl,hb⟩
theorem isTeam_pos {t:Team} (h:isTeam t=true):1≤t.robots.length∧t.robots.length≤3:=by
  unfold isTeam at h
  simp only [Bool.and_eq_true] at h
  have:=inR_iff.1 h.1
  omega
theorem made_any (w:World) (B e sz:Nat) {a:Nat} (h:a=w.heap.size) (hB:B≤w.heap.size):Own (w.alloc (.cells #[] e)) B e sz (some ⟨a,0,none⟩) 0 0 []:=by subst h;exact Own.made0 w e sz hB
theorem same_kept {wr X w3 w4 w5:World} {B e sz n c:Nat} {A:Option Addr} {css:List (List Value)} {r1 r2 r3:Option Nat} {o:Obj} (h:Own wr B e sz A n c css) (hx:Below wr.heap.size wr X)
    (g1:X.grownBy w3 r1) (g2:(w3.alloc o).grownBy w4 r2) (g3:w4.grownBy w5 r3) (h1:∀ q,r1=some q→wr.heap.size≤q) (h2:∀ q,r2=some q→wr.heap.size≤q) (h3:∀ q,r3=some q→wr.heap.size≤q):Own w5 B e sz A n c css:=by
  have hb:Below wr.heap.size wr w5:=bGrown (bGrown (bAlloc (bGrown hx g1 h1) _) g2 h2) g3 h3
  exact h.below hb
theorem spec_AddFactor_k (v:Sv) (l:List Factor) (f:Factor) (w:World) (hm:fewF l) (hs:smallFs l) (hfs:f.frm.size≤4194304∧f.to.size≤4194304) (hsl:SlOk v) (hr:RdF w v l) :
    Calls Tryz.prog 69 #[.slice v.A v.n v.c,vFactor f.id f.kind f.frm f.to f.pose.turn f.pose.x f.pose.y f.weight] w fun e w'=>∃ v':Sv,e=.returned (.tuple #[.slice v'.A v'.n v'.c,.bool (addF l f).2])∧FPost w v' (addF l f).1 w':=by
  obtain ⟨A,n,c⟩:=v
  have hnc:=hsl.nc
  dsimp only [SlOk] at hnc hsl ⊢
  obtain ⟨hnc1,hnc2⟩:=hnc
  have hl:=hr.len
  have hm1:n≤4194304:=by have:=hl.out;unfold fewF at hm;simp only at this;omega
  obtain ⟨i0,hii,hq0,hq1,hq2⟩:=info_parts info_Factor
  generalize hb1:isFL l=b1
  have HB1:=Lib.hid hb1
  clear hb1
  go_enter Tryz.func69,Tryz.ntmps69
  go_wp2_with (at_builtin;refine wpList_append rfl (.tmp 9) (.tmp 10) 23 rfl w.heap.size 34 8 80 i0 _ Tryz.underlying23 hii hq0 hq1 hq2 rfl (by omega) _ 0 0 [] rfl (made_any _ _ _ _ (by simp) (by simp)) A n c (l.map Factor.cells) rfl (Row.below hr (bAlloc (bAlloc (Below.refl _ _) _) _)) one_F cell_F (by simp only [maxLen];omega) (by omega) (by simp;try omega) ?_;intro A1 c1 w1 ho1 hg1 hat1;have k1:=gBox hg1 w.heap.size (by simp;try omega) (fun q hq e=>by simp [ob] at hq;omega);have z1:w.heap.size+1≤w1.heap.size:=(by have h9:=hg1.size;simp at h9;omega))
  simp only [Nat.zero_add,List.nil_append] at ho1
  have H1:=bGrown (bAlloc (bAlloc (Below.refl w.heap.size w) _) _) hg1 (fun q hq=>by simp [ob] at hq;omega)
  go_wp2_with fail
  refine Calls.mono (spec_IsFactorList_c A n c l _ hm1 (Row.below hr H1) hs) ?_
  rintro e w2 ⟨rfl,hk2⟩
  rw [HB1.out]
  have H:=bTrans H1 hk2
  have ho1:=ho1.below hk2
  have k2:=bBox hk2 w.heap.size (by omega)
  have z2:w.heap.size+1≤w2.heap.size:=by have:=hk2.size;omega
  cases b1
  · have E:=Lib.hid (addF_no (f:=f) HB1.out)
    go_wp2_with fail
    go_ret2
    rw [E.out]
    exact ⟨⟨A1,_,c1⟩,rfl,ho1.zero,Fresh.obl_ ho1,H⟩
  go_wp2_with fail
  go_loopw [7] (fun i wr=>∃ (k:Nat),k≤n∧i=.int .i64 k∧InsInv l f k∧Below w2.heap.size w2 wr) (fun i _=>n - (intOf i).toNat)
  case atStart=>exact ⟨0,by omega,rfl,InsInv.start l f,Below.refl _ _⟩
  case round =>
    obtain ⟨k,hk,rfl,hi,hbr⟩:=hrel
    have kr:=bBox hbr w.heap.size (by omega)
    have zr:w.heap.size+1≤wr.heap.size:=by have:=hbr.size;omega
    have Hr:=bTrans H hbr
    have ho1:=ho1.below hbr
    by_cases hlt:k < n
    · obtain ⟨p,g,off,hf,rfl,g0,-⟩:=RowF.at_ (Row.below hr Hr) hlt
      have h0:(0:Int)≤(k:Int):=by omega
      have h1:(k:Int) < (n:Int):=by omega
      by_cases hid:p.id < f.id
      · have hnx:=hi.step hf hid
        clear hi
        go_wp2_with fail
        go_quiet (fail)
        go_wp2_with fail
        go_roundw
        case rel=>exact ⟨k+1,by omega,by go_num,hnx,bDrewN hbr _⟩
        case measure=>simp [intOf];omega
      · have hat:=hi.stop hf hid
        clear hi
        go_wp2_with fail
        go_quiet (fail)
        have gb0:wr.cell? ⟨w.heap.size,0,none⟩=some (.int .i64 f.id):=by rw [kr,k2,k1];simp
        have gb1:wr.cell? ⟨w.heap.size,1,none⟩=some (.int .i64 f.kind):=by rw [kr,k2,k1];simp
        have gb2:wr.cell? ⟨w.heap.size,2,none⟩=some (.string f.frm):=by rw [kr,k2,k1];simp
        have gb3:wr.cell? ⟨w.heap.size,3,none⟩=some (.string f.to):=by rw [kr,k2,k1];simp
        have gb4:wr.cell? ⟨w.heap.size,4,none⟩=some (.int .i64 f.pose.turn):=by rw [kr,k2,k1];simp
        have gb5:wr.cell? ⟨w.heap.size,5,none⟩=some (.int .i64 f.pose.x):=by rw [kr,k2,k1];simp
        have gb6:wr.cell? ⟨w.heap.size,6,none⟩=some (.int .i64 f.pose.y):=by rw [kr,k2,k1];simp
        have gb7:wr.cell? ⟨w.heap.size,7,none⟩=some (.int .i64 f.weight):=by rw [kr,k2,k1];simp
        clear kr k2 k1
        have hkc:(k:Int)≤(c:Int):=by omega
        have hk00:(0:Int)≤(k:Int):=by omega
        have hrk:RdF wr ⟨some ⟨g,off,none⟩,k,c⟩ (l.take k):=Row.take_ (Row.below hr Hr) (by omega)
        have L40:=isFL_len HB1.out
        have L9:l.length=n:=hl.out
        go_wp2_with (first | (at_builtin;(refine wpList_append rfl (.tmp 32) (.tmp 35) 23 rfl wr.heap.size 34 8 80 i0 _ Tryz.underlying23 hii hq0 hq1 hq2 rfl (by omega) (some ⟨wr.heap.size,0,none⟩) 0 0 [] rfl (made_any _ _ _ _ (by simp) (by simp)) (some ⟨g,off,none⟩) k c ((l.take k).map Factor.cells) rfl (Row.below hrk (by repeat (first | with_reducible exact Below.refl _ _ | with_reducible refine bAlloc ?_ _ | with_reducible refine bDrew ?_ | with_reducible refine bDrewN ?_ _))) one_F cell_F (by simp only [maxLen];omega) (by omega) (by simp) ?_;intro A2 c2 w3 ho2 hg2 hat2;simp only [Nat.zero_add,List.nil_append] at ho2 ⊢;have kb:=gBox hg2 w.heap.size (by first | omega | (simp;omega)) (fun q hq e=>by simp [ob] at hq;omega);have z3:w.heap.size+1≤w3.heap.size:=(by have h9:=hg2.size;simp at h9;omega);have gc0:w3.cell? ⟨w.heap.size,0,none⟩=some (.int .i64 f.id):=(kb 0).trans (bCell (by repeat (first | with_reducible exact Below.refl _ _ | with_reducible refine bAlloc ?_ _ | with_reducible refine bDrew ?_ | with_reducible refine bDrewN ?_ _)) gb0);have gc1:w3.cell? ⟨w.heap.size,1,none⟩=some (.int .i64 f.kind):=(kb 1).trans (bCell (by repeat (first | with_reducible exact Below.refl _ _ | with_reducible refine bAlloc ?_ _ | with_reducible refine bDrew ?_ | with_reducible refine bDrewN ?_ _)) gb1);have gc2:w3.cell? ⟨w.heap.size,2,none⟩=some (.string f.frm):=(kb 2).trans (bCell (by repeat (first | with_reducible exact Below.refl _ _ | with_reducible refine bAlloc ?_ _ | with_reducible refine bDrew ?_ | with_reducible refine bDrewN ?_ _)) gb2);have gc3:w3.cell? ⟨w.heap.size,3,none⟩=some (.string f.to):=(kb 3).trans (bCell (by repeat (first | with_reducible exact Below.refl _ _ | with_reducible refine bAlloc ?_ _ | with_reducible refine bDrew ?_ | with_reducible refine bDrewN ?_ _)) gb3);have gc4:w3.cell? ⟨w.heap.size,4,none⟩=some (.int .i64 f.pose.turn):=(kb 4).trans (bCell (by repeat (first | with_reducible exact Below.refl _ _ | with_reducible refine bAlloc ?_ _ | with_reducible refine bDrew ?_ | with_reducible refine bDrewN ?_ _)) gb4);have gc5:w3.cell? ⟨w.heap.size,5,none⟩=some (.int .i64 f.pose.x):=(kb 5).trans (bCell (by repeat (first | with_reducible exact Below.refl _ _ | with_reducible refine bAlloc ?_ _ | with_reducible refine bDrew ?_ | with_reducible refine bDrewN ?_ _)) gb5);have gc6:w3.cell? ⟨w.heap.size,6,none⟩=some (.int .i64 f.pose.y):=(kb 6).trans (bCell (by repeat (first | with_reducible exact Below.refl _ _ | with_reducible refine bAlloc ?_ _ | with_reducible refine bDrew ?_ | with_reducible refine bDrewN ?_ _)) gb6);have gc7:w3.cell? ⟨w.heap.size,7,none⟩=some (.int .i64 f.weight):=(kb 7).trans (bCell (by repeat (first | with_reducible exact Below.refl _ _ | with_reducible refine bAlloc ?_ _ | with_reducible refine bDrew ?_ | with_reducible refine bDrewN ?_ _)) gb7);clear kb)) | (at_builtin;(refine wpList_append rfl (.tmp 37) (.tmp 39) 23 rfl wr.heap.size 34 8 80 i0 _ Tryz.underlying23 hii hq0 hq1 hq2 rfl (by omega) A2 (k) c2 _ rfl (ho2.alloc_ _) _ 1 1 [f.cells] rfl (Row.new1' _ _ f.cells 8 _ (by simp)) (by simp [Factor.cells]) (by simp [Factor.cells,Value.oneCell']) (by simp only [maxLen];omega) (by omega) (by have h9:=hg2.size;simp at h9 ⊢;omega) ?_;intro A4 c4 w4 ho4 hg4 hat4;have Z4:wr.heap.size≤w4.heap.size:=(by have h8:=hg2.size;have h9:=hg4.size;simp at h8 h9;omega);have H4:Below w.heap.size w w4:=bGrown (bAlloc (bGrown (show Below w.heap.size w _ from by repeat (first | with_reducible exact Hr | with_reducible refine bAlloc ?_ _ | with_reducible refine bDrew ?_ | with_reducible refine bDrewN ?_ _)) hg2 (fun q hq=>by simp [ob] at hq;omega)) _) hg4 (fun q hq=>by have h9:=(ho2.lt q hq).1;omega))) | (at_builtin;refine wpList_append rfl (.tmp 41) (.tmp 44) 23 rfl wr.heap.size 34 8 80 i0 _ Tryz.underlying23 hii hq0 hq1 hq2 rfl (by omega) A4 (k+1) c4 _ rfl ho4 (some ⟨g,off+k * 8,none⟩) (n - k) (c - k) ((l.drop k).map Factor.cells) rfl (Row.drop_ (Row.below hr H4) hk) one_F cell_F (by simp only [maxLen];omega) (by omega) Z4 ?_;intro A5 c5 w5 ho5 hg5 hat5))
        have H5:=bGrown H4 hg5 (fun q hq=>by have h9:=(ho4.lt q hq).1;omega)
        have hs1:Own w5 w.heap.size 34 8 A1 n c1 (l.map Factor.cells):=same_kept ho1 (by repeat (first | with_reducible exact Below.refl _ _ | with_reducible refine bAlloc ?_ _ | with_reducible refine bDrew ?_ | with_reducible refine bDrewN ?_ _)) hg2 hg4 hg5 (fun q hq=>by simp [ob] at hq;omega) (fun q hq=>(ho2.lt q hq).1) (fun q hq=>(ho4.lt q hq).1)
        have e6:((l.take k).map Factor.cells++[f.cells]++(l.drop k).map Factor.cells)=(insF l f).map Factor.cells:=by rw [insF,hat.out];simp
        (try simp only [List.nil_append] at ho5)
        rw [e6] at ho5
        have hsm:smallFs (insF l f):=ins_small hs hfs
        generalize hb3:isFL (insF l f)=b3
        have HB3:=Lib.hid hb3
        clear hb3
        go_wp2_with fail
        refine Calls.mono (spec_IsFactorList_c A5 _ c5 (insF l f) _ ?_ ho5.row hsm) ?_
        · omega
        rintro e w6 ⟨rfl,hk6⟩
        rw [HB3.out]
        have H6:=bTrans H5 hk6
        have ho6:=(ho5.below hk6).rebase (show w.heap.size≤wr.heap.size from Hr.size)
        cases b3
        · have E:=Lib.hid (addF_bad HB3.out)
          have hs2:=hs1.below hk6
          go_wp2_with fail
          go_ret2
          rw [E.out]
          exact ⟨⟨A1,_,c1⟩,rfl,hs2.zero,Fresh.obl_ hs2,H6⟩
        · have E:=Lib.hid (addF_yes HB1.out HB3.out)
          go_wp2_with fail
          go_ret2
          rw [E.out]
          exact ⟨⟨A5,_,c5⟩,rfl,ho6.zero,Fresh.obl_ ho6,H6⟩
    · have hat:=hi.done hl hlt
      clear hi
      have h1:¬ (k:Int) < (n:Int):=by omega
      obtain rfl:k=n:=by omega
      rcases hsl with ⟨rfl,h00,hc0⟩ | ⟨g,off,rfl,hnc1,hnc2⟩
      · subst h00;subst hc0
        go_wp2_with fail
        go_quiet (fail)
        have gb0:wr.cell? ⟨w.heap.size,0,none⟩=some (.int .i64 f.id):=by rw [kr,k2,k1];simp
        have gb1:wr.cell? ⟨w.heap.size,1,none⟩=some (.int .i64 f.kind):=by rw [kr,k2,k1];simp
        have gb2:wr.cell? ⟨w.heap.size,2,none⟩=some (.string f.frm):=by rw [kr,k2,k1];simp
        have gb3:wr.cell? ⟨w.heap.size,3,none⟩=some (.string f.to):=by rw [kr,k2,k1];simp
        have gb4:wr.cell? ⟨w.heap.size,4,none⟩=some (.int .i64 f.pose.turn):=by rw [kr,k2,k1];simp
        have gb5:wr.cell? ⟨w.heap.size,5,none⟩=some (.int .i64 f.pose.x):=by rw [kr,k2,k1];simp
        have gb6:wr.cell? ⟨w.heap.size,6,none⟩=some (.int .i64 f.pose.y):=by rw [kr,k2,k1];simp
        have gb7:wr.cell? ⟨w.heap.size,7,none⟩=some (.int .i64 f.weight):=by rw [kr,k2,k1];simp
        clear kr k2 k1
        have hkc:((0:Nat):Int)≤((0:Nat):Int):=by omega
        have hk00:((0:Nat):Int)≤((0:Nat):Int):=by omega
        have hrk:RdF wr ⟨none,0,0⟩ (l.take 0):=Row.take_ (Row.below hr Hr) (by omega)
        have L40:=isFL_len HB1.out
        have L9:l.length=0:=hl.out
        go_wp2_with (first | (at_builtin;(refine wpList_append rfl (.tmp 32) (.tmp 35) 23 rfl wr.heap.size 34 8 80 i0 _ Tryz.underlying23 hii hq0 hq1 hq2 rfl (by omega) (some ⟨wr.heap.size,0,none⟩) 0 0 [] rfl (made_any _ _ _ _ (by simp) (by simp)) (none) 0 0 ((l.take 0).map Factor.cells) rfl (Row.below hrk (by repeat (first | with_reducible exact Below.refl _ _ | with_reducible refine bAlloc ?_ _ | with_reducible refine bDrew ?_ | with_reducible refine bDrewN ?_ _))) one_F cell_F (by simp only [maxLen];omega) (by omega) (by simp) ?_;intro A2 c2 w3 ho2 hg2 hat2;simp only [Nat.zero_add,List.nil_append] at ho2 ⊢;have kb:=gBox hg2 w.heap.size (by first | omega | (simp;omega)) (fun q hq e=>by simp [ob] at hq;omega);have z3:w.heap.size+1≤w3.heap.size:=(by have h9:=hg2.size;simp at h9;omega);have gc0:w3.cell? ⟨w.heap.size,0,none⟩=some (.int .i64 f.id):=(kb 0).trans (bCell (by repeat (first | with_reducible exact Below.refl _ _ | with_reducible refine bAlloc ?_ _ | with_reducible refine bDrew ?_ | with_reducible refine bDrewN ?_ _)) gb0);have gc1:w3.cell? ⟨w.heap.size,1,none⟩=some (.int .i64 f.kind):=(kb 1).trans (bCell (by repeat (first | with_reducible exact Below.refl _ _ | with_reducible refine bAlloc ?_ _ | with_reducible refine bDrew ?_ | with_reducible refine bDrewN ?_ _)) gb1);have gc2:w3.cell? ⟨w.heap.size,2,none⟩=some (.string f.frm):=(kb 2).trans (bCell (by repeat (first | with_reducible exact Below.refl _ _ | with_reducible refine bAlloc ?_ _ | with_reducible refine bDrew ?_ | with_reducible refine bDrewN ?_ _)) gb2);have gc3:w3.cell? ⟨w.heap.size,3,none⟩=some (.string f.to):=(kb 3).trans (bCell (by repeat (first | with_reducible exact Below.refl _ _ | with_reducible refine bAlloc ?_ _ | with_reducible refine bDrew ?_ | with_reducible refine bDrewN ?_ _)) gb3);have gc4:w3.cell? ⟨w.heap.size,4,none⟩=some (.int .i64 f.pose.turn):=(kb 4).trans (bCell (by repeat (first | with_reducible exact Below.refl _ _ | with_reducible refine bAlloc ?_ _ | with_reducible refine bDrew ?_ | with_reducible refine bDrewN ?_ _)) gb4);have gc5:w3.cell? ⟨w.heap.size,5,none⟩=some (.int .i64 f.pose.x):=(kb 5).trans (bCell (by repeat (first | with_reducible exact Below.refl _ _ | with_reducible refine bAlloc ?_ _ | with_reducible refine bDrew ?_ | with_reducible refine bDrewN ?_ _)) gb5);have gc6:w3.cell? ⟨w.heap.size,6,none⟩=some (.int .i64 f.pose.y):=(kb 6).trans (bCell (by repeat (first | with_reducible exact Below.refl _ _ | with_reducible refine bAlloc ?_ _ | with_reducible refine bDrew ?_ | with_reducible refine bDrewN ?_ _)) gb6);have gc7:w3.cell? ⟨w.heap.size,7,none⟩=some (.int .i64 f.weight):=(kb 7).trans (bCell (by repeat (first | with_reducible exact Below.refl _ _ | with_reducible refine bAlloc ?_ _ | with_reducible refine bDrew ?_ | with_reducible refine bDrewN ?_ _)) gb7);clear kb)) | (at_builtin;(refine wpList_append rfl (.tmp 37) (.tmp 39) 23 rfl wr.heap.size 34 8 80 i0 _ Tryz.underlying23 hii hq0 hq1 hq2 rfl (by omega) A2 (0) c2 _ rfl (ho2.alloc_ _) _ 1 1 [f.cells] rfl (Row.new1' _ _ f.cells 8 _ (by simp)) (by simp [Factor.cells]) (by simp [Factor.cells,Value.oneCell']) (by simp only [maxLen];omega) (by omega) (by have h9:=hg2.size;simp at h9 ⊢;omega) ?_;intro A4 c4 w4 ho4 hg4 hat4;have Z4:wr.heap.size≤w4.heap.size:=(by have h8:=hg2.size;have h9:=hg4.size;simp at h8 h9;omega);have H4:Below w.heap.size w w4:=bGrown (bAlloc (bGrown (show Below w.heap.size w _ from by repeat (first | with_reducible exact Hr | with_reducible refine bAlloc ?_ _ | with_reducible refine bDrew ?_ | with_reducible refine bDrewN ?_ _)) hg2 (fun q hq=>by simp [ob] at hq;omega)) _) hg4 (fun q hq=>by have h9:=(ho2.lt q hq).1;omega))) | (at_builtin;refine wpList_append rfl (.tmp 41) (.tmp 44) 23 rfl wr.heap.size 34 8 80 i0 _ Tryz.underlying23 hii hq0 hq1 hq2 rfl (by omega) A4 (0+1) c4 _ rfl ho4 _ 0 _ [] rfl (Row.nil_ _ _ _) (by simp) (by simp) (by simp only [maxLen];omega) (by omega) Z4 ?_;intro A5 c5 w5 ho5 hg5 hat5))
        have H5:=bGrown H4 hg5 (fun q hq=>by have h9:=(ho4.lt q hq).1;omega)
        have hs1:Own w5 w.heap.size 34 8 A1 0 c1 (l.map Factor.cells):=same_kept ho1 (by repeat (first | with_reducible exact Below.refl _ _ | with_reducible refine bAlloc ?_ _ | with_reducible refine bDrew ?_ | with_reducible refine bDrewN ?_ _)) hg2 hg4 hg5 (fun q hq=>by simp [ob] at hq;omega) (fun q hq=>(ho2.lt q hq).1) (fun q hq=>(ho4.lt q hq).1)
        have e6:((l.take 0).map Factor.cells++[f.cells]++[])=(insF l f).map Factor.cells:=by rw [insF,hat.out];simp;first | omega | exact List.eq_nil_of_length_eq_zero L9 | (rw [List.eq_nil_of_length_eq_zero L9];rfl)
        (try simp only [List.nil_append] at ho5)
        rw [e6] at ho5
        have hsm:smallFs (insF l f):=ins_small hs hfs
        generalize hb3:isFL (insF l f)=b3
        have HB3:=Lib.hid hb3
        clear hb3
        go_wp2_with fail
        refine Calls.mono (spec_IsFactorList_c A5 _ c5 (insF l f) _ ?_ ho5.row hsm) ?_
        · omega
        rintro e w6 ⟨rfl,hk6⟩
        rw [HB3.out]
        have H6:=bTrans H5 hk6
        have ho6:=(ho5.below hk6).rebase (show w.heap.size≤wr.heap.size from Hr.size)
        cases b3
        · have E:=Lib.hid (addF_bad HB3.out)
          have hs2:=hs1.below hk6
          go_wp2_with fail
          go_ret2
          rw [E.out]
          exact ⟨⟨A1,_,c1⟩,rfl,hs2.zero,Fresh.obl_ hs2,H6⟩
        · have E:=Lib.hid (addF_yes HB1.out HB3.out)
          go_wp2_with fail
          go_ret2
          rw [E.out]
          exact ⟨⟨A5,_,c5⟩,rfl,ho6.zero,Fresh.obl_ ho6,H6⟩
      · by_cases hkc2:k=c
        · subst hkc2
          go_wp2_with fail
          go_quiet (fail)
          have gb0:wr.cell? ⟨w.heap.size,0,none⟩=some (.int .i64 f.id):=by rw [kr,k2,k1];simp
          have gb1:wr.cell? ⟨w.heap.size,1,none⟩=some (.int .i64 f.kind):=by rw [kr,k2,k1];simp
          have gb2:wr.cell? ⟨w.heap.size,2,none⟩=some (.string f.frm):=by rw [kr,k2,k1];simp
          have gb3:wr.cell? ⟨w.heap.size,3,none⟩=some (.string f.to):=by rw [kr,k2,k1];simp
          have gb4:wr.cell? ⟨w.heap.size,4,none⟩=some (.int .i64 f.pose.turn):=by rw [kr,k2,k1];simp
          have gb5:wr.cell? ⟨w.heap.size,5,none⟩=some (.int .i64 f.pose.x):=by rw [kr,k2,k1];simp
          have gb6:wr.cell? ⟨w.heap.size,6,none⟩=some (.int .i64 f.pose.y):=by rw [kr,k2,k1];simp
          have gb7:wr.cell? ⟨w.heap.size,7,none⟩=some (.int .i64 f.weight):=by rw [kr,k2,k1];simp
          clear kr k2 k1
          have hkc:(k:Int)≤(k:Int):=by omega
          have hk00:(0:Int)≤(k:Int):=by omega
          have hrk:RdF wr ⟨some ⟨g,off,none⟩,k,k⟩ (l.take k):=Row.take_ (Row.below hr Hr) (by omega)
          have L40:=isFL_len HB1.out
          have L9:l.length=k:=hl.out
          go_wp2_with (first | (at_builtin;(refine wpList_append rfl (.tmp 32) (.tmp 35) 23 rfl wr.heap.size 34 8 80 i0 _ Tryz.underlying23 hii hq0 hq1 hq2 rfl (by omega) (some ⟨wr.heap.size,0,none⟩) 0 0 [] rfl (made_any _ _ _ _ (by simp) (by simp)) (some ⟨g,off,none⟩) k k ((l.take k).map Factor.cells) rfl (Row.below hrk (by repeat (first | with_reducible exact Below.refl _ _ | with_reducible refine bAlloc ?_ _ | with_reducible refine bDrew ?_ | with_reducible refine bDrewN ?_ _))) one_F cell_F (by simp only [maxLen];omega) (by omega) (by simp) ?_;intro A2 c2 w3 ho2 hg2 hat2;simp only [Nat.zero_add,List.nil_append] at ho2 ⊢;have kb:=gBox hg2 w.heap.size (by first | omega | (simp;omega)) (fun q hq e=>by simp [ob] at hq;omega);have z3:w.heap.size+1≤w3.heap.size:=(by have h9:=hg2.size;simp at h9;omega);have gc0:w3.cell? ⟨w.heap.size,0,none⟩=some (.int .i64 f.id):=(kb 0).trans (bCell (by repeat (first | with_reducible exact Below.refl _ _ | with_reducible refine bAlloc ?_ _ | with_reducible refine bDrew ?_ | with_reducible refine bDrewN ?_ _)) gb0);have gc1:w3.cell? ⟨w.heap.size,1,none⟩=some (.int .i64 f.kind):=(kb 1).trans (bCell (by repeat (first | with_reducible exact Below.refl _ _ | with_reducible refine bAlloc ?_ _ | with_reducible refine bDrew ?_ | with_reducible refine bDrewN ?_ _)) gb1);have gc2:w3.cell? ⟨w.heap.size,2,none⟩=some (.string f.frm):=(kb 2).trans (bCell (by repeat (first | with_reducible exact Below.refl _ _ | with_reducible refine bAlloc ?_ _ | with_reducible refine bDrew ?_ | with_reducible refine bDrewN ?_ _)) gb2);have gc3:w3.cell? ⟨w.heap.size,3,none⟩=some (.string f.to):=(kb 3).trans (bCell (by repeat (first | with_reducible exact Below.refl _ _ | with_reducible refine bAlloc ?_ _ | with_reducible refine bDrew ?_ | with_reducible refine bDrewN ?_ _)) gb3);have gc4:w3.cell? ⟨w.heap.size,4,none⟩=some (.int .i64 f.pose.turn):=(kb 4).trans (bCell (by repeat (first | with_reducible exact Below.refl _ _ | with_reducible refine bAlloc ?_ _ | with_reducible refine bDrew ?_ | with_reducible refine bDrewN ?_ _)) gb4);have gc5:w3.cell? ⟨w.heap.size,5,none⟩=some (.int .i64 f.pose.x):=(kb 5).trans (bCell (by repeat (first | with_reducible exact Below.refl _ _ | with_reducible refine bAlloc ?_ _ | with_reducible refine bDrew ?_ | with_reducible refine bDrewN ?_ _)) gb5);have gc6:w3.cell? ⟨w.heap.size,6,none⟩=some (.int .i64 f.pose.y):=(kb 6).trans (bCell (by repeat (first | with_reducible exact Below.refl _ _ | with_reducible refine bAlloc ?_ _ | with_reducible refine bDrew ?_ | with_reducible refine bDrewN ?_ _)) gb6);have gc7:w3.cell? ⟨w.heap.size,7,none⟩=some (.int .i64 f.weight):=(kb 7).trans (bCell (by repeat (first | with_reducible exact Below.refl _ _ | with_reducible refine bAlloc ?_ _ | with_reducible refine bDrew ?_ | with_reducible refine bDrewN ?_ _)) gb7);clear kb)) | (at_builtin;(refine wpList_append rfl (.tmp 37) (.tmp 39) 23 rfl wr.heap.size 34 8 80 i0 _ Tryz.underlying23 hii hq0 hq1 hq2 rfl (by omega) A2 (k) c2 _ rfl (ho2.alloc_ _) _ 1 1 [f.cells] rfl (Row.new1' _ _ f.cells 8 _ (by simp)) (by simp [Factor.cells]) (by simp [Factor.cells,Value.oneCell']) (by simp only [maxLen];omega) (by omega) (by have h9:=hg2.size;simp at h9 ⊢;omega) ?_;intro A4 c4 w4 ho4 hg4 hat4;have Z4:wr.heap.size≤w4.heap.size:=(by have h8:=hg2.size;have h9:=hg4.size;simp at h8 h9;omega);have H4:Below w.heap.size w w4:=bGrown (bAlloc (bGrown (show Below w.heap.size w _ from by repeat (first | with_reducible exact Hr | with_reducible refine bAlloc ?_ _ | with_reducible refine bDrew ?_ | with_reducible refine bDrewN ?_ _)) hg2 (fun q hq=>by simp [ob] at hq;omega)) _) hg4 (fun q hq=>by have h9:=(ho2.lt q hq).1;omega))) | (at_builtin;refine wpList_append rfl (.tmp 41) (.tmp 44) 23 rfl wr.heap.size 34 8 80 i0 _ Tryz.underlying23 hii hq0 hq1 hq2 rfl (by omega) A4 (k+1) c4 _ rfl ho4 _ 0 _ [] rfl (Row.nil_ _ _ _) (by simp) (by simp) (by simp only [maxLen];omega) (by omega) Z4 ?_;intro A5 c5 w5 ho5 hg5 hat5))
          have H5:=bGrown H4 hg5 (fun q hq=>by have h9:=(ho4.lt q hq).1;omega)
          have hs1:Own w5 w.heap.size 34 8 A1 k c1 (l.map Factor.cells):=same_kept ho1 (by repeat (first | with_reducible exact Below.refl _ _ | with_reducible refine bAlloc ?_ _ | with_reducible refine bDrew ?_ | with_reducible refine bDrewN ?_ _)) hg2 hg4 hg5 (fun q hq=>by simp [ob] at hq;omega) (fun q hq=>(ho2.lt q hq).1) (fun q hq=>(ho4.lt q hq).1)
          have e6:((l.take k).map Factor.cells++[f.cells]++[])=(insF l f).map Factor.cells:=by rw [insF,hat.out];simp;first | omega | exact List.eq_nil_of_length_eq_zero L9 | (rw [List.eq_nil_of_length_eq_zero L9];rfl)
          (try simp only [List.nil_append] at ho5)
          rw [e6] at ho5
          have hsm:smallFs (insF l f):=ins_small hs hfs
          generalize hb3:isFL (insF l f)=b3
          have HB3:=Lib.hid hb3
          clear hb3
          go_wp2_with fail
          refine Calls.mono (spec_IsFactorList_c A5 _ c5 (insF l f) _ ?_ ho5.row hsm) ?_
          · omega
          rintro e w6 ⟨rfl,hk6⟩
          rw [HB3.out]
          have H6:=bTrans H5 hk6
          have ho6:=(ho5.below hk6).rebase (show w.heap.size≤wr.heap.size from Hr.size)
          cases b3
          · have E:=Lib.hid (addF_bad HB3.out)
            have hs2:=hs1.below hk6
            go_wp2_with fail
            go_ret2
            rw [E.out]
            exact ⟨⟨A1,_,c1⟩,rfl,hs2.zero,Fresh.obl_ hs2,H6⟩
          · have E:=Lib.hid (addF_yes HB1.out HB3.out)
            go_wp2_with fail
            go_ret2
            rw [E.out]
            exact ⟨⟨A5,_,c5⟩,rfl,ho6.zero,Fresh.obl_ ho6,H6⟩
        · have hkc3:k < c:=by omega
          go_wp2_with fail
          go_quiet (fail)
          have gb0:wr.cell? ⟨w.heap.size,0,none⟩=some (.int .i64 f.id):=by rw [kr,k2,k1];simp
          have gb1:wr.cell? ⟨w.heap.size,1,none⟩=some (.int .i64 f.kind):=by rw [kr,k2,k1];simp
          have gb2:wr.cell? ⟨w.heap.size,2,none⟩=some (.string f.frm):=by rw [kr,k2,k1];simp
          have gb3:wr.cell? ⟨w.heap.size,3,none⟩=some (.string f.to):=by rw [kr,k2,k1];simp
          have gb4:wr.cell? ⟨w.heap.size,4,none⟩=some (.int .i64 f.pose.turn):=by rw [kr,k2,k1];simp
          have gb5:wr.cell? ⟨w.heap.size,5,none⟩=some (.int .i64 f.pose.x):=by rw [kr,k2,k1];simp
          have gb6:wr.cell? ⟨w.heap.size,6,none⟩=some (.int .i64 f.pose.y):=by rw [kr,k2,k1];simp
          have gb7:wr.cell? ⟨w.heap.size,7,none⟩=some (.int .i64 f.weight):=by rw [kr,k2,k1];simp
          clear kr k2 k1
          have hkc:(k:Int)≤(c:Int):=by omega
          have hk00:(0:Int)≤(k:Int):=by omega
          have hrk:RdF wr ⟨some ⟨g,off,none⟩,k,c⟩ (l.take k):=Row.take_ (Row.below hr Hr) (by omega)
          have L40:=isFL_len HB1.out
          have L9:l.length=k:=hl.out
          go_wp2_with (first | (at_builtin;(refine wpList_append rfl (.tmp 32) (.tmp 35) 23 rfl wr.heap.size 34 8 80 i0 _ Tryz.underlying23 hii hq0 hq1 hq2 rfl (by omega) (some ⟨wr.heap.size,0,none⟩) 0 0 [] rfl (made_any _ _ _ _ (by simp) (by simp)) (some ⟨g,off,none⟩) k c ((l.take k).map Factor.cells) rfl (Row.below hrk (by repeat (first | with_reducible exact Below.refl _ _ | with_reducible refine bAlloc ?_ _ | with_reducible refine bDrew ?_ | with_reducible refine bDrewN ?_ _))) one_F cell_F (by simp only [maxLen];omega) (by omega) (by simp) ?_;intro A2 c2 w3 ho2 hg2 hat2;simp only [Nat.zero_add,List.nil_append] at ho2 ⊢;have kb:=gBox hg2 w.heap.size (by first | omega | (simp;omega)) (fun q hq e=>by simp [ob] at hq;omega);have z3:w.heap.size+1≤w3.heap.size:=(by have h9:=hg2.size;simp at h9;omega);have gc0:w3.cell? ⟨w.heap.size,0,none⟩=some (.int .i64 f.id):=(kb 0).trans (bCell (by repeat (first | with_reducible exact Below.refl _ _ | with_reducible refine bAlloc ?_ _ | with_reducible refine bDrew ?_ | with_reducible refine bDrewN ?_ _)) gb0);have gc1:w3.cell? ⟨w.heap.size,1,none⟩=some (.int .i64 f.kind):=(kb 1).trans (bCell (by repeat (first | with_reducible exact Below.refl _ _ | with_reducible refine bAlloc ?_ _ | with_reducible refine bDrew ?_ | with_reducible refine bDrewN ?_ _)) gb1);have gc2:w3.cell? ⟨w.heap.size,2,none⟩=some (.string f.frm):=(kb 2).trans (bCell (by repeat (first | with_reducible exact Below.refl _ _ | with_reducible refine bAlloc ?_ _ | with_reducible refine bDrew ?_ | with_reducible refine bDrewN ?_ _)) gb2);have gc3:w3.cell? ⟨w.heap.size,3,none⟩=some (.string f.to):=(kb 3).trans (bCell (by repeat (first | with_reducible exact Below.refl _ _ | with_reducible refine bAlloc ?_ _ | with_reducible refine bDrew ?_ | with_reducible refine bDrewN ?_ _)) gb3);have gc4:w3.cell? ⟨w.heap.size,4,none⟩=some (.int .i64 f.pose.turn):=(kb 4).trans (bCell (by repeat (first | with_reducible exact Below.refl _ _ | with_reducible refine bAlloc ?_ _ | with_reducible refine bDrew ?_ | with_reducible refine bDrewN ?_ _)) gb4);have gc5:w3.cell? ⟨w.heap.size,5,none⟩=some (.int .i64 f.pose.x):=(kb 5).trans (bCell (by repeat (first | with_reducible exact Below.refl _ _ | with_reducible refine bAlloc ?_ _ | with_reducible refine bDrew ?_ | with_reducible refine bDrewN ?_ _)) gb5);have gc6:w3.cell? ⟨w.heap.size,6,none⟩=some (.int .i64 f.pose.y):=(kb 6).trans (bCell (by repeat (first | with_reducible exact Below.refl _ _ | with_reducible refine bAlloc ?_ _ | with_reducible refine bDrew ?_ | with_reducible refine bDrewN ?_ _)) gb6);have gc7:w3.cell? ⟨w.heap.size,7,none⟩=some (.int .i64 f.weight):=(kb 7).trans (bCell (by repeat (first | with_reducible exact Below.refl _ _ | with_reducible refine bAlloc ?_ _ | with_reducible refine bDrew ?_ | with_reducible refine bDrewN ?_ _)) gb7);clear kb)) | (at_builtin;(refine wpList_append rfl (.tmp 37) (.tmp 39) 23 rfl wr.heap.size 34 8 80 i0 _ Tryz.underlying23 hii hq0 hq1 hq2 rfl (by omega) A2 (k) c2 _ rfl (ho2.alloc_ _) _ 1 1 [f.cells] rfl (Row.new1' _ _ f.cells 8 _ (by simp)) (by simp [Factor.cells]) (by simp [Factor.cells,Value.oneCell']) (by simp only [maxLen];omega) (by omega) (by have h9:=hg2.size;simp at h9 ⊢;omega) ?_;intro A4 c4 w4 ho4 hg4 hat4;have Z4:wr.heap.size≤w4.heap.size:=(by have h8:=hg2.size;have h9:=hg4.size;simp at h8 h9;omega);have H4:Below w.heap.size w w4:=bGrown (bAlloc (bGrown (show Below w.heap.size w _ from by repeat (first | with_reducible exact Hr | with_reducible refine bAlloc ?_ _ | with_reducible refine bDrew ?_ | with_reducible refine bDrewN ?_ _)) hg2 (fun q hq=>by simp [ob] at hq;omega)) _) hg4 (fun q hq=>by have h9:=(ho2.lt q hq).1;omega))) | (at_builtin;refine wpList_append rfl (.tmp 41) (.tmp 44) 23 rfl wr.heap.size 34 8 80 i0 _ Tryz.underlying23 hii hq0 hq1 hq2 rfl (by omega) A4 (k+1) c4 _ rfl ho4 _ 0 _ [] rfl (Row.nil_ _ _ _) (by simp) (by simp) (by simp only [maxLen];omega) (by omega) Z4 ?_;intro A5 c5 w5 ho5 hg5 hat5))
          have H5:=bGrown H4 hg5 (fun q hq=>by have h9:=(ho4.lt q hq).1;omega)
          have hs1:Own w5 w.heap.size 34 8 A1 k c1 (l.map Factor.cells):=same_kept ho1 (by repeat (first | with_reducible exact Below.refl _ _ | with_reducible refine bAlloc ?_ _ | with_reducible refine bDrew ?_ | with_reducible refine bDrewN ?_ _)) hg2 hg4 hg5 (fun q hq=>by simp [ob] at hq;omega) (fun q hq=>(ho2.lt q hq).1) (fun q hq=>(ho4.lt q hq).1)
          have e6:((l.take k).map Factor.cells++[f.cells]++[])=(insF l f).map Factor.cells:=by rw [insF,hat.out];simp;first | omega | exact List.eq_nil_of_length_eq_zero L9 | (rw [List.eq_nil_of_length_eq_zero L9];rfl)
          (try simp only [List.nil_append] at ho5)
          rw [e6] at ho5
          have hsm:smallFs (insF l f):=ins_small hs hfs
          generalize hb3:isFL (insF l f)=b3
          have HB3:=Lib.hid hb3
          clear hb3
          go_wp2_with fail
          refine Calls.mono (spec_IsFactorList_c A5 _ c5 (insF l f) _ ?_ ho5.row hsm) ?_
          · omega
          rintro e w6 ⟨rfl,hk6⟩
          rw [HB3.out]
          have H6:=bTrans H5 hk6
          have ho6:=(ho5.below hk6).rebase (show w.heap.size≤wr.heap.size from Hr.size)
          cases b3
          · have E:=Lib.hid (addF_bad HB3.out)
            have hs2:=hs1.below hk6
            go_wp2_with fail
            go_ret2
            rw [E.out]
            exact ⟨⟨A1,_,c1⟩,rfl,hs2.zero,Fresh.obl_ hs2,H6⟩
          · have E:=Lib.hid (addF_yes HB1.out HB3.out)
            go_wp2_with fail
            go_ret2
            rw [E.out]
            exact ⟨⟨A5,_,c5⟩,rfl,ho6.zero,Fresh.obl_ ho6,H6⟩
theorem addF_fl {l:List Factor} {f:Factor} (h:(addF l f).2=true):isFL (addF l f).1=true:=by
  unfold addF at h ⊢
  split
  · rename_i hc;simp only [Bool.and_eq_true] at hc;exact hc.2
  · rename_i hc;rw [if_neg hc] at h;cases h

end Go.Proofs.YtdfemnffpaopfaaGreatDoor
