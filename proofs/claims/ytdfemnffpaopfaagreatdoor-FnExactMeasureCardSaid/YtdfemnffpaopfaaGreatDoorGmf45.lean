/- Texts of this proof, one behind the other: TeamM. -/
import Derived.Test.YtdfemnffpaopfaaGreatDoorGmf6
import Derived.Test.YtdfemnffpaopfaaGreatDoorGmf7
import Derived.Test.YtdfemnffpaopfaaGreatDoorGmf9
namespace Go.Proofs.YtdfemnffpaopfaaGreatDoor
open Go.RowKit
set_option linter.unusedVariables false
set_option linter.unusedSimpArgs false
set_option maxHeartbeats 1600000
set_option maxRecDepth 100000
theorem apart1 {g:Nat} {f:List Nat} (h:g ∉ f):∀ q∈obl (some ⟨g,0,none⟩),q ∉ f:=fun q hq hm=>by
  simp [obl,ob] at hq;subst hq;exact h hm
theorem at_of {α:Type} {l:List α} {n k:Nat} (hl:Hid (l.length=n)) (hk:k < n):∃ x,Hid (l[k]? = some x):=⟨_,List.getElem?_eq_getElem (by have:=hl.out;omega)⟩
theorem markRobotS_k (A:Option Addr) (n c:Nat) (fs:List Nat) (l:List Robot) (k0:Int) (w:World) (hk0:0≤k0) (hk1:k0≤2000000000) (hm:sumBulk Robot.num l≤4194304) (ho:OwSl KRo w fs 47 2 A n c l) (hnd:fs.Nodup) :
    Calls Tryz.prog 64 #[.slice A n c,.int .i64 k0] w fun e w'=>e=rInt (k0+(sumBulk Robot.cnt l:Nat))∧OwSl KRo w' fs 47 2 A n c (mkAll Robot.cnt Robot.mk_ k0 l)∧Upd fs w w':=by
  have hlc:=ho.len
  have hcn:sumBulk Robot.cnt l≤33554432:=by have:=cnt_Ro l;omega
  have hn:n≤4194304:=by have:=hlc.out;have:=sum_one (c:=Robot.num) (fun x=>by unfold Robot.num;omega) l;omega
  have HM:=Lib.hid hm
  have HC:=Lib.hid hcn
  clear hm hcn
  go_enter Tryz.func64,Tryz.ntmps64
  go_wp2
  go_loopw [1,5] (fun q i wr=>∃ (k:Nat) (kk:Int),k≤n∧i=.int .i64 k∧q=.int .i64 kk∧Hid (kk=k0+(sumBulk Robot.cnt (l.take k):Nat))∧0≤kk∧kk≤2100000000∧OwSl KRo wr fs 47 2 A n c (MkU Robot.cnt Robot.mk_ k0 l k)∧Upd fs w wr) (fun _ i _=>n - (intOf i).toNat)
  case atStart=>exact ⟨0,k0,by omega,rfl,rfl,by simp [Hid,sumBulk],hk0,by omega,by rw [MkU.zero];exact ho,Upd.refl _ _⟩
  case round =>
    obtain ⟨k,kk,hk,rfl,rfl,hkk,hkk0,hkk1,hown,hup⟩:=hrel
    by_cases hlt:k < n
    · obtain ⟨x,hx⟩:=at_of hlc hlt
      obtain ⟨css,f,cs,g,hown,hcs,hK,rfl,hgf,hgm,hsub,hfn,hback⟩:=hown.focus loc_Ro hnd (MkU.at_ _ _ hx)
      obtain ⟨v,rfl,hOF,rfl⟩:=hK
      have hgl:g < wr.heap.size:=(hown.lt g rfl).2
      have g0:wr.cell? ⟨g,k * 2,none⟩=some (.slice v.A v.n v.c):=own_cells hown hcs 0 _ rfl
      have hfew:=few_Ro (Nat.le_trans (mem_bulk (c:=Robot.num) (List.mem_of_getElem? hx.out)) HM.out)
      have hcx:=Lib.hid (sum_take (c:=Robot.cnt) hx)
      have hcl:=Lib.hid (sum_take_le (c:=Robot.cnt) (l:=l) (i:=k+1))
      go_wp2_with fail
      refine Calls.mono (markFactorS_k v x.factors kk _ hkk0 (by omega) hfew ?_ hfn) ?_
      · exact hOF
      rintro e w2 ⟨rfl,hOF2,hu2⟩
      have hown2:=hown.upd hu2 (apart1 hgf)
      have hz2:=hu2.size
      have hcf:=cntF_few hfew
      clear hown g0
      have tok:True:=trivial
      go_wp2_with (first
        | (go_at_call 115;refine (markText_c _ _ (MI.of (by omega))).mono ?_;rintro e w3 ⟨rfl,hb3⟩;have hown3:=hown2.below hb3;clear hown2)
        | (have _t:=tok;refine wpList_store_cell rfl _ _ _ rfl 0 47 2 n c g k 1 _ (by omega) (by omega) _ _ rfl (.string (markTxt (kk+(cntF x.factors:Int)))) rfl rfl rfl sz_str hown3 hcs ?_;clear hown3 tok _t;intro w4 hown4 hcs4 hg4))
      have hUU:Upd (g :: fpF v) wr w4:=((hu2.mono fun q hq=>List.mem_cons_of_mem _ hq).then_below hb3).trans ((upd1 hg4).mono fun q hq=>by simp at hq;subst hq;simp)
      have hOF4:OwF w4 v (mkF kk x.factors):=(OwF.below hOF2 hb3).upd (upd1 hg4) (fun q hq hm=>by simp at hm;subst hm;exact hgf hq)
      have hfin:=hback w4 _ (Robot.mk_ kk x) hown4 ⟨v,rfl,hOF4,rfl⟩ hUU
      rw [hkk.out,MkU.next _ _ hx] at hfin
      have hup4:Upd fs w w4:=hup.trans (hUU.mono fun q hq=>by rcases List.mem_cons.1 hq with rfl | hq;exact hgm;exact hsub q hq)
      go_roundw
      case rel=>exact ⟨k+1,kk+(cntF x.factors:Int)+1,by omega,by go_num,by go_num,by have:=hkk.out;have:=hcx.out;unfold Robot.cnt at *;unfold Hid;push_cast at *;omega,by omega,by have:=hkk.out;have:=hcx.out;have:=hcl.out;have:=HC.out;unfold Robot.cnt at *;push_cast at *;omega,hfin,hup4⟩
      case measure=>simp [intOf];omega
    · rw [MkU.full _ _ hlc hlt] at hown
      have hsf:=Lib.hid (sum_full (c:=Robot.cnt) hlc hlt)
      go_wp2
      go_ret
      exact ⟨by rw [hkk.out,hsf.out];rfl,hown,hup⟩
theorem heldRobotS_k (A:Option Addr) (n c:Nat) (l:List Robot) (k0:Int) (w:World) (hk0:0≤k0) (hk1:k0≤2000000000) (hm:sumBulk Robot.num l≤4194304) (hr:RdSl RdRo w A n 2 (mkAll Robot.cnt Robot.mk_ k0 l)) :
    Calls Tryz.prog 66 #[.slice A n c,.int .i64 k0] w fun e w'=>e=rInt (k0+(sumBulk Robot.cnt l:Nat))∧Below w.heap.size w w':=by
  have hlc:Hid (l.length=n):=by have:=hr.len.out;rwa [mkAll_len] at this
  have hcn:sumBulk Robot.cnt l≤33554432:=by have:=cnt_Ro l;omega
  have hn:n≤4194304:=by have:=hlc.out;have:=sum_one (c:=Robot.num) (fun x=>by unfold Robot.num;omega) l;omega
  have HM:=Lib.hid hm
  have HC:=Lib.hid hcn
  clear hm hcn
  go_enter Tryz.func66,Tryz.ntmps66
  go_wp2
  go_loopw [1,5] (fun q i wr=>∃ (k:Nat) (kk:Int),k≤n∧i=.int .i64 k∧q=.int .i64 kk∧Hid (kk=k0+(sumBulk Robot.cnt (l.take k):Nat))∧0≤kk∧kk≤2100000000∧Below w.heap.size w wr) (fun _ i _=>n - (intOf i).toNat)
  case atStart=>exact ⟨0,k0,by omega,rfl,rfl,by simp [Hid,sumBulk],hk0,by omega,Below.refl _ _⟩
  case round =>
    obtain ⟨k,kk,hk,rfl,rfl,hkk,hkk0,hkk1,hb⟩:=hrel
    by_cases hlt:k < n
    · obtain ⟨x,hx⟩:=at_of hlc hlt
      obtain ⟨y,cs,g,off,hy,rfl,hR,hc⟩:=RdSl.at_ (hr.below (R:=RdRo) RdRo.below hb) hlt
      obtain rfl:y=Robot.mk_ kk x:=by
        have h1:=mkAll_at Robot.cnt Robot.mk_ k0 l k x hx.out
        rw [hy.out] at h1
        rw [hkk.out];exact Option.some.inj h1
      obtain ⟨v,rfl,hRd,hLn⟩:=hR
      have g0:wr.cell? ⟨g,off+k * 2,none⟩=some (.slice v.A v.n v.c):=hc 0 _ rfl
      have g1:wr.cell? ⟨g,off+k * 2+1,none⟩=some (.string (markTxt (kk+(cntF x.factors:Int)))):=hc 1 _ rfl
      clear hc hy
      have hfew:=few_Ro (Nat.le_trans (mem_bulk (c:=Robot.num) (List.mem_of_getElem? hx.out)) HM.out)
      have hcx:=Lib.hid (sum_take (c:=Robot.cnt) hx)
      have hcl:=Lib.hid (sum_take_le (c:=Robot.cnt) (l:=l) (i:=k+1))
      have hcf:=cntF_few hfew
      have z0:(0:Int)≤(k:Int):=by omega
      have z1:(k:Int) < (n:Int):=by omega
      have hnn:¬ (kk+(cntF x.factors:Int)) < 0:=by omega
      go_wp2_with fail
      refine Calls.mono (heldFactorS_k v x.factors kk _ hkk0 (by omega) hfew ?_) ?_
      · exact hRd
      rintro e w1 ⟨rfl,hb1⟩
      have g1:w1.cell? ⟨g,off+k * 2+1,none⟩=some (.string (markTxt (kk+(cntF x.factors:Int)))):=bCell hb1 g1
      have hb:=bTrans hb hb1
      go_wp2_with fail
      go_region_held3 (fun w'=>w'.cell? ⟨g,off+k * 2+1,none⟩=some (.string (markTxt (kk+(cntF x.factors:Int))))) (first | go_keep | ((repeat' apply And.intro) <;> exact bCell hb2 (by assumption))) ((go_at_call 115;refine (markText_c _ _ (MI.of (by omega))).mono ?_;rintro e w2 ⟨rfl,hb2⟩))
      have hb:=bTrans (bDrew hb) hb2
      go_wp2_with fail
      go_roundw
      case rel=>exact ⟨k+1,kk+(cntF x.factors:Int)+1,by omega,by go_num,by go_num,by have:=hkk.out;have:=hcx.out;unfold Robot.cnt at *;unfold Hid;push_cast at *;omega,by omega,by have:=hkk.out;have:=hcx.out;have:=hcl.out;have:=HC.out;unfold Robot.cnt at *;push_cast at *;omega,hb⟩
      case measure=>simp [intOf];omega
    · have hsf:=Lib.hid (sum_full (c:=Robot.cnt) hlc hlt)
      go_wp2
      go_ret
      exact ⟨by rw [hkk.out,hsf.out];rfl,hb⟩
structure ApC (v:CV):Prop where
  qi:∀ k∈obl v.q.A,k ∉ obl v.i.A
  qn:∀ k∈obl v.q.A,k ∉ obl v.n.A
  qa:∀ k∈obl v.q.A,k ∉ obl v.a.A
  ij:∀ k∈obl v.i.A,k ∉ obl v.n.A
  ia:∀ k∈obl v.i.A,k ∉ obl v.a.A
  na:∀ k∈obl v.n.A,k ∉ obl v.a.A
theorem apC_of {v:CV} (h:(fpC v).Nodup):ApC v:=by
  simp only [fpC,List.nodup_append,List.mem_append] at h
  obtain ⟨_,⟨_,⟨_,_,d2⟩,d1⟩,d0⟩:=h
  exact ⟨fun k a b=>d0 k a k (.inl b) rfl,fun k a b=>d0 k a k (.inr (.inl b)) rfl,fun k a b=>d0 k a k (.inr (.inr b)) rfl,fun k a b=>d1 k a k (.inl b) rfl,fun k a b=>d1 k a k (.inr b) rfl,fun k a b=>d2 k a k b rfl⟩
theorem back {f g:List Nat} (h:∀ k∈f,k ∉ g):∀ k∈g,k ∉ f:=fun k hk hf=>h k hf hk
theorem obl_nd (A:Option Addr):(obl A).Nodup:=by unfold obl;cases ob A <;> simp
theorem notfp {v:CV} {g:Nat} (h:g ∉ fpC v):g ∉ obl v.q.A∧g ∉ obl v.i.A∧g ∉ obl v.n.A∧g ∉ obl v.a.A:=by simpa [fpC] using h
theorem not1 {g:Nat} {f:List Nat} (h:g ∉ f):∀ q∈f,q ∉ [g]:=fun q hq hm=>by simp at hm;subst hm;exact h hq
theorem cnt_chan (c:Chan):(Chan.cnt c:Int)=cntS c.queue+1+1+cntS c.inbox+cntK c.net+cntK c.acks:=by unfold Chan.cnt;push_cast;omega
theorem markChannelS_k (A:Option Addr) (n c:Nat) (fs:List Nat) (l:List Chan) (k0:Int) (w:World) (hk0:0≤k0) (hk1:k0≤3000000000) (hm:sumBulk Chan.num l≤4194304) (ho:OwSl KCe w fs 84 6 A n c l) (hnd:fs.Nodup) :
    Calls Tryz.prog 116 #[.slice A n c,.int .i64 k0] w fun e w'=>e=rInt (k0+(sumBulk Chan.cnt l:Nat))∧OwSl KCe w' fs 84 6 A n c (mkAll Chan.cnt Chan.mk_ k0 l)∧Upd fs w w':=by
  have hlc:=ho.len
  have hcn:sumBulk Chan.cnt l≤33554432:=by have:=cnt_Ce l;omega
  have hn:n≤4194304:=by have:=hlc.out;have:=sum_one (c:=Chan.num) (fun x=>by unfold Chan.num;omega) l;omega
  have HM:=Lib.hid hm
  have HC:=Lib.hid hcn
  clear hm hcn
  go_enter Tryz.func116,Tryz.ntmps116
  go_wp2
  go_loopw [1,5] (fun q i wr=>∃ (k:Nat) (kk:Int),k≤n∧i=.int .i64 k∧q=.int .i64 kk∧Hid (kk=k0+(sumBulk Chan.cnt (l.take k):Nat))∧0≤kk∧kk≤3100000000∧OwSl KCe wr fs 84 6 A n c (MkU Chan.cnt Chan.mk_ k0 l k)∧Upd fs w wr) (fun _ i _=>n - (intOf i).toNat)
  case atStart=>exact ⟨0,k0,by omega,rfl,rfl,by simp [Hid,sumBulk],hk0,by omega,by rw [MkU.zero];exact ho,Upd.refl _ _⟩
  case round =>
    obtain ⟨k,kk,hk,rfl,rfl,hkk,hkk0,hkk1,hown,hup⟩:=hrel
    by_cases hlt:k < n
    · obtain ⟨x,hx⟩:=at_of hlc hlt
      obtain ⟨css,f,cs,g,hown,hcs,hK,rfl,hgf,hgm,hsub,hfn,hback⟩:=hown.focus loc_Ce hnd (MkU.at_ _ _ hx)
      obtain ⟨v,rfl,hOC,rfl⟩:=hK
      have hgl:g < wr.heap.size:=(hown.lt g rfl).2
      have hfew:=few_Ce (Nat.le_trans (mem_bulk (c:=Chan.num) (List.mem_of_getElem? hx.out)) HM.out)
      have hcx:=Lib.hid (sum_take (c:=Chan.cnt) hx)
      have hcl:=Lib.hid (sum_take_le (c:=Chan.cnt) (l:=l) (i:=k+1))
      obtain ⟨o0,o1,o2,o3⟩:=hOC
      have AP:=apC_of hfn
      obtain ⟨gq,gi,gn,ga⟩:=notfp hgf
      have hcq:=cntS_few (show fewS x.queue from hfew.1)
      have hci:=cntS_few (show fewS x.inbox from hfew.2.1)
      have hcn:=cntK_few (show fewK x.net from hfew.2.2.1)
      have hca:=cntK_few (show fewK x.acks from hfew.2.2.2)
      have g0:wr.cell? ⟨g,k * 6,none⟩=some (.slice v.q.A v.q.n v.q.c):=own_cells hown hcs 0 _ rfl
      go_wp2_with fail
      refine Calls.mono (markStringS_k v.q x.queue kk _ hkk0 (by omega) hfew.1 ?_ (obl_nd _)) ?_
      · exact o0
      rintro e w2 ⟨rfl,p0,hu2⟩
      have hown:=hown.upd hu2 (apart1 gq)
      have o1:=o1.upd hu2 (back AP.qi)
      have o2:=o2.upd hu2 (back AP.qn)
      have o3:=o3.upd hu2 (back AP.qa)
      clear g0
      have tok:True:=trivial
      go_wp2_with (first
        | (have _t:=tok;refine wpList_store_cell rfl _ _ _ rfl 0 84 6 n c g k 1 _ (by omega) (by omega) _ _ rfl (.int .i64 (kk+(cntS x.queue:Int))) rfl rfl rfl sz_int hown hcs ?_;clear hown hcs tok _t;intro w3 hown hcs hg3;have tok2:True:=trivial)
        | (have _t:=tok2;refine wpList_store_cell rfl _ _ _ rfl 0 84 6 n c g k 2 _ (by omega) (by omega) _ _ rfl (.int .i64 (kk+(cntS x.queue:Int)+1)) rfl rfl rfl sz_int hown hcs ?_;clear hown hcs tok2 _t;intro w4 hown hcs hg4;have g3:w4.cell? ⟨g,k * 6+3,none⟩=some (.slice v.i.A v.i.n v.i.c):=own_cells hown hcs 3 _ rfl))
      have hu4:Upd [g] w2 w4:=(upd1 hg3).trans (upd1 hg4)
      have p0:=p0.upd hu4 (not1 gq)
      have o1:=o1.upd hu4 (not1 gi)
      have o2:=o2.upd hu4 (not1 gn)
      have o3:=o3.upd hu4 (not1 ga)
      refine Calls.mono (markStringS_k v.i x.inbox _ _ (by omega) (by omega) hfew.2.1 ?_ (obl_nd _)) ?_
      · exact o1
      rintro e w5 ⟨rfl,p1,hu5⟩
      have hown:=hown.upd hu5 (apart1 gi)
      have p0:=p0.upd hu5 AP.qi
      have o2:=o2.upd hu5 (back AP.ij)
      have o3:=o3.upd hu5 (back AP.ia)
      have g4:w5.cell? ⟨g,k * 6+4,none⟩=some (.slice v.n.A v.n.n v.n.c):=own_cells hown hcs 4 _ rfl
      clear g3
      go_wp2_with fail
      refine Calls.mono (markPacketS_k v.n x.net _ _ (by omega) (by omega) hfew.2.2.1 ?_ (obl_nd _)) ?_
      · exact o2
      rintro e w6 ⟨rfl,p2,hu6⟩
      have hown:=hown.upd hu6 (apart1 gn)
      have p0:=p0.upd hu6 AP.qn
      have p1:=p1.upd hu6 AP.ij
      have o3:=o3.upd hu6 (back AP.na)
      have g5:w6.cell? ⟨g,k * 6+5,none⟩=some (.slice v.a.A v.a.n v.a.c):=own_cells hown hcs 5 _ rfl
      clear g4
      go_wp2_with fail
      refine Calls.mono (markPacketS_k v.a x.acks _ _ (by omega) (by omega) hfew.2.2.2 ?_ (obl_nd _)) ?_
      · exact o3
      rintro e w7 ⟨rfl,p3,hu7⟩
      have hown:=hown.upd hu7 (apart1 ga)
      have p0:=p0.upd hu7 AP.qa
      have p1:=p1.upd hu7 AP.ia
      have p2:=p2.upd hu7 AP.na
      clear g5
      have sub:∀ (j:List Nat),(∀ q∈j,q∈fpC v)→∀ q∈j,q∈g :: fpC v:=fun j h q hq=>List.mem_cons_of_mem _ (h q hq)
      have hUU:Upd (g :: fpC v) wr w7:=((((hu2.mono (sub _ fun q hq=>by unfold fpS at hq;simp [fpC,hq])).trans (hu4.mono fun q hq=>by simp at hq;subst hq;simp)).trans (hu5.mono (sub _ fun q hq=>by unfold fpS at hq;simp [fpC,hq]))).trans (hu6.mono (sub _ fun q hq=>by unfold fpK at hq;simp [fpC,hq]))).trans (hu7.mono (sub _ fun q hq=>by unfold fpK at hq;simp [fpC,hq]))
      rw [List.set_set] at hown
      have hfin:=hback w7 _ (Chan.mk_ kk x) hown ⟨v,rfl,⟨p0,p1,p2,p3⟩,rfl⟩ hUU
      rw [hkk.out,MkU.next _ _ hx] at hfin
      have hup7:Upd fs w w7:=hup.trans (hUU.mono fun q hq=>by rcases List.mem_cons.1 hq with rfl | hq;exact hgm;exact hsub q hq)
      have hcc:=cnt_chan x
      go_wp2_with fail
      go_roundw
      case rel=>exact ⟨k+1,kk+(cntS x.queue:Int)+1+1+(cntS x.inbox:Int)+(cntK x.net:Int)+(cntK x.acks:Int),by omega,by go_num,by go_num,by have:=hkk.out;have:=hcx.out;unfold Hid;push_cast at *;omega,by omega,by have:=hkk.out;have:=hcx.out;have:=hcl.out;have:=HC.out;push_cast at *;omega,hfin,hup7⟩
      case measure=>simp [intOf];omega
    · rw [MkU.full _ _ hlc hlt] at hown
      have hsf:=Lib.hid (sum_full (c:=Chan.cnt) hlc hlt)
      go_wp2
      go_ret
      exact ⟨by rw [hkk.out,hsf.out];rfl,hown,hup⟩
theorem heldChannelS_k (A:Option Addr) (n c:Nat) (l:List Chan) (k0:Int) (w:World) (hk0:0≤k0) (hk1:k0≤3000000000) (hm:sumBulk Chan.num l≤4194304) (hr:RdSl RdCe w A n 6 (mkAll Chan.cnt Chan.mk_ k0 l)) :
    Calls Tryz.prog 118 #[.slice A n c,.int .i64 k0] w fun e w'=>e=rInt (k0+(sumBulk Chan.cnt l:Nat))∧Below w.heap.size w w':=by
  have hlc:Hid (l.length=n):=by have:=hr.len.out;rwa [mkAll_len] at this
  have hcn:sumBulk Chan.cnt l≤33554432:=by have:=cnt_Ce l;omega
  have hn:n≤4194304:=by have:=hlc.out;have:=sum_one (c:=Chan.num) (fun x=>by unfold Chan.num;omega) l;omega
  have HM:=Lib.hid hm
  have HC:=Lib.hid hcn
  clear hm hcn
  go_enter Tryz.func118,Tryz.ntmps118
  go_wp2
  go_loopw [1,5] (fun q i wr=>∃ (k:Nat) (kk:Int),k≤n∧i=.int .i64 k∧q=.int .i64 kk∧Hid (kk=k0+(sumBulk Chan.cnt (l.take k):Nat))∧0≤kk∧kk≤3100000000∧Below w.heap.size w wr) (fun _ i _=>n - (intOf i).toNat)
  case atStart=>exact ⟨0,k0,by omega,rfl,rfl,by simp [Hid,sumBulk],hk0,by omega,Below.refl _ _⟩
  case round =>
    obtain ⟨k,kk,hk,rfl,rfl,hkk,hkk0,hkk1,hb⟩:=hrel
    by_cases hlt:k < n
    · obtain ⟨x,hx⟩:=at_of hlc hlt
      obtain ⟨y,cs,g,off,hy,rfl,hR,hc⟩:=RdSl.at_ (RdSl.below (R:=RdCe) RdCe.below hr hb) hlt
      obtain rfl:y=Chan.mk_ kk x:=by
        have h1:=mkAll_at Chan.cnt Chan.mk_ k0 l k x hx.out
        rw [hy.out] at h1
        rw [hkk.out];exact Option.some.inj h1
      obtain ⟨v,rfl,hRd,hLn⟩:=hR
      obtain ⟨r0,r1,r2,r3⟩:=hRd
      have g0:wr.cell? ⟨g,off+k * 6,none⟩=some (.slice v.q.A v.q.n v.q.c):=hc 0 _ rfl
      have g1:wr.cell? ⟨g,off+k * 6+1,none⟩=some (.int .i64 (kk+(cntS x.queue:Int))):=hc 1 _ rfl
      have g2:wr.cell? ⟨g,off+k * 6+2,none⟩=some (.int .i64 (kk+(cntS x.queue:Int)+1)):=hc 2 _ rfl
      have g3:wr.cell? ⟨g,off+k * 6+3,none⟩=some (.slice v.i.A v.i.n v.i.c):=hc 3 _ rfl
      have g4:wr.cell? ⟨g,off+k * 6+4,none⟩=some (.slice v.n.A v.n.n v.n.c):=hc 4 _ rfl
      have g5:wr.cell? ⟨g,off+k * 6+5,none⟩=some (.slice v.a.A v.a.n v.a.c):=hc 5 _ rfl
      clear hc hy
      have hfew:=few_Ce (Nat.le_trans (mem_bulk (c:=Chan.num) (List.mem_of_getElem? hx.out)) HM.out)
      have hcx:=Lib.hid (sum_take (c:=Chan.cnt) hx)
      have hcl:=Lib.hid (sum_take_le (c:=Chan.cnt) (l:=l) (i:=k+1))
      have hcq:=cntS_few (show fewS x.queue from hfew.1)
      have hci:=cntS_few (show fewS x.inbox from hfew.2.1)
      have hcn:=cntK_few (show fewK x.net from hfew.2.2.1)
      have hca:=cntK_few (show fewK x.acks from hfew.2.2.2)
      have n0:¬ kk+(cntS x.queue:Int) < 0:=by omega
      have n1:¬ kk+(cntS x.queue:Int)+1+1+(cntS x.inbox:Int) < 0:=by omega
      have n2:¬ kk+(cntS x.queue:Int)+1+1+(cntS x.inbox:Int)+(cntK x.net:Int) < 0:=by omega
      have n3:¬ kk+(cntS x.queue:Int)+1+1+(cntS x.inbox:Int)+(cntK x.net:Int)+(cntK x.acks:Int) < 0:=by omega
      go_wp2_with fail
      refine Calls.mono (heldStringS_k v.q x.queue kk _ hkk0 (by omega) hfew.1 ?_) ?_
      · exact r0
      rintro e w1 ⟨rfl,hb1⟩
      have g1:=bCell hb1 g1
      have g2:=bCell hb1 g2
      have g3:=bCell hb1 g3
      have g4:=bCell hb1 g4
      have g5:=bCell hb1 g5
      go_wp2_with fail
      refine Calls.mono (heldStringS_k v.i x.inbox _ _ (by omega) (by omega) hfew.2.1 ?_) ?_
      · exact r1.below hb1
      rintro e w2 ⟨rfl,hb2⟩
      have g4:=bCell hb2 g4
      have g5:=bCell hb2 g5
      go_wp2_with fail
      refine Calls.mono (heldPacketS_k v.n x.net _ _ (by omega) (by omega) hfew.2.2.1 ?_) ?_
      · exact (r2.below hb1).below hb2
      rintro e w3 ⟨rfl,hb3⟩
      have g5:=bCell hb3 g5
      go_wp2_with fail
      refine Calls.mono (heldPacketS_k v.a x.acks _ _ (by omega) (by omega) hfew.2.2.2 ?_) ?_
      · exact ((r3.below hb1).below hb2).below hb3
      rintro e w4 ⟨rfl,hb4⟩
      have hb:=bTrans (bTrans (bTrans (bTrans hb hb1) hb2) hb3) hb4
      have hcc:=cnt_chan x
      go_wp2_with fail
      go_roundw
      case rel=>exact ⟨k+1,kk+(cntS x.queue:Int)+1+1+(cntS x.inbox:Int)+(cntK x.net:Int)+(cntK x.acks:Int),by omega,by go_num,by go_num,by have:=hkk.out;have:=hcx.out;unfold Hid;push_cast at *;omega,by omega,by have:=hkk.out;have:=hcx.out;have:=hcl.out;have:=HC.out;push_cast at *;omega,hb⟩
      case measure=>simp [intOf];omega
    · have hsf:=Lib.hid (sum_full (c:=Chan.cnt) hlc hlt)
      go_wp2
      go_ret
      exact ⟨by rw [hkk.out,hsf.out];rfl,hb⟩
theorem markChannelSS_k (A:Option Addr) (n c:Nat) (fs:List Nat) (l:List (List Chan)) (k0:Int) (w:World) (hk0:0≤k0) (hk1:k0≤2000000000) (hm:sumBulk numCs l≤4194304) (ho:OwSl KCs w fs 71 1 A n c l) (hnd:fs.Nodup) :
    Calls Tryz.prog 65 #[.slice A n c,.int .i64 k0] w fun e w'=>e=rInt (k0+(sumBulk cntCs l:Nat))∧OwSl KCs w' fs 71 1 A n c (mkAll cntCs mkCs k0 l)∧Upd fs w w':=by
  have hlc:=ho.len
  have hcn:sumBulk cntCs l≤33554432:=by have:=cnt_Cs l;omega
  have hn:n≤4194304:=by have:=hlc.out;have:=sum_one (c:=numCs) (fun x=>by unfold numCs;omega) l;omega
  have HM:=Lib.hid hm
  have HC:=Lib.hid hcn
  clear hm hcn
  go_enter Tryz.func65,Tryz.ntmps65
  go_wp2
  go_loopw [1,5] (fun q i wr=>∃ (k:Nat) (kk:Int),k≤n∧i=.int .i64 k∧q=.int .i64 kk∧Hid (kk=k0+(sumBulk cntCs (l.take k):Nat))∧0≤kk∧kk≤2100000000∧OwSl KCs wr fs 71 1 A n c (MkU cntCs mkCs k0 l k)∧Upd fs w wr) (fun _ i _=>n - (intOf i).toNat)
  case atStart=>exact ⟨0,k0,by omega,rfl,rfl,by simp [Hid,sumBulk],hk0,by omega,by rw [MkU.zero];exact ho,Upd.refl _ _⟩
  case round =>
    obtain ⟨k,kk,hk,rfl,rfl,hkk,hkk0,hkk1,hown,hup⟩:=hrel
    by_cases hlt:k < n
    · obtain ⟨x,hx⟩:=at_of hlc hlt
      obtain ⟨css,f,cs,g,hown,hcs,hK,rfl,hgf,hgm,hsub,hfn,hback⟩:=hown.focus loc_Cs hnd (MkU.at_ _ _ hx)
      obtain ⟨v,rfl,hOC⟩:=hK
      have hgl:g < wr.heap.size:=(hown.lt g rfl).2
      have hfew:=few_Cs (Nat.le_trans (mem_bulk (c:=numCs) (List.mem_of_getElem? hx.out)) HM.out)
      have hcx:=Lib.hid (sum_take (c:=cntCs) hx)
      have hcl:=Lib.hid (sum_take_le (c:=cntCs) (l:=l) (i:=k+1))
      have g0:wr.cell? ⟨g,k,none⟩=some (.slice v.A v.n v.c):=by simpa using own_cells hown hcs 0 _ rfl
      go_wp2_with fail
      refine Calls.mono (markChannelS_k v.A v.n v.c f x kk _ hkk0 (by omega) hfew ?_ hfn) ?_
      · exact hOC
      rintro e w2 ⟨rfl,hOC2,hu2⟩
      have hown2:=hown.upd hu2 (apart1 hgf)
      have hset:css.set k [.slice v.A v.n v.c]=css:=by
        obtain ⟨hkl,he⟩:=List.getElem?_eq_some_iff.1 hcs
        rw [← he];exact List.set_getElem_self hkl
      have hUU:Upd (g :: f) wr w2:=hu2.mono fun q hq=>List.mem_cons_of_mem _ hq
      have hfin:=hback w2 [.slice v.A v.n v.c] (mkCs kk x) (by rw [hset];exact hown2) ⟨v,rfl,hOC2⟩ hUU
      rw [hkk.out,MkU.next _ _ hx] at hfin
      have hup4:Upd fs w w2:=hup.trans (hUU.mono fun q hq=>by rcases List.mem_cons.1 hq with rfl | hq;exact hgm;exact hsub q hq)
      go_wp2_with fail
      go_roundw
      case rel=>exact ⟨k+1,kk+(sumBulk Chan.cnt x:Nat),by omega,by go_num,by go_num,by have:=hkk.out;have:=hcx.out;unfold cntCs at *;unfold Hid;push_cast at *;omega,by omega,by have:=hkk.out;have:=hcx.out;have:=hcl.out;have:=HC.out;unfold cntCs at *;push_cast at *;omega,hfin,hup4⟩
      case measure=>simp [intOf];omega
    · rw [MkU.full _ _ hlc hlt] at hown
      have hsf:=Lib.hid (sum_full (c:=cntCs) hlc hlt)
      go_wp2
      go_ret
      exact ⟨by rw [hkk.out,hsf.out];rfl,hown,hup⟩
theorem heldChannelSS_k (A:Option Addr) (n c:Nat) (l:List (List Chan)) (k0:Int) (w:World) (hk0:0≤k0) (hk1:k0≤2000000000) (hm:sumBulk numCs l≤4194304) (hr:RdSl RdCs w A n 1 (mkAll cntCs mkCs k0 l)) :
    Calls Tryz.prog 67 #[.slice A n c,.int .i64 k0] w fun e w'=>e=rInt (k0+(sumBulk cntCs l:Nat))∧Below w.heap.size w w':=by
  have hlc:Hid (l.length=n):=by have:=hr.len.out;rwa [mkAll_len] at this
  have hcn:sumBulk cntCs l≤33554432:=by have:=cnt_Cs l;omega
  have hn:n≤4194304:=by have:=hlc.out;have:=sum_one (c:=numCs) (fun x=>by unfold numCs;omega) l;omega
  have HM:=Lib.hid hm
  have HC:=Lib.hid hcn
  clear hm hcn
  go_enter Tryz.func67,Tryz.ntmps67
  go_wp2
  go_loopw [1,5] (fun q i wr=>∃ (k:Nat) (kk:Int),k≤n∧i=.int .i64 k∧q=.int .i64 kk∧Hid (kk=k0+(sumBulk cntCs (l.take k):Nat))∧0≤kk∧kk≤2100000000∧Below w.heap.size w wr) (fun _ i _=>n - (intOf i).toNat)
  case atStart=>exact ⟨0,k0,by omega,rfl,rfl,by simp [Hid,sumBulk],hk0,by omega,Below.refl _ _⟩
  case round =>
    obtain ⟨k,kk,hk,rfl,rfl,hkk,hkk0,hkk1,hb⟩:=hrel
    by_cases hlt:k < n
    · obtain ⟨x,hx⟩:=at_of hlc hlt
      obtain ⟨y,cs,g,off,hy,rfl,hR,hc⟩:=RdSl.at_ (RdSl.below (R:=RdCs) RdCs.below hr hb) hlt
      obtain rfl:y=mkCs kk x:=by
        have h1:=mkAll_at cntCs mkCs k0 l k x hx.out
        rw [hy.out] at h1
        rw [hkk.out];exact Option.some.inj h1
      obtain ⟨v,rfl,hRd,hLn⟩:=hR
      have g0:wr.cell? ⟨g,off+k,none⟩=some (.slice v.A v.n v.c):=by simpa using hc 0 _ rfl
      clear hc hy
      have hfew:=few_Cs (Nat.le_trans (mem_bulk (c:=numCs) (List.mem_of_getElem? hx.out)) HM.out)
      have hcx:=Lib.hid (sum_take (c:=cntCs) hx)
      have hcl:=Lib.hid (sum_take_le (c:=cntCs) (l:=l) (i:=k+1))
      have hnn:¬ (kk+((sumBulk Chan.cnt x:Nat):Int)) < 0:=by omega
      go_wp2_with fail
      refine Calls.mono (heldChannelS_k v.A v.n v.c x kk _ hkk0 (by omega) hfew ?_) ?_
      · exact hRd
      rintro e w1 ⟨rfl,hb1⟩
      have hb:=bTrans hb hb1
      go_wp2_with fail
      go_roundw
      case rel=>exact ⟨k+1,kk+(sumBulk Chan.cnt x:Nat),by omega,by go_num,by go_num,by have:=hkk.out;have:=hcx.out;unfold cntCs at *;unfold Hid;push_cast at *;omega,by omega,by have:=hkk.out;have:=hcx.out;have:=hcl.out;have:=HC.out;unfold cntCs at *;push_cast at *;omega,hb⟩
      case measure=>simp [intOf];omega
    · have hsf:=Lib.hid (sum_full (c:=cntCs) hlc hlt)
      go_wp2
      go_ret
      exact ⟨by rw [hkk.out,hsf.out];rfl,hb⟩
theorem markTeam_k (v:TV) (t:Team) (k0:Int) (w:World) (hk0:0≤k0) (hk1:k0≤1000000000) (hm:fewT t) (ho:OwT w v t) (hnd:(fpT v).Nodup) :
    Calls Tryz.prog 23 #[vTeam v,.int .i64 k0] w fun e w'=>e=rInt (k0+cntT t)∧OwT w' v (mkT k0 t)∧Upd (fpT v) w w':=by
  have m0:sumBulk Robot.num t.robots≤4194304:=by unfold fewT numT at hm;omega
  have m1:sumBulk numCs t.channels≤4194304:=by unfold fewT numT at hm;omega
  have hcf:=cnt_Ro t.robots
  have hlt:=ho.lt
  obtain ⟨o0,o1⟩:=ho
  obtain ⟨n0,n1,d0⟩:=List.nodup_append.1 hnd
  have z0:=o0.lt loc_Ro
  have z1:=o1.lt loc_Cs
  go_enter Tryz.func23,Tryz.ntmps23
  go_wp2_with fail
  refine Calls.mono (markRobotS_k v.r.A v.r.n v.r.c v.fr t.robots k0 _ hk0 (by omega) m0 ?_ n0) ?_
  · exact o0.below loc_Ro (bAlloc (Below.refl _ _) _)
  rintro e w1 ⟨rfl,p0,u0⟩
  have o1:=(o1.below loc_Cs (bAlloc (Below.refl _ _) _)).upd loc_Cs u0 (fun k hk hm=>d0 k hm k hk rfl)
  have hz:w.heap.size+1≤w1.heap.size:=by have:=u0.size;simp at this;omega
  have kk0:=uBox u0 w.heap.size (by simp) (fun hm=>by have:=z0 _ hm;omega)
  go_wp2_with fail
  refine Calls.mono (markChannelSS_k v.c.A v.c.n v.c.c v.fc t.channels _ _ (by omega) (by omega) m1 ?_ n1) ?_
  · exact o1
  rintro e w2 ⟨rfl,p1,u1⟩
  have p0:=p0.upd loc_Ro u1 (fun k hk hm=>d0 k hk k hm rfl)
  go_wp2_with fail
  go_ret
  exact ⟨ret_int (by unfold cntT;push_cast;omega),⟨p0,p1⟩,((Upd.of_below (bAlloc (Below.refl _ _) _)).trans (u0.mono fun k hk=>List.mem_append.2 (.inl hk))).trans (u1.mono fun k hk=>List.mem_append.2 (.inr hk))⟩
theorem heldTeam_k (v:TV) (t:Team) (k0:Int) (w:World) (hk0:0≤k0) (hk1:k0≤1000000000) (hm:fewT t) (hr:RdT w v (mkT k0 t)) :
    Calls Tryz.prog 24 #[vTeam v,.int .i64 k0] w fun e w'=>e=rInt (k0+cntT t)∧Below w.heap.size w w':=by
  have m0:sumBulk Robot.num t.robots≤4194304:=by unfold fewT numT at hm;omega
  have m1:sumBulk numCs t.channels≤4194304:=by unfold fewT numT at hm;omega
  have hcf:=cnt_Ro t.robots
  have hcg:=cnt_Cs t.channels
  obtain ⟨r0,r1⟩:=hr
  have n0:¬ k0+((sumBulk Robot.cnt t.robots:Nat):Int) < 0:=by omega
  have n1:¬ k0+((sumBulk Robot.cnt t.robots:Nat):Int)+((sumBulk cntCs t.channels:Nat):Int) < 0:=by omega
  go_enter Tryz.func24,Tryz.ntmps24
  go_wp2_with fail
  refine Calls.mono (heldRobotS_k v.r.A v.r.n v.r.c t.robots k0 _ hk0 (by omega) m0 ?_) ?_
  · exact RdSl.below (R:=RdRo) RdRo.below r0 (bAlloc (Below.refl _ _) _)
  rintro e w1 ⟨rfl,hb1⟩
  have H:=bTrans (bAlloc (Below.refl _ _) _) hb1
  have k1:=bBox hb1 w.heap.size (by simp)
  go_wp2_with fail
  refine Calls.mono (heldChannelSS_k v.c.A v.c.n v.c.c t.channels _ _ (by omega) (by omega) m1 ?_) ?_
  · exact RdSl.below (R:=RdCs) RdCs.below r1 H
  rintro e w2 ⟨rfl,hb2⟩
  go_wp2_with fail
  go_ret
  exact ⟨ret_int (by unfold cntT;push_cast;omega),bTrans H hb2⟩
end Go.Proofs.YtdfemnffpaopfaaGreatDoor
