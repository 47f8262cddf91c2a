/- Texts of this proof, one behind the other: RemS, TakeF, MergeI. -/
import Derived.Test.YtdfemnffpaopfaaGreatDoorGct13
import Derived.Test.YtdfemnffpaopfaaGreatDoorGct17
import Derived.Test.YtdfemnffpaopfaaGreatDoorGct40
namespace Go.Proofs.YtdfemnffpaopfaaGreatDoor
open Go.RowKit
set_option linter.unusedVariables false
set_option linter.unusedSimpArgs false
set_option maxHeartbeats 4000000
set_option maxRecDepth 100000

theorem spec_TakeInbox_f (v:CV) (c:Chan) (w:World) (hfw:fewC c) (hr:RdC w v c) :
    Calls Tryz.prog 125 #[vChan v c.base c.expected] w fun e w'=>TakePost w c e w':=by
  go_enter Tryz.func125,Tryz.ntmps125
  go_wp2_with fail
  refine Calls.mono (l29Copy_k v c _ hfw ?_) ?_
  · exact hr.below (bAlloc (bAlloc (Below.refl _ _) _) _)
  rintro e w1 ⟨v1,rfl,ho,hf,hb1⟩
  have H:=bTrans (bAlloc (bAlloc (Below.refl w.heap.size w) _) _) hb1
  have hz1:w.heap.size+2≤w1.heap.size:=bsz2 hb1
  have q0:w.heap.size < w1.heap.size:=by omega
  have q1:w.heap.size+1 < w1.heap.size:=by omega
  have kb10:=bBox hb1 (w.heap.size) (by first | (simp;done) | (simp;omega))
  have fb10:=bBoxF hb1 (w.heap.size) (by first | (simp;done) | (simp;omega))
  have kb11:=bBox hb1 (w.heap.size+1) (by first | (simp;done) | (simp;omega))
  have fb11:=bBoxF hb1 (w.heap.size+1) (by first | (simp;done) | (simp;omega))
  have hf':Fresh (w.heap.size+2) w1 (fpC v1):=hf.rebase (by simp)
  go_wp2_with fail
  refine bodyPost_ret (v:=.tuple #[vChan { v1 with i:=nilSv } (takeC c).base (takeC c).expected,.slice v1.i.A v1.i.n v1.i.c]) (by simp [*,takeC,nilSv,results,Tryz.results125,go_sem]) rfl ⟨_,_,rfl,?_⟩
  exact take_end [w.heap.size,w.heap.size+1,w1.heap.size] H ho hf' (by omega) (by repeat (first | with_reducible exact Upd.refl _ _ | with_reducible refine Upd.alloc_ ?_ _ | ((with_reducible refine Upd.set_in ?_ ?_ _);rotate_left;simp))) (by simp;omega)
theorem impl_TakeInbox_f (v:CV) (c:Chan) (w:World) (hfw:fewC c) (hr:RdC w v c) :
    Calls Tryz.prog 90 #[vChan v c.base c.expected] w fun e w'=>TakePost w c e w':=by
  go_enter Tryz.func90,Tryz.ntmps90
  go_wp2_with fail
  refine Calls.mono (copyChannel_k v c _ hfw ?_) ?_
  · exact hr.below (bAlloc (bAlloc (Below.refl _ _) _) _)
  rintro e w1 ⟨v1,rfl,ho,hf,hb1⟩
  have H:=bTrans (bAlloc (bAlloc (Below.refl w.heap.size w) _) _) hb1
  have hz1:w.heap.size+2≤w1.heap.size:=bsz2 hb1
  have q0:w.heap.size < w1.heap.size:=by omega
  have q1:w.heap.size+1 < w1.heap.size:=by omega
  have kb10:=bBox hb1 (w.heap.size) (by first | (simp;done) | (simp;omega))
  have fb10:=bBoxF hb1 (w.heap.size) (by first | (simp;done) | (simp;omega))
  have kb11:=bBox hb1 (w.heap.size+1) (by first | (simp;done) | (simp;omega))
  have fb11:=bBoxF hb1 (w.heap.size+1) (by first | (simp;done) | (simp;omega))
  have hf':Fresh (w.heap.size+2) w1 (fpC v1):=hf.rebase (by simp)
  have hbx:=Own.box (sz:=6) ((hb1.block w.heap.size (by simp;omega)).trans (box2 w _ _)) rfl
  have tok:True:=trivial
  go_wp2_with (have _t:=tok;refine wpList_store_elem rfl 84 (.tmp 1) (.tmp 6) rfl 0 84 6 1 1 w.heap.size 0 0 rfl _ rfl _ (cChan v1 c.base c.expected) rfl rfl rfl (one_of rfl) sz_Chan hbx (by omega) ?_;clear tok _t hbx;intro w2 hbx hg2;have u2:=upd1 hg2;have hz2:=hg2.size;have q2:w.heap.size+1 < w2.heap.size:=(by omega);have c0:=hbx.bcell 0 _ rfl;have c1:=hbx.bcell 1 _ rfl;have c2:=hbx.bcell 2 _ rfl;have c3:=hbx.bcell 3 _ rfl;have c4:=hbx.bcell 4 _ rfl;have c5:=hbx.bcell 5 _ rfl;have fz:=hbx.frozen rfl;have kb20:=uBox u2 (w.heap.size+1) (by omega) (by simp);have fb20:=uBoxF u2 (w.heap.size+1) (by omega) (by simp))
  refine bodyPost_ret (v:=.tuple #[vChan { v1 with i:=nilSv } (takeC c).base (takeC c).expected,.slice v1.i.A v1.i.n v1.i.c]) (by simp [*,takeC,nilSv,results,Tryz.results90,go_sem]) rfl ⟨_,_,rfl,?_⟩
  exact take_end [w.heap.size,w.heap.size+1] H ho hf' (by omega) ((u2.mono (by simp)).trans (by repeat (first | with_reducible exact Upd.refl _ _ | with_reducible refine Upd.alloc_ ?_ _ | ((with_reducible refine Upd.set_in ?_ ?_ _);rotate_left;simp)))) (by simp)
theorem impl_mergeBundle_y (v vb:Sv) (l:List Factor) (b:Bundle) (w:World) (hm:fewF l) (hs:smallFs l) (hmb:fewB b) (hsb:smallFs b.factors) (hr:RdF w v l) (hrb:RdB w vb b) :
    Calls Tryz.prog 92 #[.slice v.A v.n v.c,vBundle b.robot vb.A vb.n vb.c] w fun e w'=>∃ v1 v2:Sv,e=.returned (.tuple #[.slice v1.A v1.n v1.c,.slice v2.A v2.n v2.c])∧OwF w' v1 (mergeB l b.robot b.factors).1∧OwF w' v2 (mergeB l b.robot b.factors).2∧Fresh w.heap.size w' (fpF v1++fpF v2)∧Below w.heap.size w w':=by
  have hl:=hr.len
  have hlb:Hid (b.factors.length=vb.n):=hrb.len
  have hm1:v.n≤4194304:=by have:=hl.out;unfold fewF at hm;omega
  have hm2:vb.n≤4194304:=by have:=hlb.out;unfold fewB fewF at hmb;omega
  obtain ⟨i0,hii,hq0,hq1,hq2⟩:=info_parts info_Factor
  generalize hb1:isFL l=b1
  generalize hb2:isBundle b.robot b.factors=b2
  have HB1:=Lib.hid hb1
  have HB2:=Lib.hid hb2
  clear hb1 hb2
  go_enter Tryz.func92,Tryz.ntmps92
  go_wp2_with fail
  refine Calls.mono (copyFactors_k v l _ hm ?_) ?_
  · exact RdF.below hr (bAlloc (Below.refl _ _) _)
  rintro e w1 ⟨⟨A1,n1,c1⟩,rfl,ho1,hf1,hk1⟩
  have H:=bTrans (bAlloc (Below.refl w.heap.size w) _) hk1
  have k1:=bBox hk1 w.heap.size (by simp)
  have z1:=bsz1 hk1
  have hlo1:Hid (∀ q∈obl A1,w.heap.size+1≤q):=fun q hq=>by have h9:=hf1.lo q hq;simp at h9;omega
  have hhi1:Hid (∀ q∈obl A1,q < w1.heap.size):=hf1.hi
  have f1:=hf1.nodup
  clear hf1
  go_wp2_with fail
  refine Calls.mono (impl_IsFactorList_c v.A v.n v.c l _ hm1 (Row.below hr (bAlloc H _)) hs) ?_
  rintro e w2 ⟨rfl,hk2⟩
  rw [HB1.out]
  have H2:=bTrans (bAlloc H (.cells #[] 34)) hk2
  have k2:=bBox (bTrans (bAlloc (Below.refl _ _) _) hk2:Below w1.heap.size w1 w2) w.heap.size (by omega)
  have z2:=bsz1 hk2
  have ho1:=ho1.below (bTrans (bAlloc (Below.refl _ _) _) hk2)
  have ho2:Own w2 w.heap.size 34 8 (some ⟨w1.heap.size,0,none⟩) 0 0 []:=(made_any w1 w.heap.size 34 8 rfl H.size).below hk2
  cases b1
  · have E:=Lib.hid (mergeB_no (fs:=b.factors) (r:=b.robot) (.inl HB1.out))
    go_wp2_with fail
    go_ret2
    rw [E.out]
    exact ⟨⟨A1,n1,c1⟩,⟨some ⟨w1.heap.size,0,none⟩,0,0⟩,rfl,ho1,ho2.zero,fresh2 f1 hlo1.out ho1 ho2 (fun q hq e=>by simp [ob] at e;have:=hhi1.out q hq;omega),H2⟩
  go_wp2_with fail
  refine Calls.mono (impl_IsValidBundle_c b.robot vb.A vb.n vb.c b.factors _ hm2 (Row.below hrb H2) hsb) ?_
  rintro e w3 ⟨rfl,hk3⟩
  rw [HB2.out]
  have H3:=bTrans H2 hk3
  have k3:=bBox hk3 w.heap.size (by omega)
  have z3:w2.heap.size≤w3.heap.size:=hk3.size
  have ho1:=ho1.below hk3
  have ho2:=ho2.below hk3
  cases b2
  · have E:=Lib.hid (mergeB_no (l:=l) (.inr HB2.out))
    go_wp2_with fail
    go_ret2
    rw [E.out]
    exact ⟨⟨A1,n1,c1⟩,⟨some ⟨w1.heap.size,0,none⟩,0,0⟩,rfl,ho1,ho2.zero,fresh2 f1 hlo1.out ho1 ho2 (fun q hq e=>by simp [ob] at e;have:=hhi1.out q hq;omega),H3⟩
  have h4:=isBundle_len HB2.out
  have E:=Lib.hid (mergeB_yes HB1.out HB2.out)
  have hlb4:vb.n≤4:=by have:=hlb.out;omega
  go_wp2_with fail
  go_loopw [28,6,7,10,11] (fun i m' w2' x10 x11 wr=>∃ (k:Nat) (M:Sv) (A2:Option Addr) (n2 c2:Nat) (L1 L2:List Factor),k≤vb.n∧i=.int .i64 k∧m'=.slice M.A M.n M.c∧w2'=.slice A2 n2 c2∧OwF wr M L1∧(obl M.A).Nodup∧(∀ q∈obl M.A,w.heap.size+1≤q)∧Own wr w.heap.size 34 8 A2 n2 c2 (L2.map Factor.cells)∧(∀ q∈obl M.A,ob A2≠some q)∧MgInv l b.factors k L1 L2∧isFL L1=true∧smallFs L1∧L2.length≤k∧Below w.heap.size w wr) (fun i _ _ _ _ _=>vb.n - (intOf i).toNat)
  case atStart=>exact ⟨0,⟨A1,n1,c1⟩,some ⟨w1.heap.size,0,none⟩,0,0,l,[],by omega,rfl,rfl,rfl,ho1,f1,hlo1.out,ho2,fun q hq e=>by simp [ob] at e;have:=hhi1.out q hq;omega,MgInv.start l b.factors,HB1.out,hs,by simp,H3⟩
  case round =>
    obtain ⟨k,M,A2,n2,c2,L1,L2,hk,rfl,rfl,rfl,hoM,hnd,hlo,ho2r,hap,hi,hFL,hsm,hL2,hbr⟩:=hrel
    have Hr:=hbr
    have h2lt:=Lib.hid ho2r.lt
    have HLO:=Lib.hid hlo
    have zz:=Hr.size
    have HAP:=Lib.hid hap
    have HFL:=Lib.hid hFL
    have hfewM:fewF L1:=by have:=isFL_len HFL.out;unfold fewF;omega
    clear hlo hFL hap
    by_cases hlt:k < vb.n
    · obtain ⟨f,g,off,hf,hA,g0,g1,g2,g3,g4,g5,g6,g7⟩:=RowF.at_ (Row.below hrb Hr) hlt
      have hst:=Lib.hid (hi.step hf)
      clear hi
      have hsf:=hsb f (List.mem_of_getElem? hf.out)
      have hx0:(0:Int)≤(k:Int):=by omega
      have hx1:(k:Int) < (vb.n:Int):=by omega
      rw [hA]
      go_wp2_with fail
      refine Calls.mono (impl_AddFactor_k M L1 f _ hfewM hsm hsf (Own.slOk hoM) ?_) ?_
      · exact Row.below (OwF.rd hoM) (bAlloc (Below.refl _ _) _)
      rintro e w4 ⟨v4,rfl,ho4,hf4,hk4⟩
      have H4:=bTrans (bAlloc Hr _) hk4
      have H34:=bTrans (bAlloc hbr _) hk4
      have kw:=bBox hk4 wr.heap.size (by simp)
      have z4:=bsz1 hk4
      have hlo4:Hid (∀ q∈obl v4.A,wr.heap.size+1≤q):=fun q hq=>by have h9:=hf4.lo q hq;simp at h9;omega
      have hhi4:Hid (∀ q∈obl v4.A,q < w4.heap.size):=hf4.hi
      have fm4:=hf4.nodup
      clear hf4
      have ho2r:=ho2r.below (bTrans (bAlloc (Below.refl _ _) _) hk4)
      have hoM:=OwF.below hoM (bTrans (bAlloc (Below.refl _ _) _) hk4)
      generalize hok:(addF L1 f).2=ok
      have HOK:=Lib.hid hok
      clear hok
      rw [hA.symm]
      cases ok
      · have hn:=Lib.hid (hst.out.trans (mg_no HOK.out))
        go_wp2_with fail
        go_roundw
        case rel=>exact ⟨k+1,M,A2,n2,c2,L1,L2,by omega,by go_num,rfl,rfl,hoM,hnd,HLO.out,ho2r,HAP.out,hn.out,HFL.out,hsm,by omega,H34⟩
        case measure=>simp [intOf];omega
      · have hn:=Lib.hid (hst.out.trans (mg_yes HOK.out))
        go_wp2_with (at_builtin;refine wpList_append rfl (.tmp 40) (.tmp 42) 23 rfl w.heap.size 34 8 80 i0 _ Tryz.underlying23 hii hq0 hq1 hq2 rfl (by omega) A2 n2 c2 _ rfl (ho2r.alloc_ _) _ 1 1 [f.cells] rfl (Row.new1' _ _ f.cells 8 _ (by simp)) (by simp [Factor.cells]) (by simp [Factor.cells,Value.oneCell']) (by have h8:=ho2r.len;simp at h8;simp only [maxLen];omega) (by have h8:=ho2r.len;simp at h8;omega) (by have h8:=H4.size;simp;omega) ?_;intro A5 c5 w5 ho5 hg5 hat5)
        have ho5:Own w5 w.heap.size 34 8 A5 (n2+1) c5 ((L2++[f]).map Factor.cells):=by simpa using ho5
        have ho6:=OwF.upd ho4 ((Upd.of_below (bAlloc (Below.refl _ _) _)).trans (Upd.of_row hg5)) (fun q hq hm=>by have h8:=hlo4.out q hq;have h9:=(h2lt.out q (mem_obl.1 hm)).2;omega)
        have H5:=bGrown (bAlloc H34 _) hg5 (fun q hq=>(h2lt.out q hq).1)
        have hap5:∀ q∈obl v4.A,ob A5≠some q:=fun q hq e=>by
          rcases hat5 with h | h
          · rw [h] at e;have h8:=hlo4.out q hq;have h9:=(h2lt.out q e).2;omega
          · rw [h] at e;simp at e;have h8:=hhi4.out q hq;omega
        go_roundw
        case rel=>exact ⟨k+1,v4,A5,n2+1,c5,(addF L1 f).1,L2++[f],by omega,by go_num,rfl,rfl,ho6,fm4,fun q hq=>by have:=hlo4.out q hq;omega,ho5,hap5,hn.out,addF_fl HOK.out,addF_small hsm hsf,by simp;omega,H5⟩
        case measure=>simp [intOf];omega
    · have hfin:=Lib.hid ((E.out).trans (hi.done hlb hlt).out)
      go_wp2_with fail
      go_ret2
      rw [hfin.out]
      exact ⟨M,⟨A2,n2,c2⟩,rfl,hoM,ho2r.zero,fresh2 hnd HLO.out hoM ho2r HAP.out,Hr⟩
end Go.Proofs.YtdfemnffpaopfaaGreatDoor
