/- Texts of this proof, one behind the other: Add2, Merge, MergeI. -/
import Derived.Test.YtdfemnffpaopfaaGreatDoorGrs16
namespace Go.Proofs.YtdfemnffpaopfaaGreatDoor
open Go.RowKit
set_option linter.unusedVariables false
set_option linter.unusedSimpArgs false
set_option maxHeartbeats 2000000
set_option maxRecDepth 100000
theorem made_any (w:World) (B e sz:Nat) {a:Nat} (h:a=w.heap.size) (hB:B≤w.heap.size):Own (w.alloc (.cells #[] e)) B e sz (some ⟨a,0,none⟩) 0 0 []:=by subst h;exact Own.made0 w e sz hB
theorem mg_yes {L1 L2:List Factor} {f:Factor} (h:(addF L1 f).2=true):mergeStep (L1,L2) f=((addF L1 f).1,L2++[f]):=by simp [mergeStep,h]
theorem mg_no {L1 L2:List Factor} {f:Factor} (h:(addF L1 f).2=false):mergeStep (L1,L2) f=(L1,L2):=by simp [mergeStep,h]
theorem addF_fl {l:List Factor} {f:Factor} (h:(addF l f).2=true):isFL (addF l f).1=true:=by
  unfold addF at h ⊢
  split
  · rename_i hc;simp only [Bool.and_eq_true] at hc;exact hc.2
  · rename_i hc;rw [if_neg hc] at h;cases h
theorem addF_small {l:List Factor} {f:Factor} (hs:smallFs l) (hf:f.frm.size≤4194304∧f.to.size≤4194304):smallFs (addF l f).1:=by
  unfold addF;split
  · exact ins_small hs hf
  · exact hs
def MgInv (l fs:List Factor) (k:Nat) (L1 L2:List Factor):Prop:=(fs.take k).foldl mergeStep (l,[])=(L1,L2)
theorem MgInv.start (l fs:List Factor):MgInv l fs 0 l []:=rfl
theorem MgInv.step {l fs:List Factor} {k:Nat} {L1 L2:List Factor} {f:Factor} (h:MgInv l fs k L1 L2) (hf:Hid (fs[k]? = some f)):(fs.take (k+1)).foldl mergeStep (l,[])=mergeStep (L1,L2) f:=by
  obtain ⟨hk,rfl⟩:=List.getElem?_eq_some_iff.1 hf.out
  unfold MgInv at h
  rw [List.take_succ_eq_append_getElem hk,List.foldl_append,h]
  rfl
theorem MgInv.done {l fs:List Factor} {k n:Nat} {L1 L2:List Factor} (h:MgInv l fs k L1 L2) (hl:Hid (fs.length=n)) (hk:¬ k < n):Hid (fs.foldl mergeStep (l,[])=(L1,L2)):=by
  unfold MgInv at h
  rw [List.take_of_length_le (by have:=hl.out;omega)] at h
  exact h
theorem mergeB_no {l fs:List Factor} {r:Int} (h:isFL l=false∨isBundle r fs=false):mergeB l r fs=(l,[]):=by rcases h with h | h <;> simp [mergeB,h]
theorem mergeB_yes {l fs:List Factor} {r:Int} (h:isFL l=true) (h2:isBundle r fs=true):mergeB l r fs=fs.foldl mergeStep (l,[]):=by simp [mergeB,h,h2]
theorem fresh2 {w':World} {B e sz n2 c2:Nat} {M:Sv} {A2:Option Addr} {L1:List Factor} {css:List (List Value)} (hnd:(obl M.A).Nodup) (hlo:∀ q∈obl M.A,B+1≤q) (ho:OwF w' M L1) (ho2:Own w' B e sz A2 n2 c2 css)
    (hap:∀ q∈obl M.A,ob A2≠some q):Fresh B w' (fpF M++fpF ⟨A2,n2,c2⟩):=by
  have h2:=Fresh.obl_ ho2
  refine ⟨List.nodup_append.2 ⟨hnd,h2.nodup,fun a ha b hb e=>?_⟩,fun g hg=>?_,fun g hg=>?_⟩
  · subst e;exact hap a ha (mem_obl.1 hb)
  · rcases List.mem_append.1 hg with h | h
    · have:=hlo g h;omega
    · exact h2.lo g h
  · rcases List.mem_append.1 hg with h | h
    · exact OwF.lt ho g h
    · exact h2.hi g h
theorem isBundle_len {l:List Factor} {r:Int} (h:isBundle r l=true):l.length≤4:=by
  simp only [isBundle,Bool.and_eq_true] at h
  have:=inR_iff.1 h.2.1;omega
theorem merge_few:∀ (m l a:List Factor),isFL l=true→isFL (m.foldl mergeStep (l,a)).1=true
  | [],_,_,h=>h
  | f :: m,l,a,h=>by
    rw [List.foldl_cons]
    cases ho:(addF l f).2
    · rw [mg_no ho];exact merge_few m l a h
    · rw [mg_yes ho];exact merge_few m _ _ (addF_fl ho)
theorem impl_mergeBundle_y (v vb:Sv) (l:List Factor) (b:Bundle) (w:World) (hm:fewF l) (hs:smallFs l) (hmb:fewB b) (hsb:smallFs b.factors) (hr:RdF w v l) (hrb:RdB w vb b) :
    Calls Tryz.prog 92 #[.slice v.A v.n v.c,vBundle b.robot vb.A vb.n vb.c] w fun e w'=>∃ v1 v2:Sv,e=.returned (.tuple #[.slice v1.A v1.n v1.c,.slice v2.A v2.n v2.c])∧OwF w' v1 (mergeB l b.robot b.factors).1∧OwF w' v2 (mergeB l b.robot b.factors).2∧Fresh w.heap.size w' (fpF v1++fpF v2)∧Below w.heap.size w w':=by
  have hl:=hr.len
  have hlb:Hid (b.factors.length=vb.n):=hrb.len
  have hm1:v.n≤4194304:=by have:=hl.out;unfold fewF at hm;omega
  have hm2:vb.n≤4194304:=by have:=hlb.out;unfold fewB fewF at hmb;omega
  obtain ⟨i0,hii,hq0,hq1,hq2⟩:=info_parts info_Factor
  generalize hb1:isFL l=b1
  generalize hb2:isBundle b.robot b.factors=b2
  have HB1:=Lib.hid hb1
  have HB2:=Lib.hid hb2
  clear hb1 hb2
  go_enter Tryz.func92,Tryz.ntmps92
  go_wp2_with fail
  refine Calls.mono (copyFactors_k v l _ hm ?_) ?_
  · exact RdF.below hr (bAlloc (Below.refl _ _) _)
  rintro e w1 ⟨⟨A1,n1,c1⟩,rfl,ho1,hf1,hk1⟩
  have H:=bTrans (bAlloc (Below.refl w.heap.size w) _) hk1
  have k1:=bBox hk1 w.heap.size (by simp)
  have z1:=bsz1 hk1
  have hlo1:Hid (∀ q∈obl A1,w.heap.size+1≤q):=fun q hq=>by have h9:=hf1.lo q hq;simp at h9;omega
  have hhi1:Hid (∀ q∈obl A1,q < w1.heap.size):=hf1.hi
  have f1:=hf1.nodup
  clear hf1
  go_wp2_with fail
  refine Calls.mono (impl_IsFactorList_c v.A v.n v.c l _ hm1 (Row.below hr (bAlloc H _)) hs) ?_
  rintro e w2 ⟨rfl,hk2⟩
  rw [HB1.out]
  have H2:=bTrans (bAlloc H (.cells #[] 34)) hk2
  have k2:=bBox (bTrans (bAlloc (Below.refl _ _) _) hk2:Below w1.heap.size w1 w2) w.heap.size (by omega)
  have z2:=bsz1 hk2
  have ho1:=ho1.below (bTrans (bAlloc (Below.refl _ _) _) hk2)
  have ho2:Own w2 w.heap.size 34 8 (some ⟨w1.heap.size,0,none⟩) 0 0 []:=(made_any w1 w.heap.size 34 8 rfl H.size).below hk2
  cases b1
  · have E:=Lib.hid (mergeB_no (fs:=b.factors) (r:=b.robot) (.inl HB1.out))
    go_wp2_with fail
    go_ret2
    rw [E.out]
    exact ⟨⟨A1,n1,c1⟩,⟨some ⟨w1.heap.size,0,none⟩,0,0⟩,rfl,ho1,ho2.zero,fresh2 f1 hlo1.out ho1 ho2 (fun q hq e=>by simp [ob] at e;have:=hhi1.out q hq;omega),H2⟩
  go_wp2_with fail
  refine Calls.mono (impl_IsValidBundle_c b.robot vb.A vb.n vb.c b.factors _ hm2 (Row.below hrb H2) hsb) ?_
  rintro e w3 ⟨rfl,hk3⟩
  rw [HB2.out]
  have H3:=bTrans H2 hk3
  have k3:=bBox hk3 w.heap.size (by omega)
  have z3:w2.heap.size≤w3.heap.size:=hk3.size
  have ho1:=ho1.below hk3
  have ho2:=ho2.below hk3
  cases b2
  · have E:=Lib.hid (mergeB_no (l:=l) (.inr HB2.out))
    go_wp2_with fail
    go_ret2
    rw [E.out]
    exact ⟨⟨A1,n1,c1⟩,⟨some ⟨w1.heap.size,0,none⟩,0,0⟩,rfl,ho1,ho2.zero,fresh2 f1 hlo1.out ho1 ho2 (fun q hq e=>by simp [ob] at e;have:=hhi1.out q hq;omega),H3⟩
  have h4:=isBundle_len HB2.out
  have E:=Lib.hid (mergeB_yes HB1.out HB2.out)
  have hlb4:vb.n≤4:=by have:=hlb.out;omega
  go_wp2_with fail
  go_loopw [28,6,7,10,11] (fun i m' w2' x10 x11 wr=>∃ (k:Nat) (M:Sv) (A2:Option Addr) (n2 c2:Nat) (L1 L2:List Factor),k≤vb.n∧i=.int .i64 k∧m'=.slice M.A M.n M.c∧w2'=.slice A2 n2 c2∧OwF wr M L1∧(obl M.A).Nodup∧(∀ q∈obl M.A,w.heap.size+1≤q)∧Own wr w.heap.size 34 8 A2 n2 c2 (L2.map Factor.cells)∧(∀ q∈obl M.A,ob A2≠some q)∧MgInv l b.factors k L1 L2∧isFL L1=true∧smallFs L1∧L2.length≤k∧Below w.heap.size w wr) (fun i _ _ _ _ _=>vb.n - (intOf i).toNat)
  case atStart=>exact ⟨0,⟨A1,n1,c1⟩,some ⟨w1.heap.size,0,none⟩,0,0,l,[],by omega,rfl,rfl,rfl,ho1,f1,hlo1.out,ho2,fun q hq e=>by simp [ob] at e;have:=hhi1.out q hq;omega,MgInv.start l b.factors,HB1.out,hs,by simp,H3⟩
  case round =>
    obtain ⟨k,M,A2,n2,c2,L1,L2,hk,rfl,rfl,rfl,hoM,hnd,hlo,ho2r,hap,hi,hFL,hsm,hL2,hbr⟩:=hrel
    have Hr:=hbr
    have h2lt:=Lib.hid ho2r.lt
    have HLO:=Lib.hid hlo
    have zz:=Hr.size
    have HAP:=Lib.hid hap
    have HFL:=Lib.hid hFL
    have hfewM:fewF L1:=by have:=isFL_len HFL.out;unfold fewF;omega
    clear hlo hFL hap
    by_cases hlt:k < vb.n
    · obtain ⟨f,g,off,hf,hA,g0,g1,g2,g3,g4,g5,g6,g7⟩:=RowF.at_ (Row.below hrb Hr) hlt
      have hst:=Lib.hid (hi.step hf)
      clear hi
      have hsf:=hsb f (List.mem_of_getElem? hf.out)
      have hx0:(0:Int)≤(k:Int):=by omega
      have hx1:(k:Int) < (vb.n:Int):=by omega
      rw [hA]
      go_wp2_with fail
      refine Calls.mono (impl_AddFactor_k M L1 f _ hfewM hsm hsf (Own.slOk hoM) ?_) ?_
      · exact Row.below (OwF.rd hoM) (bAlloc (Below.refl _ _) _)
      rintro e w4 ⟨v4,rfl,ho4,hf4,hk4⟩
      have H4:=bTrans (bAlloc Hr _) hk4
      have H34:=bTrans (bAlloc hbr _) hk4
      have kw:=bBox hk4 wr.heap.size (by simp)
      have z4:=bsz1 hk4
      have hlo4:Hid (∀ q∈obl v4.A,wr.heap.size+1≤q):=fun q hq=>by have h9:=hf4.lo q hq;simp at h9;omega
      have hhi4:Hid (∀ q∈obl v4.A,q < w4.heap.size):=hf4.hi
      have fm4:=hf4.nodup
      clear hf4
      have ho2r:=ho2r.below (bTrans (bAlloc (Below.refl _ _) _) hk4)
      have hoM:=OwF.below hoM (bTrans (bAlloc (Below.refl _ _) _) hk4)
      generalize hok:(addF L1 f).2=ok
      have HOK:=Lib.hid hok
      clear hok
      rw [hA.symm]
      cases ok
      · have hn:=Lib.hid (hst.out.trans (mg_no HOK.out))
        go_wp2_with fail
        go_roundw
        case rel=>exact ⟨k+1,M,A2,n2,c2,L1,L2,by omega,by go_num,rfl,rfl,hoM,hnd,HLO.out,ho2r,HAP.out,hn.out,HFL.out,hsm,by omega,H34⟩
        case measure=>simp [intOf];omega
      · have hn:=Lib.hid (hst.out.trans (mg_yes HOK.out))
        go_wp2_with (at_builtin;refine wpList_append rfl (.tmp 40) (.tmp 42) 23 rfl w.heap.size 34 8 80 i0 _ Tryz.underlying23 hii hq0 hq1 hq2 rfl (by omega) A2 n2 c2 _ rfl (ho2r.alloc_ _) _ 1 1 [f.cells] rfl (Row.new1' _ _ f.cells 8 _ (by simp)) (by simp [Factor.cells]) (by simp [Factor.cells,Value.oneCell']) (by have h8:=ho2r.len;simp at h8;simp only [maxLen];omega) (by have h8:=ho2r.len;simp at h8;omega) (by have h8:=H4.size;simp;omega) ?_;intro A5 c5 w5 ho5 hg5 hat5)
        have ho5:Own w5 w.heap.size 34 8 A5 (n2+1) c5 ((L2++[f]).map Factor.cells):=by simpa using ho5
        have ho6:=OwF.upd ho4 ((Upd.of_below (bAlloc (Below.refl _ _) _)).trans (Upd.of_row hg5)) (fun q hq hm=>by have h8:=hlo4.out q hq;have h9:=(h2lt.out q (mem_obl.1 hm)).2;omega)
        have H5:=bGrown (bAlloc H34 _) hg5 (fun q hq=>(h2lt.out q hq).1)
        have hap5:∀ q∈obl v4.A,ob A5≠some q:=fun q hq e=>by
          rcases hat5 with h | h
          · rw [h] at e;have h8:=hlo4.out q hq;have h9:=(h2lt.out q e).2;omega
          · rw [h] at e;simp at e;have h8:=hhi4.out q hq;omega
        go_roundw
        case rel=>exact ⟨k+1,v4,A5,n2+1,c5,(addF L1 f).1,L2++[f],by omega,by go_num,rfl,rfl,ho6,fm4,fun q hq=>by have:=hlo4.out q hq;omega,ho5,hap5,hn.out,addF_fl HOK.out,addF_small hsm hsf,by simp;omega,H5⟩
        case measure=>simp [intOf];omega
    · have hfin:=Lib.hid ((E.out).trans (hi.done hlb hlt).out)
      go_wp2_with fail
      go_ret2
      rw [hfin.out]
      exact ⟨M,⟨A2,n2,c2⟩,rfl,hoM,ho2r.zero,fresh2 hnd HLO.out hoM ho2r HAP.out,Hr⟩
end Go.Proofs.YtdfemnffpaopfaaGreatDoor
