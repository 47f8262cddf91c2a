/- Texts of this proof, one behind the other: Merge, Team. -/
import Derived.Test.YtdfemnffpaopfaaGreatDoorGct8
import Derived.Test.YtdfemnffpaopfaaGreatDoorGct34
namespace Go.Proofs.YtdfemnffpaopfaaGreatDoor
open Go.RowKit
set_option linter.unusedVariables false
set_option linter.unusedSimpArgs false
set_option maxHeartbeats 1600000
set_option maxRecDepth 100000
theorem mg_yes {L1 L2:List Factor} {f:Factor} (h:(addF L1 f).2=true):mergeStep (L1,L2) f=((addF L1 f).1,L2++[f]):=by simp [mergeStep,h]
theorem mg_no {L1 L2:List Factor} {f:Factor} (h:(addF L1 f).2=false):mergeStep (L1,L2) f=(L1,L2):=by simp [mergeStep,h]
theorem addF_fl {l:List Factor} {f:Factor} (h:(addF l f).2=true):isFL (addF l f).1=true:=by
  unfold addF at h ⊢
  split
  · rename_i hc;simp only [Bool.and_eq_true] at hc;exact hc.2
  · rename_i hc;rw [if_neg hc] at h;cases h
theorem addF_small {l:List Factor} {f:Factor} (hs:smallFs l) (hf:f.frm.size≤4194304∧f.to.size≤4194304):smallFs (addF l f).1:=by
  unfold addF;split
  · exact ins_small hs hf
  · exact hs
def MgInv (l fs:List Factor) (k:Nat) (L1 L2:List Factor):Prop:=(fs.take k).foldl mergeStep (l,[])=(L1,L2)
theorem MgInv.start (l fs:List Factor):MgInv l fs 0 l []:=rfl
theorem MgInv.step {l fs:List Factor} {k:Nat} {L1 L2:List Factor} {f:Factor} (h:MgInv l fs k L1 L2) (hf:Hid (fs[k]? = some f)):(fs.take (k+1)).foldl mergeStep (l,[])=mergeStep (L1,L2) f:=by
  obtain ⟨hk,rfl⟩:=List.getElem?_eq_some_iff.1 hf.out
  unfold MgInv at h
  rw [List.take_succ_eq_append_getElem hk,List.foldl_append,h]
  rfl
theorem MgInv.done {l fs:List Factor} {k n:Nat} {L1 L2:List Factor} (h:MgInv l fs k L1 L2) (hl:Hid (fs.length=n)) (hk:¬ k < n):Hid (fs.foldl mergeStep (l,[])=(L1,L2)):=by
  unfold MgInv at h
  rw [List.take_of_length_le (by have:=hl.out;omega)] at h
  exact h
theorem mergeB_no {l fs:List Factor} {r:Int} (h:isFL l=false∨isBundle r fs=false):mergeB l r fs=(l,[]):=by rcases h with h | h <;> simp [mergeB,h]
theorem mergeB_yes {l fs:List Factor} {r:Int} (h:isFL l=true) (h2:isBundle r fs=true):mergeB l r fs=fs.foldl mergeStep (l,[]):=by simp [mergeB,h,h2]
theorem fresh2 {w':World} {B e sz n2 c2:Nat} {M:Sv} {A2:Option Addr} {L1:List Factor} {css:List (List Value)} (hnd:(obl M.A).Nodup) (hlo:∀ q∈obl M.A,B+1≤q) (ho:OwF w' M L1) (ho2:Own w' B e sz A2 n2 c2 css)
    (hap:∀ q∈obl M.A,ob A2≠some q):Fresh B w' (fpF M++fpF ⟨A2,n2,c2⟩):=by
  have h2:=Fresh.obl_ ho2
  refine ⟨List.nodup_append.2 ⟨hnd,h2.nodup,fun a ha b hb e=>?_⟩,fun g hg=>?_,fun g hg=>?_⟩
  · subst e;exact hap a ha (mem_obl.1 hb)
  · rcases List.mem_append.1 hg with h | h
    · have:=hlo g h;omega
    · exact h2.lo g h
  · rcases List.mem_append.1 hg with h | h
    · exact OwF.lt ho g h
    · exact h2.hi g h
theorem isBundle_len {l:List Factor} {r:Int} (h:isBundle r l=true):l.length≤4:=by
  simp only [isBundle,Bool.and_eq_true] at h
  have:=inR_iff.1 h.2.1;omega
theorem spec_MergeBundle_x (v vb:Sv) (l:List Factor) (b:Bundle) (w:World) (hm:fewF l) (hs:smallFs l) (hmb:fewB b) (hsb:smallFs b.factors) (hr:RdF w v l) (hrb:RdB w vb b) :
    Calls Tryz.prog 127 #[.slice v.A v.n v.c,vBundle b.robot vb.A vb.n vb.c] w fun e w'=>∃ v1:Sv,e=.returned (.tuple #[.slice v1.A v1.n v1.c,.int .i64 ((mergeB l b.robot b.factors).2.length:Int)])∧FPost w v1 (mergeB l b.robot b.factors).1 w':=by
  have hl:=hr.len
  have hlb:Hid (b.factors.length=vb.n):=hrb.len
  have hm1:v.n≤4194304:=by have:=hl.out;unfold fewF at hm;omega
  have hm2:vb.n≤4194304:=by have:=hlb.out;unfold fewB fewF at hmb;omega
  obtain ⟨i0,hii,hq0,hq1,hq2⟩:=info_parts info_Factor
  generalize hb1:isFL l=b1
  generalize hb2:isBundle b.robot b.factors=b2
  have HB1:=Lib.hid hb1
  have HB2:=Lib.hid hb2
  clear hb1 hb2
  go_enter Tryz.func127,Tryz.ntmps127
  go_wp2_with (at_builtin;refine wpList_append rfl (.tmp 12) (.tmp 13) 23 rfl w.heap.size 34 8 80 i0 _ Tryz.underlying23 hii hq0 hq1 hq2 rfl (by omega) _ 0 0 [] rfl (made_any _ _ _ _ (by simp) (by simp)) v.A v.n v.c (l.map Factor.cells) rfl (Row.below hr (bAlloc (bAlloc (Below.refl _ _) _) _)) one_F cell_F (by simp only [maxLen];omega) (by omega) (by simp;try omega) ?_;intro A1 c1 w1 ho1 hg1 hat1;have k1:=gBox hg1 w.heap.size (by simp;try omega) (fun q hq e=>by simp [ob] at hq;omega);have z1:w.heap.size+1≤w1.heap.size:=(by have h9:=hg1.size;simp at h9;omega))
  simp only [Nat.zero_add,List.nil_append] at ho1
  have H:=bGrown (bAlloc (bAlloc (Below.refl w.heap.size w) _) _) hg1 (fun q hq=>by simp [ob] at hq;omega)
  have ho1:OwF w1 ⟨A1,v.n,c1⟩ l:=ho1.zero
  have hlo1:Hid (∀ q∈obl A1,w.heap.size+1≤q):=fun q hq=>by
    rcases hat1 with h | h
    · have h8:=mem_obl.1 hq;rw [h] at h8;simp [ob] at h8;omega
    · have h8:=mem_obl.1 hq;rw [h] at h8;simp at h8;omega
  have hhi1:Hid (∀ q∈obl A1,q < w1.heap.size):=OwF.lt ho1
  have f1:(obl A1).Nodup:=by unfold obl;cases ob A1 <;> simp
  go_wp2_with fail
  refine Calls.mono (spec_IsFactorList_c v.A v.n v.c l _ hm1 (Row.below hr H) hs) ?_
  rintro e w2 ⟨rfl,hk2⟩
  rw [HB1.out]
  have H2:=bTrans H hk2
  have k2:=bBox hk2 w.heap.size (by omega)
  have z2:w1.heap.size≤w2.heap.size:=hk2.size
  have ho1:=ho1.below hk2
  cases b1
  · have E:=Lib.hid (mergeB_no (fs:=b.factors) (r:=b.robot) (.inl HB1.out))
    go_wp2_with fail
    go_ret2
    rw [E.out]
    exact ⟨⟨A1,_,c1⟩,rfl,ho1,⟨f1,fun q hq=>by have:=hlo1.out q hq;omega,OwF.lt ho1⟩,H2⟩
  go_wp2_with fail
  refine Calls.mono (spec_IsValidBundle_c b.robot vb.A vb.n vb.c b.factors _ hm2 (Row.below hrb H2) hsb) ?_
  rintro e w3 ⟨rfl,hk3⟩
  rw [HB2.out]
  have H3:=bTrans H2 hk3
  have k3:=bBox hk3 w.heap.size (by omega)
  have z3:w2.heap.size≤w3.heap.size:=hk3.size
  have ho1:=ho1.below hk3

  cases b2
  · have E:=Lib.hid (mergeB_no (l:=l) (.inr HB2.out))
    go_wp2_with fail
    go_ret2
    rw [E.out]
    exact ⟨⟨A1,_,c1⟩,rfl,ho1,⟨f1,fun q hq=>by have:=hlo1.out q hq;omega,OwF.lt ho1⟩,H3⟩
  have h4:=isBundle_len HB2.out
  have E:=Lib.hid (mergeB_yes HB1.out HB2.out)
  have hlb4:vb.n≤4:=by have:=hlb.out;omega
  go_wp2_with fail
  go_loopw [27,6,7,10,11] (fun i m' w2' x10 x11 wr=>∃ (k:Nat) (M:Sv) (L1 L2:List Factor),k≤vb.n∧i=.int .i64 k∧m'=.slice M.A M.n M.c∧w2'=.int .i64 (L2.length:Int)∧OwF wr M L1∧(obl M.A).Nodup∧(∀ q∈obl M.A,w.heap.size+1≤q)∧MgInv l b.factors k L1 L2∧isFL L1=true∧smallFs L1∧L2.length≤k∧Below w3.heap.size w3 wr) (fun i _ _ _ _ _=>vb.n - (intOf i).toNat)
  case atStart=>exact ⟨0,⟨A1,v.n,c1⟩,l,[],by omega,rfl,rfl,rfl,ho1,f1,hlo1.out,MgInv.start l b.factors,HB1.out,hs,by simp,Below.refl _ _⟩
  case round =>
    obtain ⟨k,M,L1,L2,hk,rfl,rfl,rfl,hoM,hnd,hlo,hi,hFL,hsm,hL2,hbr⟩:=hrel
    have Hr:=bTrans H3 hbr
    have hx5:=trivial
    have HLO:=Lib.hid hlo
    have zz:=Hr.size
    have hx0:=trivial
    have HFL:=Lib.hid hFL
    have hfewM:fewF L1:=by have:=isFL_len HFL.out;unfold fewF;omega
    clear hlo hFL
    by_cases hlt:k < vb.n
    · obtain ⟨f,g,off,hf,hA,g0,g1,g2,g3,g4,g5,g6,g7⟩:=RowF.at_ (Row.below hrb Hr) hlt
      have hst:=Lib.hid (hi.step hf)
      clear hi
      have hsf:=hsb f (List.mem_of_getElem? hf.out)
      have hx0:(0:Int)≤(k:Int):=by omega
      have hx1:(k:Int) < (vb.n:Int):=by omega
      rw [hA]
      go_wp2_with fail
      refine Calls.mono (spec_AddFactor_k M L1 f _ hfewM hsm hsf (Own.slOk hoM) ?_) ?_
      · exact Row.below (OwF.rd hoM) (bAlloc (Below.refl _ _) _)
      rintro e w4 ⟨v4,rfl,ho4,hf4,hk4⟩
      have H4:=bTrans (bAlloc Hr _) hk4
      have H34:=bTrans (bAlloc hbr _) hk4
      have kw:=bBox hk4 wr.heap.size (by simp)
      have z4:=bsz1 hk4
      have hlo4:Hid (∀ q∈obl v4.A,wr.heap.size+1≤q):=fun q hq=>by have h9:=hf4.lo q hq;simp at h9;omega
      have hhi4:Hid (∀ q∈obl v4.A,q < w4.heap.size):=hf4.hi
      have fm4:=hf4.nodup
      clear hf4
      have hx2:=trivial
      have hoM:=OwF.below hoM (bTrans (bAlloc (Below.refl _ _) _) hk4)
      generalize hok:(addF L1 f).2=ok
      have HOK:=Lib.hid hok
      clear hok
      rw [hA.symm]
      cases ok
      · have hn:=Lib.hid (hst.out.trans (mg_no HOK.out))
        go_wp2_with fail
        go_roundw
        case rel=>exact ⟨k+1,M,L1,L2,by omega,by go_num,rfl,rfl,hoM,hnd,HLO.out,hn.out,HFL.out,hsm,by omega,H34⟩
        case measure=>simp [intOf];omega
      · have hn:=Lib.hid (hst.out.trans (mg_yes HOK.out))
        go_wp2_with fail
        go_roundw
        case rel=>exact ⟨k+1,v4,(addF L1 f).1,L2++[f],by omega,by go_num,rfl,by simp,ho4,fm4,fun q hq=>by have:=hlo4.out q hq;omega,hn.out,addF_fl HOK.out,addF_small hsm hsf,by simp;omega,H34⟩
        case measure=>simp [intOf];omega
    · have hfin:=Lib.hid ((E.out).trans (hi.done hlb hlt).out)
      go_wp2_with fail
      go_ret2
      rw [hfin.out]
      exact ⟨M,rfl,hoM,⟨hnd,fun q hq=>by have:=HLO.out q hq;omega,OwF.lt hoM⟩,Hr⟩
theorem merge_few:∀ (m l a:List Factor),isFL l=true→isFL (m.foldl mergeStep (l,a)).1=true
  | [],_,_,h=>h
  | f :: m,l,a,h=>by
    rw [List.foldl_cons]
    cases ho:(addF l f).2
    · rw [mg_no ho];exact merge_few m l a h
    · rw [mg_yes ho];exact merge_few m _ _ (addF_fl ho)
theorem szRobot_k (v:Sv) (x:Robot) (left:Int) (w:World) (h1:0≤left) (h2:left≤4194304) (hl:lenF v) (hok:x.ok) (hr:RdF w v x.factors) :
    Calls Tryz.prog 102 #[vRobot v x,.int .i64 left] w fun e w'=>SzPost left x.bulk e∧Below w.heap.size w w':=by
  have ok2:=hok.1
  have okj:=hok.2
  unfold maxLen at okj
  go_enter Tryz.func102,Tryz.ntmps102
  go_wp2_with fail
  refine Calls.mono (szFactorS_k v x.factors left _ h1 h2 hl ok2 ?_) ?_
  · exact RdF.below hr (bAlloc (Below.refl _ _) _)
  rintro e w1 ⟨⟨r0,rfl,hp⟩,hb1⟩
  have hk:=bBox hb1 w.heap.size (by simp)
  have H:=bTrans (bAlloc (Below.refl w.heap.size w) _) hb1
  rcases hp with rfl | ⟨hp0,hp1⟩
  · go_wp2_with fail
    go_ret
    exact ⟨⟨_,rfl,.inl rfl⟩,H⟩
  · have hp2:¬ r0 < 0:=by omega
    have hp3:r0≤4194304:=by have:=hp1.out;omega
    go_wp2_with fail
    · go_ret
      exact ⟨⟨_,rfl,.inl rfl⟩,H⟩
    · go_ret
      exact ⟨⟨_,rfl,.inr ⟨by omega,by have:=hp1.out;unfold Hid Robot.bulk;push_cast;omega⟩⟩,H⟩
theorem toRobot_k (v:Sv) (x:Robot) (w:World) (hm:fewF x.factors) (hr:RdF w v x.factors) :
    Calls Tryz.prog 110 #[vRobot v x] w fun e w'=>∃ v':Sv,e=.returned (vRobot v' x)∧OwF w' v' x.factors∧Fresh w.heap.size w' (fpF v')∧Below w.heap.size w w':=by
  go_enter Tryz.func110,Tryz.ntmps110
  go_wp2_with fail
  refine Calls.mono (toFactorS_k v x.factors _ hm ?_) ?_
  · exact RdF.below hr (by repeat (first | with_reducible exact Below.refl _ _ | with_reducible refine bAlloc ?_ _ | (with_reducible refine bSet ?_ ?_ _;rotate_left;simp;try omega)))
  rintro e w1 ⟨v1,rfl,ho,hf,hb1⟩
  have H:=bTrans (by repeat (first | with_reducible exact Below.refl _ _ | with_reducible refine bAlloc ?_ _ | (with_reducible refine bSet ?_ ?_ _;rotate_left;simp;try omega)):Below w.heap.size w _) hb1
  have hz1:w.heap.size+3≤w1.heap.size:=by have:=hb1.size;simp at this;omega
  have k0:=bBox hb1 (w.heap.size) (by simp;try omega)
  have k1:=bBox hb1 (w.heap.size+1) (by simp;try omega)
  have k2:=bBox hb1 (w.heap.size+1+1) (by simp;try omega)
  have f1:=bBoxF hb1 (w.heap.size+1) (by simp;try omega)
  have f2:=bBoxF hb1 (w.heap.size+1+1) (by simp;try omega)
  have hlo:Hid (∀ q∈fpF v1,w.heap.size+3≤q):=fun q hq=>by have h1:=hf.lo q hq;simp at h1;omega
  go_wp2_with fail
  refine bodyPost_ret (v:=vRobot v1 x) (by simp [*,results,Tryz.results110,go_sem]) rfl ⟨v1,rfl,?_⟩
  exact bun_end (b:=⟨0,x.factors⟩) hlo ho hf H hz1 (by repeat (first | with_reducible exact Upd.refl _ _ | (with_reducible refine Upd.set_in ?_ ?_ _);rotate_left;simp))
theorem eqRobot_k (v v2:Sv) (x:Robot) (w:World) (hm:fewF x.factors) (hr:RdF w v x.factors) (hr2:RdF w v2 x.factors) :
    Calls Tryz.prog 112 #[vRobot v x,vRobot v2 x] w fun e w'=>e=rBool true∧Below w.heap.size w w':=by
  go_enter Tryz.func112,Tryz.ntmps112
  go_wp2_with fail
  refine Calls.mono (eqFactorS_k v v2 x.factors _ hm ?_ ?_) ?_
  · exact RdF.below hr (bAlloc (bAlloc (Below.refl _ _) _) _)
  · exact RdF.below hr2 (bAlloc (bAlloc (Below.refl _ _) _) _)
  rintro e w1 ⟨rfl,hb1⟩
  have k1:=bBox hb1 (w.heap.size) (by simp;try omega)
  have k2:=bBox hb1 (w.heap.size+1) (by simp;try omega)
  go_wp2_with fail
  go_ret
  exact ⟨rfl,bTrans (bAlloc (bAlloc (Below.refl _ _) _) _) hb1⟩

theorem szRobotS_k (A:Option Addr) (n c:Nat) (l:List (Robot)) (left:Int) (w:World) (h1:0≤left) (h2:left≤4194304) (hn:n≤maxLen) (hok:∀ x∈l,Robot.ok x) (hr:RdSl RdRo w A n 2 l) :
    Calls Tryz.prog 53 #[.slice A n c,.int .i64 left] w fun e w'=>SzPost left (n+sumBulk Robot.bulk l) e∧Below w.heap.size w w':=by
  unfold maxLen at hn
  go_enter Tryz.func53,Tryz.ntmps53
  go_wp2
  · go_ret
    exact ⟨⟨_,rfl,.inl rfl⟩,Below.refl _ _⟩
  · go_loopw [1,5,23] (fun le i t0 wr=>∃ (k:Nat) (lf:Int),k≤n∧i=.int .i64 k∧le=.int .i64 lf∧0≤lf∧lf≤4194304∧Hid (lf+(sumBulk Robot.bulk l:Int)=left - n+(sumBulk Robot.bulk (l.drop k):Int))∧Below w.heap.size w wr) (fun _ i _ _=>n - (intOf i).toNat)
    case atStart=>exact ⟨0,left - n,by omega,rfl,by go_num,by omega,by omega,by simp [Hid],Below.refl _ _⟩
    case round =>
      obtain ⟨k,lf,hk,rfl,rfl,h3,h4,he,hb⟩:=hrel
      by_cases hlt:k < n
      · obtain ⟨x,csv,g,off,hx,rfl,hRv,hcv⟩:=RdSl.at_ (hr.below (R:=RdRo) RdRo.below hb) hlt
        obtain ⟨v,rfl,hRdv,hLnv⟩:=hRv
        have g0:wr.cell? ⟨g,off+k * 2,none⟩=some (.slice v.A v.n v.c):=hcv 0 _ rfl
        have g1:wr.cell? ⟨g,off+k * 2+1,none⟩=some (.string x.journal):=hcv 1 _ rfl
        clear hcv
        have hd:=Lib.hid (drop_at hx)
        have hm:=hok x (List.mem_of_getElem? hx.out)
        go_wp2_with fail
        refine Calls.mono (szRobot_k v x _ _ h3 h4 hLnv hm ?_) ?_
        · exact RdF.below hRdv (by repeat (first | with_reducible exact Below.refl _ _ | with_reducible refine bAlloc ?_ _ | with_reducible refine bDrew ?_))
        rintro e w1 ⟨⟨r,rfl,hp⟩,hb1⟩
        have hb2:Below wr.heap.size wr w1:=bTrans (by repeat (first | with_reducible exact Below.refl _ _ | with_reducible refine bAlloc ?_ _ | with_reducible refine bDrew ?_)) hb1
        rcases hp with rfl | ⟨hp0,hp1⟩
        · go_wp2_with fail
          go_ret
          exact ⟨⟨_,rfl,.inl rfl⟩,bTrans hb hb2⟩
        · have hp2:r≤4194304:=by have:=hp1.out;omega
          have hp1':=hp1
          clear hp1
          go_wp2_with fail
          go_roundw
          case rel=>exact ⟨k+1,r,by omega,by go_num,rfl,hp0,hp2,by have:=he.out;have:=hp1'.out;rw [hd.out] at *;simp only [Hid,sumBulk] at *;omega,bTrans hb hb2⟩
          case measure=>simp [intOf];omega
      · have hd:=Lib.hid (drop_end hr.len hlt)
        go_wp2
        go_ret
        refine ⟨⟨_,rfl,.inr ⟨h3,?_⟩⟩,hb⟩
        have:=he.out;rw [hd.out] at this;simp only [Hid,sumBulk] at *;omega

theorem info_RobotS:(Tryz.prog.info? 47).map (fun i=>(i.zero,i.size,i.bytes))=some (some (.agg #[.slice none 0 0,.string ByteArray.empty]),2,40):=by kernel_rfl
theorem size_RobotS:(Tryz.prog.info? 47).map (·.size)=some 2:=by kernel_rfl
def zeroRobotS:List Value:=[.slice none 0 0,.string ByteArray.empty]
theorem toRobotS_k (A:Option Addr) (n c:Nat) (l:List (Robot)) (w:World) (hm:sumBulk Robot.num l≤4194304) (hr:RdSl RdRo w A n 2 l) :
    Calls Tryz.prog 60 #[.slice A n c] w fun e w'=>∃ A' c' fs,e=.returned (.slice A' n c')∧OwSl KRo w' fs 47 2 A' n c' l∧Fresh w.heap.size w' fs∧Below w.heap.size w w':=by
  obtain ⟨i0,hi,hz0,hz1,hz2⟩:=info_parts info_RobotS
  have hn:n≤4194304:=by have:=hr.len.out;have:=sum_one (c:=Robot.num) (fun x=>by unfold Robot.num;omega) l;omega
  have HM:=Lib.hid hm
  clear hm
  go_enter Tryz.func60,Tryz.ntmps60
  go_wp2_with (refine wpList_make rfl (.tmp 6) (.tmp 6) _ rfl w.heap.size 47 2 40 i0 _ Tryz.underlying25 hi hz0 hz1 hz2 .i64 .i64 n rfl rfl zeroRobotS rfl rfl (by omega) (by omega) (by simp only [maxLen];omega) (Nat.le_refl _) ?_;intro w1 hown1 hg1)
  have hb1:=bGrown (Below.refl _ _) hg1 (by simp)
  have hfill:FillK KRo zeroRobotS 47 2 w w1 n l 0:=FillK.zero hown1
  clear hown1
  go_loopw [4,20] (fun i t0 wr=>∃ (k:Nat),k≤n∧i=.int .i64 k∧FillK KRo zeroRobotS 47 2 w wr n l k∧Below w.heap.size w wr) (fun i _ _=>n - (intOf i).toNat)
  case atStart=>exact ⟨0,by omega,rfl,hfill,hb1⟩
  case round =>
    obtain ⟨k,hk,rfl,hfill,hb⟩:=hrel
    by_cases hlt:k < n
    · obtain ⟨x,csv,g,off,hx,rfl,hRv,hcv⟩:=RdSl.at_ (hr.below (R:=RdRo) RdRo.below hb) hlt
      obtain ⟨v,rfl,hRdv,hLnv⟩:=hRv
      have g0:wr.cell? ⟨g,off+k * 2,none⟩=some (.slice v.A v.n v.c):=hcv 0 _ rfl
      have g1:wr.cell? ⟨g,off+k * 2+1,none⟩=some (.string x.journal):=hcv 1 _ rfl
      clear hcv
      have hfew:=few_Ro (Nat.le_trans (mem_bulk (c:=Robot.num) (List.mem_of_getElem? hx.out)) HM.out)
      go_wp2_with fail
      refine Calls.mono (toRobot_k v x _ hfew ?_) ?_
      · exact RdF.below hRdv (by repeat (first | with_reducible exact Below.refl _ _ | with_reducible refine bAlloc ?_ _ | with_reducible refine bDrew ?_))
      rintro e w2 ⟨v2,rfl,ho2,hf2,hb1⟩
      have hb2:Below wr.heap.size wr w2:=bTrans (by repeat (first | with_reducible exact Below.refl _ _ | with_reducible refine bAlloc ?_ _ | with_reducible refine bDrew ?_)) hb1
      have hf3:Fresh wr.heap.size w2 _:=hf2.rebase (by first | exact Nat.le_refl _ | (simp;done) | (simp;omega))
      obtain ⟨css,hown2,hnext⟩:=hfill.step (f:=_) (cs:=cRobot v2 x) loc_Ro hx hlt hb2 ⟨v2,rfl,ho2,rfl⟩ hf3
      clear hfill hf2 hf3
      go_wp2_with (refine wpList_store_elem rfl _ (.tmp 21) (.tmp 20) rfl w.heap.size 47 2 n n w.heap.size k _ (by first | rfl | omega) _ rfl _ (cRobot v2 x) rfl rfl rfl (one_of rfl) size_RobotS hown2 hlt ?_;intro w3 hown3 hg3)
      have hfill:=hnext w3 hown3 hg3
      go_roundw
      case rel=>exact ⟨k+1,by omega,by go_num,hfill,bGrown (bTrans hb hb2) hg3 (by simp)⟩
      case measure=>simp [intOf];omega
    · obtain ⟨fs,ho,hf⟩:=hfill.full hr.len hlt
      go_wp2
      go_ret
      exact ⟨_,_,_,rfl,ho,hf,hb⟩

theorem eqRobotS_k (A A2:Option Addr) (n n2 c c2:Nat) (l:List (Robot)) (w:World) (hm:sumBulk Robot.num l≤4194304) (hr:RdSl RdRo w A n 2 l) (hr2:RdSl RdRo w A2 n2 2 l) :
    Calls Tryz.prog 62 #[.slice A n c,.slice A2 n2 c2] w fun e w'=>e=rBool true∧Below w.heap.size w w':=by
  obtain rfl:n=n2:=hr.len.out.symm.trans hr2.len.out
  have hn:n≤4194304:=by have:=hr.len.out;have:=sum_one (c:=Robot.num) (fun x=>by unfold Robot.num;omega) l;omega
  have HM:=Lib.hid hm
  clear hm
  go_enter Tryz.func62,Tryz.ntmps62
  go_wp2
  go_loopw [5,25] (fun i t0 wr=>∃ (k:Nat),k≤n∧i=.int .i64 k∧Below w.heap.size w wr) (fun i _ _=>n - (intOf i).toNat)
  case atStart=>exact ⟨0,by omega,rfl,Below.refl _ _⟩
  case round =>
    obtain ⟨k,hk,rfl,hb⟩:=hrel
    by_cases hlt:k < n
    · obtain ⟨x,csv,g,off,hx,rfl,hRv,hcv⟩:=RdSl.at_ (hr.below (R:=RdRo) RdRo.below hb) hlt
      obtain ⟨v,rfl,hRdv,hLnv⟩:=hRv
      have g0:wr.cell? ⟨g,off+k * 2,none⟩=some (.slice v.A v.n v.c):=hcv 0 _ rfl
      have g1:wr.cell? ⟨g,off+k * 2+1,none⟩=some (.string x.journal):=hcv 1 _ rfl
      clear hcv
      obtain ⟨x2,csv2,g2,off2,hx2,rfl,hRv2,hcv2⟩:=RdSl.at_ (hr2.below (R:=RdRo) RdRo.below hb) hlt
      obtain ⟨v2,rfl,hRdv2,hLnv2⟩:=hRv2
      have k0:wr.cell? ⟨g2,off2+k * 2,none⟩=some (.slice v2.A v2.n v2.c):=hcv2 0 _ rfl
      have k1:wr.cell? ⟨g2,off2+k * 2+1,none⟩=some (.string x2.journal):=hcv2 1 _ rfl
      clear hcv2
      obtain rfl:x=x2:=Option.some.inj (hx.out.symm.trans hx2.out)
      have hfew:=few_Ro (Nat.le_trans (mem_bulk (c:=Robot.num) (List.mem_of_getElem? hx.out)) HM.out)
      have h0:(0:Int)≤(k:Int):=by omega
      have h1:(k:Int) < (n:Int):=by omega
      go_wp2_with fail
      go_region_held3 (fun w'=>w'.cell? ⟨g,off+k * 2,none⟩=some (.slice v.A v.n v.c)∧w'.cell? ⟨g,off+k * 2+1,none⟩=some (.string x.journal)∧w'.cell? ⟨g2,off2+k * 2,none⟩=some (.slice v2.A v2.n v2.c)∧w'.cell? ⟨g2,off2+k * 2+1,none⟩=some (.string x.journal))
        (first | go_keep | ((repeat' apply And.intro) <;> exact bCell hb1 (by assumption))) ((go_at_call 112;refine Calls.mono (eqRobot_k v v2 x _ hfew (RdF.below hRdv (bDrew (Below.refl _ _))) (RdF.below hRdv2 (bDrew (Below.refl _ _)))) ?_;rintro e w1 ⟨rfl,hb1⟩))
      go_wp2_with fail
      go_roundw
      case rel=>exact ⟨k+1,by omega,by go_num,bTrans (bDrew hb) hb1⟩
      case measure=>simp [intOf];omega
    · go_wp2
      go_ret
      exact ⟨rfl,hb⟩

theorem szChannelS_k (A:Option Addr) (n c:Nat) (l:List (Chan)) (left:Int) (w:World) (h1:0≤left) (h2:left≤4194304) (hn:n≤maxLen) (hok:∀ x∈l,okC x) (hr:RdSl RdCe w A n 6 l) :
    Calls Tryz.prog 103 #[.slice A n c,.int .i64 left] w fun e w'=>SzPost left (n+sumBulk bulkC l) e∧Below w.heap.size w w':=by
  unfold maxLen at hn
  go_enter Tryz.func103,Tryz.ntmps103
  go_wp2
  · go_ret
    exact ⟨⟨_,rfl,.inl rfl⟩,Below.refl _ _⟩
  · go_loopw [1,5,23] (fun le i t0 wr=>∃ (k:Nat) (lf:Int),k≤n∧i=.int .i64 k∧le=.int .i64 lf∧0≤lf∧lf≤4194304∧Hid (lf+(sumBulk bulkC l:Int)=left - n+(sumBulk bulkC (l.drop k):Int))∧Below w.heap.size w wr) (fun _ i _ _=>n - (intOf i).toNat)
    case atStart=>exact ⟨0,left - n,by omega,rfl,by go_num,by omega,by omega,by simp [Hid],Below.refl _ _⟩
    case round =>
      obtain ⟨k,lf,hk,rfl,rfl,h3,h4,he,hb⟩:=hrel
      by_cases hlt:k < n
      · obtain ⟨x,csv,g,off,hx,rfl,hRv,hcv⟩:=RdSl.at_ (hr.below (R:=RdCe) RdCe.below hb) hlt
        obtain ⟨v,rfl,hRdv,hLnv⟩:=hRv
        have g0:wr.cell? ⟨g,off+k * 6,none⟩=some (.slice v.q.A v.q.n v.q.c):=hcv 0 _ rfl
        have g1:wr.cell? ⟨g,off+k * 6+1,none⟩=some (.int .i64 x.base):=hcv 1 _ rfl
        have g2:wr.cell? ⟨g,off+k * 6+2,none⟩=some (.int .i64 x.expected):=hcv 2 _ rfl
        have g3:wr.cell? ⟨g,off+k * 6+3,none⟩=some (.slice v.i.A v.i.n v.i.c):=hcv 3 _ rfl
        have g4:wr.cell? ⟨g,off+k * 6+4,none⟩=some (.slice v.n.A v.n.n v.n.c):=hcv 4 _ rfl
        have g5:wr.cell? ⟨g,off+k * 6+5,none⟩=some (.slice v.a.A v.a.n v.a.c):=hcv 5 _ rfl
        clear hcv
        have hd:=Lib.hid (drop_at hx)
        have hm:=hok x (List.mem_of_getElem? hx.out)
        go_wp2_with fail
        refine Calls.mono (szChannel_k v x _ _ h3 h4 hLnv hm ?_) ?_
        · exact RdC.below hRdv (by repeat (first | with_reducible exact Below.refl _ _ | with_reducible refine bAlloc ?_ _ | with_reducible refine bDrew ?_))
        rintro e w1 ⟨⟨r,rfl,hp⟩,hb1⟩
        have hb2:Below wr.heap.size wr w1:=bTrans (by repeat (first | with_reducible exact Below.refl _ _ | with_reducible refine bAlloc ?_ _ | with_reducible refine bDrew ?_)) hb1
        rcases hp with rfl | ⟨hp0,hp1⟩
        · go_wp2_with fail
          go_ret
          exact ⟨⟨_,rfl,.inl rfl⟩,bTrans hb hb2⟩
        · have hp2:r≤4194304:=by have:=hp1.out;omega
          have hp1':=hp1
          clear hp1
          go_wp2_with fail
          go_roundw
          case rel=>exact ⟨k+1,r,by omega,by go_num,rfl,hp0,hp2,by have:=he.out;have:=hp1'.out;rw [hd.out] at *;simp only [Hid,sumBulk] at *;omega,bTrans hb hb2⟩
          case measure=>simp [intOf];omega
      · have hd:=Lib.hid (drop_end hr.len hlt)
        go_wp2
        go_ret
        refine ⟨⟨_,rfl,.inr ⟨h3,?_⟩⟩,hb⟩
        have:=he.out;rw [hd.out] at this;simp only [Hid,sumBulk] at *;omega

theorem info_ChannelS:(Tryz.prog.info? 84).map (fun i=>(i.zero,i.size,i.bytes))=some (some (.agg #[.slice none 0 0,.int .i64 0,.int .i64 0,.slice none 0 0,.slice none 0 0,.slice none 0 0]),6,112):=by kernel_rfl
theorem size_ChannelS:(Tryz.prog.info? 84).map (·.size)=some 6:=by kernel_rfl
def zeroChannelS:List Value:=[.slice none 0 0,.int .i64 0,.int .i64 0,.slice none 0 0,.slice none 0 0,.slice none 0 0]
theorem toChannelS_k (A:Option Addr) (n c:Nat) (l:List (Chan)) (w:World) (hm:sumBulk Chan.num l≤4194304) (hr:RdSl RdCe w A n 6 l) :
    Calls Tryz.prog 111 #[.slice A n c] w fun e w'=>∃ A' c' fs,e=.returned (.slice A' n c')∧OwSl KCe w' fs 84 6 A' n c' l∧Fresh w.heap.size w' fs∧Below w.heap.size w w':=by
  obtain ⟨i0,hi,hz0,hz1,hz2⟩:=info_parts info_ChannelS
  have hn:n≤4194304:=by have:=hr.len.out;have:=sum_one (c:=Chan.num) (fun x=>by unfold Chan.num;omega) l;omega
  have HM:=Lib.hid hm
  clear hm
  go_enter Tryz.func111,Tryz.ntmps111
  go_wp2_with (refine wpList_make rfl (.tmp 6) (.tmp 6) _ rfl w.heap.size 84 6 112 i0 _ Tryz.underlying71 hi hz0 hz1 hz2 .i64 .i64 n rfl rfl zeroChannelS rfl rfl (by omega) (by omega) (by simp only [maxLen];omega) (Nat.le_refl _) ?_;intro w1 hown1 hg1)
  have hb1:=bGrown (Below.refl _ _) hg1 (by simp)
  have hfill:FillK KCe zeroChannelS 84 6 w w1 n l 0:=FillK.zero hown1
  clear hown1
  go_loopw [4,20] (fun i t0 wr=>∃ (k:Nat),k≤n∧i=.int .i64 k∧FillK KCe zeroChannelS 84 6 w wr n l k∧Below w.heap.size w wr) (fun i _ _=>n - (intOf i).toNat)
  case atStart=>exact ⟨0,by omega,rfl,hfill,hb1⟩
  case round =>
    obtain ⟨k,hk,rfl,hfill,hb⟩:=hrel
    by_cases hlt:k < n
    · obtain ⟨x,csv,g,off,hx,rfl,hRv,hcv⟩:=RdSl.at_ (hr.below (R:=RdCe) RdCe.below hb) hlt
      obtain ⟨v,rfl,hRdv,hLnv⟩:=hRv
      have g0:wr.cell? ⟨g,off+k * 6,none⟩=some (.slice v.q.A v.q.n v.q.c):=hcv 0 _ rfl
      have g1:wr.cell? ⟨g,off+k * 6+1,none⟩=some (.int .i64 x.base):=hcv 1 _ rfl
      have g2:wr.cell? ⟨g,off+k * 6+2,none⟩=some (.int .i64 x.expected):=hcv 2 _ rfl
      have g3:wr.cell? ⟨g,off+k * 6+3,none⟩=some (.slice v.i.A v.i.n v.i.c):=hcv 3 _ rfl
      have g4:wr.cell? ⟨g,off+k * 6+4,none⟩=some (.slice v.n.A v.n.n v.n.c):=hcv 4 _ rfl
      have g5:wr.cell? ⟨g,off+k * 6+5,none⟩=some (.slice v.a.A v.a.n v.a.c):=hcv 5 _ rfl
      clear hcv
      have hfew:=few_Ce (Nat.le_trans (mem_bulk (c:=Chan.num) (List.mem_of_getElem? hx.out)) HM.out)
      go_wp2_with fail
      refine Calls.mono (toChannel_k v x _ hfew ?_) ?_
      · exact RdC.below hRdv (by repeat (first | with_reducible exact Below.refl _ _ | with_reducible refine bAlloc ?_ _ | with_reducible refine bDrew ?_))
      rintro e w2 ⟨v2,rfl,ho2,hf2,hb1⟩
      have hb2:Below wr.heap.size wr w2:=bTrans (by repeat (first | with_reducible exact Below.refl _ _ | with_reducible refine bAlloc ?_ _ | with_reducible refine bDrew ?_)) hb1
      have hf3:Fresh wr.heap.size w2 _:=hf2.rebase (by first | exact Nat.le_refl _ | (simp;done) | (simp;omega))
      obtain ⟨css,hown2,hnext⟩:=hfill.step (f:=_) (cs:=cChan v2 x.base x.expected) loc_Ce hx hlt hb2 ⟨v2,rfl,ho2,rfl⟩ hf3
      clear hfill hf2 hf3
      go_wp2_with (refine wpList_store_elem rfl _ (.tmp 21) (.tmp 20) rfl w.heap.size 84 6 n n w.heap.size k _ (by first | rfl | omega) _ rfl _ (cChan v2 x.base x.expected) rfl rfl rfl (one_of rfl) size_ChannelS hown2 hlt ?_;intro w3 hown3 hg3)
      have hfill:=hnext w3 hown3 hg3
      go_roundw
      case rel=>exact ⟨k+1,by omega,by go_num,hfill,bGrown (bTrans hb hb2) hg3 (by simp)⟩
      case measure=>simp [intOf];omega
    · obtain ⟨fs,ho,hf⟩:=hfill.full hr.len hlt
      go_wp2
      go_ret
      exact ⟨_,_,_,rfl,ho,hf,hb⟩

theorem eqChannelS_k (A A2:Option Addr) (n n2 c c2:Nat) (l:List (Chan)) (w:World) (hm:sumBulk Chan.num l≤4194304) (hr:RdSl RdCe w A n 6 l) (hr2:RdSl RdCe w A2 n2 6 l) :
    Calls Tryz.prog 113 #[.slice A n c,.slice A2 n2 c2] w fun e w'=>e=rBool true∧Below w.heap.size w w':=by
  obtain rfl:n=n2:=hr.len.out.symm.trans hr2.len.out
  have hn:n≤4194304:=by have:=hr.len.out;have:=sum_one (c:=Chan.num) (fun x=>by unfold Chan.num;omega) l;omega
  have HM:=Lib.hid hm
  clear hm
  go_enter Tryz.func113,Tryz.ntmps113
  go_wp2
  go_loopw [5,25] (fun i t0 wr=>∃ (k:Nat),k≤n∧i=.int .i64 k∧Below w.heap.size w wr) (fun i _ _=>n - (intOf i).toNat)
  case atStart=>exact ⟨0,by omega,rfl,Below.refl _ _⟩
  case round =>
    obtain ⟨k,hk,rfl,hb⟩:=hrel
    by_cases hlt:k < n
    · obtain ⟨x,csv,g,off,hx,rfl,hRv,hcv⟩:=RdSl.at_ (hr.below (R:=RdCe) RdCe.below hb) hlt
      obtain ⟨v,rfl,hRdv,hLnv⟩:=hRv
      have g0:wr.cell? ⟨g,off+k * 6,none⟩=some (.slice v.q.A v.q.n v.q.c):=hcv 0 _ rfl
      have g1:wr.cell? ⟨g,off+k * 6+1,none⟩=some (.int .i64 x.base):=hcv 1 _ rfl
      have g2:wr.cell? ⟨g,off+k * 6+2,none⟩=some (.int .i64 x.expected):=hcv 2 _ rfl
      have g3:wr.cell? ⟨g,off+k * 6+3,none⟩=some (.slice v.i.A v.i.n v.i.c):=hcv 3 _ rfl
      have g4:wr.cell? ⟨g,off+k * 6+4,none⟩=some (.slice v.n.A v.n.n v.n.c):=hcv 4 _ rfl
      have g5:wr.cell? ⟨g,off+k * 6+5,none⟩=some (.slice v.a.A v.a.n v.a.c):=hcv 5 _ rfl
      clear hcv
      obtain ⟨x2,csv2,g2,off2,hx2,rfl,hRv2,hcv2⟩:=RdSl.at_ (hr2.below (R:=RdCe) RdCe.below hb) hlt
      obtain ⟨v2,rfl,hRdv2,hLnv2⟩:=hRv2
      have k0:wr.cell? ⟨g2,off2+k * 6,none⟩=some (.slice v2.q.A v2.q.n v2.q.c):=hcv2 0 _ rfl
      have k1:wr.cell? ⟨g2,off2+k * 6+1,none⟩=some (.int .i64 x2.base):=hcv2 1 _ rfl
      have k2:wr.cell? ⟨g2,off2+k * 6+2,none⟩=some (.int .i64 x2.expected):=hcv2 2 _ rfl
      have k3:wr.cell? ⟨g2,off2+k * 6+3,none⟩=some (.slice v2.i.A v2.i.n v2.i.c):=hcv2 3 _ rfl
      have k4:wr.cell? ⟨g2,off2+k * 6+4,none⟩=some (.slice v2.n.A v2.n.n v2.n.c):=hcv2 4 _ rfl
      have k5:wr.cell? ⟨g2,off2+k * 6+5,none⟩=some (.slice v2.a.A v2.a.n v2.a.c):=hcv2 5 _ rfl
      clear hcv2
      obtain rfl:x=x2:=Option.some.inj (hx.out.symm.trans hx2.out)
      have hfew:=few_Ce (Nat.le_trans (mem_bulk (c:=Chan.num) (List.mem_of_getElem? hx.out)) HM.out)
      have h0:(0:Int)≤(k:Int):=by omega
      have h1:(k:Int) < (n:Int):=by omega
      go_wp2_with fail
      go_region_held3 (fun w'=>w'.cell? ⟨g,off+k * 6,none⟩=some (.slice v.q.A v.q.n v.q.c)∧w'.cell? ⟨g,off+k * 6+1,none⟩=some (.int .i64 x.base)∧w'.cell? ⟨g,off+k * 6+2,none⟩=some (.int .i64 x.expected)∧w'.cell? ⟨g,off+k * 6+3,none⟩=some (.slice v.i.A v.i.n v.i.c)∧w'.cell? ⟨g,off+k * 6+4,none⟩=some (.slice v.n.A v.n.n v.n.c)∧w'.cell? ⟨g,off+k * 6+5,none⟩=some (.slice v.a.A v.a.n v.a.c)∧w'.cell? ⟨g2,off2+k * 6,none⟩=some (.slice v2.q.A v2.q.n v2.q.c)∧w'.cell? ⟨g2,off2+k * 6+1,none⟩=some (.int .i64 x.base)∧w'.cell? ⟨g2,off2+k * 6+2,none⟩=some (.int .i64 x.expected)∧w'.cell? ⟨g2,off2+k * 6+3,none⟩=some (.slice v2.i.A v2.i.n v2.i.c)∧w'.cell? ⟨g2,off2+k * 6+4,none⟩=some (.slice v2.n.A v2.n.n v2.n.c)∧w'.cell? ⟨g2,off2+k * 6+5,none⟩=some (.slice v2.a.A v2.a.n v2.a.c))
        (first | go_keep | ((repeat' apply And.intro) <;> exact bCell hb1 (by assumption))) ((go_at_call 156;refine Calls.mono (eqChannel_k v v2 x _ hfew (RdC.below hRdv (bDrew (Below.refl _ _))) (RdC.below hRdv2 (bDrew (Below.refl _ _)))) ?_;rintro e w1 ⟨rfl,hb1⟩))
      go_wp2_with fail
      go_roundw
      case rel=>exact ⟨k+1,by omega,by go_num,bTrans (bDrew hb) hb1⟩
      case measure=>simp [intOf];omega
    · go_wp2
      go_ret
      exact ⟨rfl,hb⟩

theorem szChannelSS_k (A:Option Addr) (n c:Nat) (l:List (List Chan)) (left:Int) (w:World) (h1:0≤left) (h2:left≤4194304) (hn:n≤maxLen) (hok:∀ x∈l,okCs x) (hr:RdSl RdCs w A n 1 l) :
    Calls Tryz.prog 54 #[.slice A n c,.int .i64 left] w fun e w'=>SzPost left (n+sumBulk bulkCs l) e∧Below w.heap.size w w':=by
  unfold maxLen at hn
  go_enter Tryz.func54,Tryz.ntmps54
  go_wp2
  · go_ret
    exact ⟨⟨_,rfl,.inl rfl⟩,Below.refl _ _⟩
  · go_loopw [1,5,23] (fun le i t0 wr=>∃ (k:Nat) (lf:Int),k≤n∧i=.int .i64 k∧le=.int .i64 lf∧0≤lf∧lf≤4194304∧Hid (lf+(sumBulk bulkCs l:Int)=left - n+(sumBulk bulkCs (l.drop k):Int))∧Below w.heap.size w wr) (fun _ i _ _=>n - (intOf i).toNat)
    case atStart=>exact ⟨0,left - n,by omega,rfl,by go_num,by omega,by omega,by simp [Hid],Below.refl _ _⟩
    case round =>
      obtain ⟨k,lf,hk,rfl,rfl,h3,h4,he,hb⟩:=hrel
      by_cases hlt:k < n
      · obtain ⟨x,csv,g,off,hx,rfl,hRv,hcv⟩:=RdSl.at_ (hr.below (R:=RdCs) RdCs.below hb) hlt
        obtain ⟨v,rfl,hRdv,hLnv⟩:=hRv
        have g0:wr.cell? ⟨g,off+k,none⟩=some (.slice v.A v.n v.c):=by simpa using hcv 0 _ rfl
        clear hcv
        have hd:=Lib.hid (drop_at hx)
        have hm:=hok x (List.mem_of_getElem? hx.out)
        have hbx:Hid (bulkCs x=v.n+sumBulk bulkC x):=by unfold bulkCs;rw [hRdv.len.out];rfl
        go_wp2_with fail
        refine Calls.mono (szChannelS_k v.A v.n v.c x _ _ h3 h4 hLnv hm ?_) ?_
        · exact RdSl.below (R:=RdCe) RdCe.below hRdv (by repeat (first | with_reducible exact Below.refl _ _ | with_reducible refine bAlloc ?_ _ | with_reducible refine bDrew ?_))
        rintro e w1 ⟨⟨r,rfl,hp⟩,hb1⟩
        have hb2:Below wr.heap.size wr w1:=bTrans (by repeat (first | with_reducible exact Below.refl _ _ | with_reducible refine bAlloc ?_ _ | with_reducible refine bDrew ?_)) hb1
        rcases hp with rfl | ⟨hp0,hp1⟩
        · go_wp2_with fail
          go_ret
          exact ⟨⟨_,rfl,.inl rfl⟩,bTrans hb hb2⟩
        · have hp2:r≤4194304:=by have:=hp1.out;omega
          have hp1':=hp1
          clear hp1
          go_wp2_with fail
          go_roundw
          case rel=>exact ⟨k+1,r,by omega,by go_num,rfl,hp0,hp2,by have:=he.out;have:=hp1'.out;have:=hbx.out;rw [hd.out] at *;simp only [Hid,sumBulk] at *;omega,bTrans hb hb2⟩
          case measure=>simp [intOf];omega
      · have hd:=Lib.hid (drop_end hr.len hlt)
        go_wp2
        go_ret
        refine ⟨⟨_,rfl,.inr ⟨h3,?_⟩⟩,hb⟩
        have:=he.out;rw [hd.out] at this;simp only [Hid,sumBulk] at *;omega

theorem info_ChannelSS:(Tryz.prog.info? 71).map (fun i=>(i.zero,i.size,i.bytes))=some (some (.slice none 0 0),1,24):=by kernel_rfl
theorem size_ChannelSS:(Tryz.prog.info? 71).map (·.size)=some 1:=by kernel_rfl
def zeroChannelSS:List Value:=[.slice none 0 0]
theorem toChannelSS_k (A:Option Addr) (n c:Nat) (l:List (List Chan)) (w:World) (hm:sumBulk numCs l≤4194304) (hr:RdSl RdCs w A n 1 l) :
    Calls Tryz.prog 61 #[.slice A n c] w fun e w'=>∃ A' c' fs,e=.returned (.slice A' n c')∧OwSl KCs w' fs 71 1 A' n c' l∧Fresh w.heap.size w' fs∧Below w.heap.size w w':=by
  obtain ⟨i0,hi,hz0,hz1,hz2⟩:=info_parts info_ChannelSS
  have hn:n≤4194304:=by have:=hr.len.out;have:=sum_one (c:=numCs) (fun x=>by unfold numCs;omega) l;omega
  have HM:=Lib.hid hm
  clear hm
  go_enter Tryz.func61,Tryz.ntmps61
  go_wp2_with (refine wpList_make rfl (.tmp 6) (.tmp 6) _ rfl w.heap.size 71 1 24 i0 _ Tryz.underlying26 hi hz0 hz1 hz2 .i64 .i64 n rfl rfl zeroChannelSS rfl rfl (by omega) (by omega) (by simp only [maxLen];omega) (Nat.le_refl _) ?_;intro w1 hown1 hg1)
  have hb1:=bGrown (Below.refl _ _) hg1 (by simp)
  have hfill:FillK KCs zeroChannelSS 71 1 w w1 n l 0:=FillK.zero hown1
  clear hown1
  go_loopw [4,20] (fun i t0 wr=>∃ (k:Nat),k≤n∧i=.int .i64 k∧FillK KCs zeroChannelSS 71 1 w wr n l k∧Below w.heap.size w wr) (fun i _ _=>n - (intOf i).toNat)
  case atStart=>exact ⟨0,by omega,rfl,hfill,hb1⟩
  case round =>
    obtain ⟨k,hk,rfl,hfill,hb⟩:=hrel
    by_cases hlt:k < n
    · obtain ⟨x,csv,g,off,hx,rfl,hRv,hcv⟩:=RdSl.at_ (hr.below (R:=RdCs) RdCs.below hb) hlt
      obtain ⟨v,rfl,hRdv,hLnv⟩:=hRv
      have g0:wr.cell? ⟨g,off+k,none⟩=some (.slice v.A v.n v.c):=by simpa using hcv 0 _ rfl
      clear hcv
      have hfew:=few_Cs (Nat.le_trans (mem_bulk (c:=numCs) (List.mem_of_getElem? hx.out)) HM.out)
      go_wp2_with fail
      refine Calls.mono (toChannelS_k v.A v.n v.c x _ hfew ?_) ?_
      · exact RdSl.below (R:=RdCe) RdCe.below hRdv (by repeat (first | with_reducible exact Below.refl _ _ | with_reducible refine bAlloc ?_ _ | with_reducible refine bDrew ?_))
      rintro e w2 ⟨A2,c2,fs2,rfl,ho2,hf2,hb1⟩
      have hb2:Below wr.heap.size wr w2:=bTrans (by repeat (first | with_reducible exact Below.refl _ _ | with_reducible refine bAlloc ?_ _ | with_reducible refine bDrew ?_)) hb1
      have hf3:Fresh wr.heap.size w2 _:=hf2.rebase (by first | exact Nat.le_refl _ | (simp;done) | (simp;omega))
      obtain ⟨css,hown2,hnext⟩:=hfill.step (f:=_) (cs:=[.slice A2 v.n c2]) loc_Cs hx hlt hb2 ⟨⟨A2,v.n,c2⟩,rfl,ho2⟩ hf3
      clear hfill hf2 hf3
      go_wp2_with (refine wpList_store_elem rfl _ (.tmp 21) (.tmp 20) rfl w.heap.size 71 1 n n w.heap.size k _ (by first | rfl | omega) _ rfl _ ([.slice A2 v.n c2]) rfl rfl rfl (one_of rfl) size_ChannelSS hown2 hlt ?_;intro w3 hown3 hg3)
      have hfill:=hnext w3 hown3 hg3
      go_roundw
      case rel=>exact ⟨k+1,by omega,by go_num,hfill,bGrown (bTrans hb hb2) hg3 (by simp)⟩
      case measure=>simp [intOf];omega
    · obtain ⟨fs,ho,hf⟩:=hfill.full hr.len hlt
      go_wp2
      go_ret
      exact ⟨_,_,_,rfl,ho,hf,hb⟩

theorem eqChannelSS_k (A A2:Option Addr) (n n2 c c2:Nat) (l:List (List Chan)) (w:World) (hm:sumBulk numCs l≤4194304) (hr:RdSl RdCs w A n 1 l) (hr2:RdSl RdCs w A2 n2 1 l) :
    Calls Tryz.prog 63 #[.slice A n c,.slice A2 n2 c2] w fun e w'=>e=rBool true∧Below w.heap.size w w':=by
  obtain rfl:n=n2:=hr.len.out.symm.trans hr2.len.out
  have hn:n≤4194304:=by have:=hr.len.out;have:=sum_one (c:=numCs) (fun x=>by unfold numCs;omega) l;omega
  have HM:=Lib.hid hm
  clear hm
  go_enter Tryz.func63,Tryz.ntmps63
  go_wp2
  go_loopw [5,25] (fun i t0 wr=>∃ (k:Nat),k≤n∧i=.int .i64 k∧Below w.heap.size w wr) (fun i _ _=>n - (intOf i).toNat)
  case atStart=>exact ⟨0,by omega,rfl,Below.refl _ _⟩
  case round =>
    obtain ⟨k,hk,rfl,hb⟩:=hrel
    by_cases hlt:k < n
    · obtain ⟨x,csv,g,off,hx,rfl,hRv,hcv⟩:=RdSl.at_ (hr.below (R:=RdCs) RdCs.below hb) hlt
      obtain ⟨v,rfl,hRdv,hLnv⟩:=hRv
      have g0:wr.cell? ⟨g,off+k,none⟩=some (.slice v.A v.n v.c):=by simpa using hcv 0 _ rfl
      clear hcv
      obtain ⟨x2,csv2,g2,off2,hx2,rfl,hRv2,hcv2⟩:=RdSl.at_ (hr2.below (R:=RdCs) RdCs.below hb) hlt
      obtain ⟨v2,rfl,hRdv2,hLnv2⟩:=hRv2
      have k0:wr.cell? ⟨g2,off2+k,none⟩=some (.slice v2.A v2.n v2.c):=by simpa using hcv2 0 _ rfl
      clear hcv2
      obtain rfl:x=x2:=Option.some.inj (hx.out.symm.trans hx2.out)
      have hfew:=few_Cs (Nat.le_trans (mem_bulk (c:=numCs) (List.mem_of_getElem? hx.out)) HM.out)
      have h0:(0:Int)≤(k:Int):=by omega
      have h1:(k:Int) < (n:Int):=by omega
      go_wp2_with fail
      go_region_held3 (fun w'=>w'.cell? ⟨g,off+k,none⟩=some (.slice v.A v.n v.c)∧w'.cell? ⟨g2,off2+k,none⟩=some (.slice v2.A v2.n v2.c))
        (first | go_keep | ((repeat' apply And.intro) <;> exact bCell hb1 (by assumption))) ((go_at_call 113;refine Calls.mono (eqChannelS_k v.A v2.A v.n v2.n v.c v2.c x _ hfew (RdSl.below (R:=RdCe) RdCe.below hRdv (bDrew (Below.refl _ _))) (RdSl.below (R:=RdCe) RdCe.below hRdv2 (bDrew (Below.refl _ _)))) ?_;rintro e w1 ⟨rfl,hb1⟩))
      go_wp2_with fail
      go_roundw
      case rel=>exact ⟨k+1,by omega,by go_num,bTrans (bDrew hb) hb1⟩
      case measure=>simp [intOf];omega
    · go_wp2
      go_ret
      exact ⟨rfl,hb⟩


theorem team_end {w w1 w2 X1 X2:World} {vr vc:Sv} {fr fc:List Nat} {t:Team} (H:Below w.heap.size w w1) (hz:w.heap.size+3≤w1.heap.size)
    (hor:OwSl KRo w1 fr 47 2 vr.A vr.n vr.c t.robots) (hlo:Hid (∀ q∈fr,w.heap.size+3≤q)) (hfr:Fresh 0 w1 fr) (u1:Upd [w.heap.size+1,w.heap.size+1+1] w1 X1) (hb2:Below X1.heap.size X1 w2)
    (hoc:OwSl KCs w2 fc 71 1 vc.A vc.n vc.c t.channels) (hfc:Fresh X1.heap.size w2 fc) (u2:Upd [w.heap.size+1,w.heap.size+1+1] w2 X2) :
    OwT X2 ⟨vr,vc,fr,fc⟩ t∧Fresh w.heap.size X2 (fpT ⟨vr,vc,fr,fc⟩)∧Below w.heap.size w X2:=by
  have U1:=(u1.then_below hb2).trans u2
  have a0:∀ k∈[w.heap.size+1,w.heap.size+1+1],k < w.heap.size+3:=by intro k hk;simp at hk;omega
  have s1:=u1.size;have s2:=u2.size;have y2:=hb2.size
  refine ⟨⟨hor.upd loc_Ro U1 (fun k hk hm=>by have h1:=hlo.out k hk;have h2:=a0 k hm;omega),hoc.upd loc_Cs u2 (fun k hk hm=>by have h1:=hfc.lo k hk;have h2:=a0 k hm;omega)⟩,?_,bUpd H U1 (fun k hk=>by simp at hk;omega)⟩
  have hfr':Fresh w.heap.size w1 fr:=⟨hfr.nodup,fun g hg=>by have:=hlo.out g hg;omega,hfr.hi⟩
  exact hfr'.then_ (hfc.grow s2) (by omega) (by omega) (by omega)
theorem szTeam_k (v:TV) (t:Team) (left:Int) (w:World) (h1:0≤left) (h2:left≤4194304) (hl:lenT v) (hok:okT t) (hr:RdT w v t) :
    Calls Tryz.prog 19 #[vTeam v,.int .i64 left] w fun e w'=>SzPost left (bulkT t) e∧Below w.heap.size w w':=by
  have e0:=hr.r.len;have e1:=hr.c.len
  obtain ⟨l0,l1⟩:=hl
  obtain ⟨o0,o1⟩:=hok
  go_enter Tryz.func19,Tryz.ntmps19
  go_wp2_with fail
  refine Calls.mono (szRobotS_k v.r.A v.r.n v.r.c t.robots left _ h1 h2 l0 o0 ?_) ?_
  · exact hr.r.below (R:=RdRo) RdRo.below (bAlloc (Below.refl _ _) _)
  rintro e w1 ⟨⟨r0,rfl,hp⟩,hb1⟩
  have hk:=bBox hb1 w.heap.size (by simp)
  have H:=bTrans (bAlloc (Below.refl w.heap.size w) _) hb1
  rcases hp with rfl | ⟨p0,s0⟩
  · go_wp2_with fail
    go_ret
    exact ⟨⟨_,rfl,.inl rfl⟩,H⟩
  have q0:r0≤4194304:=by have:=s0.out;omega
  have n0:¬ r0 < 0:=by omega
  go_wp2_with fail
  refine Calls.mono (szChannelSS_k v.c.A v.c.n v.c.c t.channels r0 _ p0 q0 l1 o1 ?_) ?_
  · exact hr.c.below (R:=RdCs) RdCs.below H
  rintro e w2 ⟨⟨r1,rfl,hp⟩,hb2⟩
  have H:=bTrans H hb2
  rcases hp with rfl | ⟨p1,s1⟩
  · go_wp2_with fail
    go_ret
    exact ⟨⟨_,rfl,.inl rfl⟩,H⟩
  have n1:¬ r1 < 0:=by omega
  go_wp2_with fail
  go_ret
  refine ⟨⟨_,rfl,.inr ⟨p1,?_⟩⟩,H⟩
  have:=s0.out;have:=s1.out;have:=e0.out;have:=e1.out
  unfold bulkT Hid;push_cast;omega
theorem fewT_parts {t:Team} (h:fewT t):sumBulk Robot.num t.robots≤4194304∧sumBulk numCs t.channels≤4194304:=by unfold fewT numT at h;omega
theorem toTeam_k (v:TV) (t:Team) (w:World) (hm:fewT t) (hr:RdT w v t) :
    Calls Tryz.prog 21 #[vTeam v] w fun e w'=>∃ v':TV,e=.returned (vTeam v')∧OwT w' v' t∧Fresh w.heap.size w' (fpT v')∧Below w.heap.size w w':=by
  obtain ⟨m0,m1⟩:=fewT_parts hm
  go_enter Tryz.func21,Tryz.ntmps21
  go_wp2_with fail
  refine Calls.mono (toRobotS_k v.r.A v.r.n v.r.c t.robots _ m0 ?_) ?_
  · exact hr.r.below (R:=RdRo) RdRo.below (by repeat (first | with_reducible exact Below.refl _ _ | with_reducible refine bAlloc ?_ _))
  rintro e w1 ⟨A1,c1,fr,rfl,ho1,hf1,hb1⟩
  have H:=bTrans (by repeat (first | with_reducible exact Below.refl _ _ | with_reducible refine bAlloc ?_ _):Below w.heap.size w _) hb1
  have H1:=H
  have hz1:w.heap.size+3≤w1.heap.size:=by have:=hb1.size;simp at this;omega
  have hlo:Hid (∀ q∈fr,w.heap.size+3≤q):=fun q hq=>by have h1:=hf1.lo q hq;simp at h1;omega
  have k0:=bBox hb1 (w.heap.size) (by simp;try omega)
  have k1:=bBox hb1 (w.heap.size+1) (by simp;try omega)
  have k2:=bBox hb1 (w.heap.size+1+1) (by simp;try omega)
  have f1:=bBoxF hb1 (w.heap.size+1) (by simp;try omega)
  have f2:=bBoxF hb1 (w.heap.size+1+1) (by simp;try omega)
  go_wp2_with fail
  refine Calls.mono (toChannelSS_k v.c.A v.c.n v.c.c t.channels _ m1 ?_) ?_
  · exact hr.c.below (R:=RdCs) RdCs.below (by repeat (first | exact H | refine bSet ?_ (by simp;omega) _))
  rintro e w2 ⟨A2,c2,fc,rfl,ho2,hf2,hb2⟩
  have H:=bTrans (by repeat (first | exact H | refine bSet ?_ (by simp;omega) _):Below w.heap.size w _) hb2
  have hz2:w.heap.size+3≤w2.heap.size:=by have:=hb2.size;simp at this;omega
  have k20:=bBox hb2 (w.heap.size) (by simp;try omega)
  have k21:=bBox hb2 (w.heap.size+1) (by simp;try omega)
  have k22:=bBox hb2 (w.heap.size+1+1) (by simp;try omega)
  have f21:=bBoxF hb2 (w.heap.size+1) (by simp;try omega)
  have f22:=bBoxF hb2 (w.heap.size+1+1) (by simp;try omega)
  go_wp2_with fail
  refine bodyPost_ret (v:=vTeam ⟨⟨A1,v.r.n,c1⟩,⟨A2,v.c.n,c2⟩,fr,fc⟩) (by simp [*,results,Tryz.results21,go_sem]) rfl ⟨_,rfl,?_⟩
  exact team_end H1 hz1 ho1 hlo (hf1.rebase (Nat.zero_le _)) (by repeat (first | with_reducible exact Upd.refl _ _ | (with_reducible refine Upd.set_in ?_ ?_ _);rotate_left;simp)) hb2 ho2 hf2 (by repeat (first | with_reducible exact Upd.refl _ _ | (with_reducible refine Upd.set_in ?_ ?_ _);rotate_left;simp))
theorem eqTeam_k (v v2:TV) (t:Team) (w:World) (hm:fewT t) (hr:RdT w v t) (hr2:RdT w v2 t) :
    Calls Tryz.prog 22 #[vTeam v,vTeam v2] w fun e w'=>e=rBool true∧Below w.heap.size w w':=by
  obtain ⟨m0,m1⟩:=fewT_parts hm
  go_enter Tryz.func22,Tryz.ntmps22
  go_wp2_with fail
  refine Calls.mono (eqRobotS_k v.r.A v2.r.A v.r.n v2.r.n v.r.c v2.r.c t.robots _ m0 ?_ ?_) ?_
  · exact hr.r.below (R:=RdRo) RdRo.below (bAlloc (bAlloc (Below.refl _ _) _) _)
  · exact hr2.r.below (R:=RdRo) RdRo.below (bAlloc (bAlloc (Below.refl _ _) _) _)
  rintro e w1 ⟨rfl,hb1⟩
  have H:=bTrans (bAlloc (bAlloc (Below.refl _ _) _) _) hb1
  have k1:=bBox hb1 (w.heap.size) (by simp;try omega)
  have k2:=bBox hb1 (w.heap.size+1) (by simp;try omega)
  go_wp2_with fail
  refine Calls.mono (eqChannelSS_k v.c.A v2.c.A v.c.n v2.c.n v.c.c v2.c.c t.channels _ m1 ?_ ?_) ?_
  · exact hr.c.below (R:=RdCs) RdCs.below H
  · exact hr2.c.below (R:=RdCs) RdCs.below H
  rintro e w2 ⟨rfl,hb2⟩
  go_wp2_with fail
  go_ret
  exact ⟨rfl,bTrans H hb2⟩
theorem each_of {α:Type} {R:List Value→α→Prop} {ok:α→Prop}:∀ (css:List (List Value)),(∀ es∈css,∃ x,R es x∧ok x)→∃ fss l,Each (fun _ cs x=>R cs x) fss css l∧∀ x∈l,ok x
  | [],_=>⟨[],[],trivial,by simp⟩
  | e :: r,h=>by
    obtain ⟨x,h1,h2⟩:=h e (by simp)
    obtain ⟨fss,l,h3,h4⟩:=each_of r (fun es hes=>h es (by simp [hes]))
    exact ⟨[] :: fss,x :: l,⟨h1,h3⟩,fun y hy=>by rcases List.mem_cons.1 hy with rfl | hy;exact h2;exact h4 y hy⟩
theorem rdSl_of {α:Type} {R:World→List Value→α→Prop} {ok:α→Prop} {w:World} {sz:Nat} {good:List Value→Prop} {cs:List Value} (h:gSlice w sz good cs) (hg:∀ es,good es→∃ x,R w es x∧ok x) :
    ∃ (v:Sv) (l:List α),cs=[.slice v.A v.n v.c]∧v.n≤maxLen∧RdSl R w v.A v.n sz l∧∀ x∈l,ok x:=by
  obtain ⟨A,n,c,css,rfl,h1,h2,h3,h4⟩:=h
  obtain ⟨fss,l,h5,h6⟩:=each_of (R:=R w) css (fun es hes=>hg es (h4 es hes).2)
  exact ⟨⟨A,n,c⟩,l,rfl,Nat.le_trans h1 h2,⟨css,fss,h3,h5⟩,h6⟩
theorem cells_facSl:Tryz.prog.cellsOf 141=1:=by kernel_rfl
theorem cells_Robot:Tryz.prog.cellsOf 143=2:=by kernel_rfl
def gRobot (w:World) (cs:List Value):Prop:=∃ r:Robot,RdRo w cs r∧r.ok
theorem opens_Robot (w:World):Opens Tryz.prog w 143 (gRobot w):=fun H enc base fuel spare held cs x h=>by
  obtain ⟨hl,hf⟩:=opens_field Tryz.underlying143 h
  rw [cells_Robot] at hl
  obtain ⟨a,b,rfl⟩:=len2 hl
  obtain ⟨A,n,c,l,e0,h1,h2,h3⟩:=rowF_of (hf 0 _ _ rfl (opens_FactorS w))
  obtain ⟨s,e1,w1⟩:=hf 1 _ gStr rfl (opens_str Tryz.underlying9)
  simp [cells_string,cells_facSl] at e0 e1
  subst e0 e1
  exact ⟨⟨l,s⟩,⟨⟨A,n,c⟩,rfl,h2,h1⟩,h3,w1⟩
theorem cells_chS:Tryz.prog.cellsOf 145=1:=by kernel_rfl
theorem cells_chSS:Tryz.prog.cellsOf 51=1:=by kernel_rfl
theorem cells_roS:Tryz.prog.cellsOf 50=1:=by kernel_rfl
theorem cells_Team:Tryz.prog.cellsOf 53=2:=by kernel_rfl
def gTeam (w:World) (cs:List Value):Prop:=∃ (v:TV) (t:Team),cs=[.slice v.r.A v.r.n v.r.c,.slice v.c.A v.c.n v.c.c]∧RdT w v t∧okT t∧lenT v
theorem opens_Team (w:World):Opens Tryz.prog w 53 (gTeam w):=fun H enc base fuel spare held cs x h=>by
  obtain ⟨hl,hf⟩:=opens_field Tryz.underlying53 h
  rw [cells_Team] at hl
  obtain ⟨a,b,rfl⟩:=len2 hl
  obtain ⟨vr,l0,e0,n0,r0,k0⟩:=rdSl_of (R:=RdRo) (ok:=Robot.ok) (hf 0 _ _ rfl (opens_slice Tryz.underlying50 cells_Robot (opens_Robot w) (by omega))) (fun es h=>h)
  obtain ⟨vc,l1,e1,n1,r1,k1⟩:=rdSl_of (R:=RdCs) (ok:=okCs) (hf 1 _ _ rfl (opens_slice Tryz.underlying51 cells_chS (opens_slice Tryz.underlying145 cells_Channel (opens_Channel w) (by omega)) (by omega)))
    (fun es h=>by
      obtain ⟨v,l,rfl,h1,h2,h3⟩:=rdSl_of (R:=RdCe) (ok:=okC) h (fun es ⟨v,c,h1,h2,h3,h4⟩=>⟨c,⟨v,h1,h2,h4⟩,h3⟩)
      exact ⟨l,⟨v,rfl,h2,h1⟩,h3⟩)
  simp [cells_roS,cells_chSS] at e0 e1
  subst e0 e1
  exact ⟨⟨vr,vc,[],[]⟩,⟨l0,l1⟩,rfl,⟨r0,r1⟩,⟨k0,k1⟩,n0,n1⟩
end Go.Proofs.YtdfemnffpaopfaaGreatDoor
