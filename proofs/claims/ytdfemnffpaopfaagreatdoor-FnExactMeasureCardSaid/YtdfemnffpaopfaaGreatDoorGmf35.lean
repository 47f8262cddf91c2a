/- Texts of this proof, one behind the other: TeamC. -/
import Derived.Test.YtdfemnffpaopfaaGreatDoorGmf7
import Derived.Test.YtdfemnffpaopfaaGreatDoorGmf9
import Derived.Test.YtdfemnffpaopfaaGreatDoorGmf13
namespace Go.Proofs.YtdfemnffpaopfaaGreatDoor
open Go.RowKit
set_option linter.unusedVariables false
set_option linter.unusedSimpArgs false
set_option maxHeartbeats 1600000
set_option maxRecDepth 100000
structure Bx2 (w:World) (b:Nat) (u0 u1:Value):Prop where
  c0:w.cell? ⟨b,0,none⟩=some u0
  c1:w.cell? ⟨b,1,none⟩=some u1
  fz:∀ o,w.frozen? ⟨b,o,none⟩=false
theorem Bx2.lt {w:World} {b:Nat} {u0 u1:Value} (h:Bx2 w b u0 u1):b < w.heap.size:=cell_lt h.c0
theorem Bx2.below {w w':World} {b:Nat} {u0 u1:Value} (h:Bx2 w b u0 u1) (k:Below w.heap.size w w'):Bx2 w' b u0 u1 :=
  ⟨bCell k h.c0,bCell k h.c1,fun o=>(bBoxF k b h.lt o).trans (h.fz o)⟩
theorem Bx2.grown {w w':World} {b:Nat} {u0 u1:Value} {row:Option Nat} (h:Bx2 w b u0 u1) (k:w.grownBy w' row) (hne:row≠some b):Bx2 w' b u0 u1 :=
  ⟨World.grownBy.cell k h.c0 (fun e=>hne e.symm),World.grownBy.cell k h.c1 (fun e=>hne e.symm),fun o=>(gBoxF k b h.lt (fun q hq e=>hne (by rw [hq,e])) o).trans (h.fz o)⟩
theorem Bx2.upd {w w':World} {b:Nat} {u0 u1:Value} {fs:List Nat} (h:Bx2 w b u0 u1) (k:Upd fs w w') (hne:b ∉ fs):Bx2 w' b u0 u1 :=
  ⟨(uBox k b h.lt hne 0).trans h.c0,(uBox k b h.lt hne 1).trans h.c1,fun o=>(uBoxF k b h.lt hne o).trans (h.fz o)⟩
theorem Bx2.set0 {w:World} {b:Nat} {u0 u1:Value} (h:Bx2 w b u0 u1) (x:Value):Bx2 (w.setCell ⟨b,0,none⟩ x) b x u1:=by
  have h0:=h.c0;have h1:=h.c1;have h2:=h.fz
  exact ⟨by go_simp,by go_simp,fun o=>by simp [h2]⟩
theorem Bx2.set1 {w:World} {b:Nat} {u0 u1:Value} (h:Bx2 w b u0 u1) (x:Value):Bx2 (w.setCell ⟨b,1,none⟩ x) b u0 x:=by
  have h0:=h.c0;have h1:=h.c1;have h2:=h.fz
  exact ⟨by go_simp,by go_simp,fun o=>by simp [h2]⟩
theorem Upd.trans2 {fs gs:List Nat} {a b c:World} (h:Upd fs a b) (k:Upd gs b c) (hg:∀ q∈gs,q∈fs∨a.heap.size≤q):Upd fs a c :=
  ⟨k.os.trans h.os,k.tape.trans h.tape,k.output.trans h.output,Nat.le_trans h.size k.size,fun i hi hn=>(k.block i (Nat.lt_of_lt_of_le hi h.size) (fun hm=>by
    rcases hg i hm with h1 | h1
    · exact hn h1
    · omega)).trans (h.block i hi hn)⟩
theorem few_each {α:Type} {c:α→Nat} {x:α}:∀ {l:List α},x∈l→c x≤sumBulk c l
  | y :: l,h=>by
    simp only [sumBulk]
    rcases List.mem_cons.1 h with rfl | h
    · omega
    · have:=few_each (c:=c) h;omega
theorem fewT_ro {t:Team} (h:fewT t):∀ r∈t.robots,fewF r.factors:=fun r hr=>by
  have:r.num≤sumBulk Robot.num t.robots:=few_each hr
  have h2:r.num=1+r.factors.length:=rfl
  unfold fewT numT at h;unfold fewF;omega
theorem fewT_row {t:Team} (h:fewT t):∀ l∈t.channels,sumBulk Chan.num l≤4194304:=fun r hr=>by
  have:numCs r≤sumBulk numCs t.channels:=few_each hr
  have h2:numCs r=1+sumBulk Chan.num r:=rfl
  unfold fewT numT at h;omega
theorem few_row {l:List Chan} (h:sumBulk Chan.num l≤4194304):∀ c∈l,fewC c:=fun c hc=>few_Ce (Nat.le_trans (few_each hc) h)
theorem fewT_len {t:Team} (h:fewT t):t.robots.length≤4194304∧t.channels.length≤4194304:=by
  have h1:=sum_one (c:=Robot.num) (fun x=>by unfold Robot.num;omega) t.robots
  have h2:=sum_one (c:=numCs) (fun x=>by unfold numCs;omega) t.channels
  unfold fewT numT at h;omega
theorem row_len {l:List Chan} (h:sumBulk Chan.num l≤4194304):l.length≤4194304:=by
  have h1:=sum_one (c:=Chan.num) (fun x=>by unfold Chan.num;omega) l
  omega
theorem take_snoc {α:Type} {l:List α} {k:Nat} {x:α} (h:Hid (l[k]? = some x)):l.take k++[x]=l.take (k+1):=by
  have h':l[k]? = some x:=h
  obtain ⟨hk,rfl⟩:=List.getElem?_eq_some_iff.1 h'
  rw [List.take_succ_eq_append_getElem hk]
theorem take_all_ {α:Type} {l:List α} {n:Nat} (h:Hid (l.length=n)):l.take n=l:=by
  have h':l.length=n:=h
  rw [← h',List.take_length]
theorem push_at {α:Type} {K:World→List Nat→List Value→α→Prop} (hK:Loc K) {B e sz n c:Nat} {w1:World} {fss:List (List Nat)} {css:List (List Value)} {f:List Nat} {A:Option Addr} {l:List α} {cs:List Value} {x:α}
    (h1:Own w1 0 e sz A n c css) (h2:Each (K w1) fss css l) (hf:Fresh B w1 (obl A++fss.flatten)) (hk:K w1 f cs x) (hff:Fresh B w1 f) (hap:∀ q∈obl A++fss.flatten,q ∉ f) (hB:B≤w1.heap.size)
    (w2:World) (A':Option Addr) (c':Nat) (ho:Own w2 0 e sz A' (n+1) c' (css++[cs])) (hg:w1.grownBy w2 (ob A)) (hat:ob A'=ob A∨ob A'=some w1.heap.size) :
      ∃ fs',OwSl K w2 fs' e sz A' (n+1) c' (l++[x])∧Fresh B w2 fs':=by
  obtain ⟨nA,nF,nd⟩:=List.nodup_append.1 hf.nodup
  have hl2:=h2.lt_ hK
  have kp:∀ q,q∈fss.flatten∨q∈f→w2.heap[q]? = w1.heap[q]?:=by
    intro q hq
    refine hg.block q (by rcases hq with hq | hq;exact hl2 q hq;exact hff.hi q hq) (fun e=>?_)
    have ha:=mem_obl.2 e.symm
    rcases hq with hq | hq
    · exact nd q ha q hq rfl
    · exact hap q (List.mem_append.2 (.inl ha)) hq
  have hE:Each (K w2) (fss++[f]) (css++[cs]) (l++[x]):=(h2.keep_ hK fun q hq=>kp q (.inl hq)).append (Each.one (hK.keep hk fun q hq=>kp q (.inr hq)))
  refine ⟨obl A'++(fss++[f]).flatten,⟨css++[cs],fss++[f],ho,hE,rfl⟩,?_⟩
  have hflat:(fss++[f]).flatten=fss.flatten++f:=by simp
  rw [hflat]
  have hlt2:=hg.size
  have dA:∀ q∈obl A',q ∉ fss.flatten++f∧B≤q∧q < w2.heap.size:=by
    intro q hq
    have hq2:=mem_obl.1 hq
    have hql:=(ho.lt q hq2).2
    rcases hat with hat | hat
    · rw [hat] at hq2
      have ha:=mem_obl.2 hq2
      refine ⟨fun hm=>?_,hf.lo q (List.mem_append.2 (.inl ha)),hql⟩
      rcases List.mem_append.1 hm with hm | hm
      · exact nd q ha q hm rfl
      · exact hap q (List.mem_append.2 (.inl ha)) hm
    · rw [hat] at hq2
      have e:=Option.some.inj hq2
      refine ⟨fun hm=>?_,by omega,hql⟩
      rcases List.mem_append.1 hm with hm | hm
      · have:=hl2 q hm;omega
      · have:=hff.hi q hm;omega
  refine ⟨?_,?_,?_⟩
  · refine List.nodup_append.2 ⟨by unfold obl;cases ob A' <;> simp,List.nodup_append.2 ⟨nF,hff.nodup,fun a ha b hb e=>?_⟩,fun a ha b hb e=>(dA a ha).1 (e ▸ hb)⟩
    subst e
    exact hap a (List.mem_append.2 (.inr ha)) hb
  · intro q hq
    rcases List.mem_append.1 hq with hq | hq
    · exact (dA q hq).2.1
    · rcases List.mem_append.1 hq with hq | hq
      · exact hf.lo q (List.mem_append.2 (.inr hq))
      · exact hff.lo q hq
  · intro q hq
    rcases List.mem_append.1 hq with hq | hq
    · exact (dA q hq).2.2
    · rcases List.mem_append.1 hq with hq | hq
      · have:=hl2 q hq;omega
      · have:=hff.hi q hq;omega
theorem OwSl.push' {α:Type} {K:World→List Nat→List Value→α→Prop} (hK:Loc K) {B e sz n c:Nat} {wr:World} {fs:List Nat} {A:Option Addr} {l:List α} (h:OwSl K wr fs e sz A n c l) (hf:Fresh B wr fs) (hB:B≤wr.heap.size) :
    ∃ css,Own wr 0 e sz A n c css∧∀ (W2:World),Below wr.heap.size wr W2→∀ (f:List Nat) (cs:List Value) (x:α),K W2 f cs x→Fresh wr.heap.size W2 f→∀ (w2:World) (A':Option Addr) (c':Nat),Own w2 0 e sz A' (n+1) c' (css++[cs])→W2.grownBy w2 (ob A)→(ob A'=ob A∨ob A'=some W2.heap.size) →
      ∃ fs',OwSl K w2 fs' e sz A' (n+1) c' (l++[x])∧Fresh B w2 fs':=by
  have hlt:=h.lt hK
  obtain ⟨css,fss,h1,h2,rfl⟩:=h
  refine ⟨css,h1,fun W2 hb f cs x hk hff w2 A' c' ho hg hat=>?_⟩
  exact push_at hK (h1.below hb) (h2.keep_ hK fun k hk=>hb.block k (hlt k (List.mem_append.2 (.inr hk)))) (hf.grow hb.size) hk (hff.rebase hB) (fun q hq hm=>by have:=hf.hi q hq;have:=hff.lo q hm;omega) (by have:=hb.size;omega) w2 A' c' ho hg hat
theorem ob_ne {α:Type} {K:World→List Nat→List Value→α→Prop} {w w1:World} {B b:Nat} {fs:List Nat} {e sz n c:Nat} {A:Option Addr} {l:List α} (h:OwSl K w fs e sz A n c l) (hf:Fresh B w1 fs) (hb:b < B):ob A≠some b:=fun e=>by
  have:=hf.lo b (h.obl_mem b (mem_obl.2 e));omega
theorem impl_copyTeam_k (v:TV) (t:Team) (w:World) (hm:fewT t) (hr:RdT w v t) :
    Calls Tryz.prog 33 #[vTeam v] w fun e w'=>∃ v',e=.returned (vTeam v')∧OwT w' v' t∧Fresh w.heap.size w' (fpT v')∧Below w.heap.size w w':=by
  have FR:=Lib.hid (fewT_ro hm)
  have FC:=Lib.hid (fewT_row hm)
  have FL:=fewT_len hm
  obtain ⟨⟨Ar,nr,cr⟩,⟨Ac,nc,cc⟩,fr0,fc0⟩:=v
  obtain ⟨r0,r1⟩:=hr
  dsimp only at r0 r1
  have lr:=r0.len
  have lc:=r1.len
  have NR:nr≤4194304:=by have:=lr.out;omega
  have NC:nc≤4194304:=by have:=lc.out;omega
  obtain ⟨i0,hi,hz0,hz1,hz2⟩:=info_parts info_RobotS
  obtain ⟨j0,hj,hy0,hy1,hy2⟩:=info_parts info_ChannelS
  obtain ⟨l0,hl,hx0,hx1,hx2⟩:=info_parts info_ChannelSS
  obtain ⟨k0,hk,hk0,hk1,hk2⟩:=info_parts info_Factor
  clear hm FL
  go_enter Tryz.func33,Tryz.ntmps33
  go_wp2_with fail
  go_loopw [15] (fun i wr=>∃ (k:Nat) (A:Option Addr) (c:Nat) (fr:List Nat),k≤nr∧i=.int .i64 k∧Bx2 wr w.heap.size (.slice Ar nr cr) (.slice Ac nc cc)∧Bx2 wr (w.heap.size+1) (.slice none 0 0) (.slice none 0 0)∧Bx2 wr (w.heap.size+1+1) (.slice A k c) (.slice none 0 0)∧OwSl KRo wr fr 47 2 A k c (t.robots.take k)∧Fresh (w.heap.size+3) wr fr∧Below w.heap.size w wr) (fun i _=>nr - (intOf i).toNat)
  case atStart=>
    refine ⟨0,none,0,[],by omega,rfl,?_,?_,?_,OwSl.nil_ _ _ _,Fresh.nil _ _,bAlloc (bAlloc (bAlloc (Below.refl _ _) _) _) _⟩
    · exact ⟨by go_simp,by go_simp,fun o=>by go_simp⟩
    · exact ⟨by go_simp,by go_simp,fun o=>by go_simp⟩
    · exact ⟨by go_simp,by go_simp,fun o=>by go_simp⟩
  case round =>
    obtain ⟨k,A,c,fr,hkn,rfl,X0,X1,X2,how,hfr,HB⟩:=hrel
    have Z2:=X2.lt
    by_cases hlt:k < nr
    · obtain ⟨x,cs,g,off,hx,hAx,hR,hc⟩:=RdSl.at_ (RdSl.below (R:=RdRo) RdRo.below r0 HB) hlt
      obtain ⟨vr,rfl,hRd,hLn⟩:=hR
      have q0:wr.cell? ⟨g,off+k * 2,none⟩=some (.slice vr.A vr.n vr.c):=hc 0 _ rfl
      have q1:wr.cell? ⟨g,off+k * 2+1,none⟩=some (.string x.journal):=hc 1 _ rfl
      clear hc
      subst hAx
      have hfx:=FR.out x (List.mem_of_getElem? hx.out)
      have hvx:vr.n≤4194304:=by have:=hRd.len.out;unfold fewF at hfx;omega
      have z0:(0:Int)≤(k:Int):=by omega
      have z1:(k:Int) < (nr:Int):=by omega
      go_wp2_with fail
      refine region_at fun W hW=>?_
      have hWb:Below wr.heap.size wr W:=by rw [hW.out];exact bAlloc (Below.refl _ _) _
      have fc0:W.cell? ⟨wr.heap.size,0,none⟩=some (.slice vr.A vr.n vr.c):=by rw [hW.out];simp
      have fc1:W.cell? ⟨wr.heap.size,1,none⟩=some (.string x.journal):=by rw [hW.out];simp
      have hfz:∀ o,W.frozen? ⟨wr.heap.size,o,none⟩=false:=fun o=>by rw [hW.out];simp
      clear hW
      have hWz:wr.heap.size < W.heap.size:=cell_lt fc0
      have XR:Bx2 W wr.heap.size (.slice vr.A vr.n vr.c) (.string x.journal):=⟨fc0,fc1,hfz⟩
      have X2W:=X2.below hWb
      have b0:=X2W.c0
      have b2:=X2W.fz
      have b9:=X2W.lt
      have hRdW:=hRd.below hWb
      obtain ⟨css,hco,hpush⟩:=how.push' loc_Ro hfr (by omega)
      have HCO:=Lib.hid hco
      have HPU:=Lib.hid hpush
      have hAb:Hid (ob A≠some (w.heap.size+1+1)):=ob_ne how hfr (by omega)
      have hAr:Hid (ob A≠some wr.heap.size):=fun e=>by have:=how.lt loc_Ro _ (how.obl_mem _ (mem_obl.2 e));omega
      have hne2:w.heap.size+1+1≠wr.heap.size:=by omega
      clear hco hpush hRd q0 q1
      go_region_law (first | (go_simp;go_at_call 84;refine Calls.mono (copyFactors_k vr x.factors _ hfx ?_) ?_;exact hRdW.below (by repeat (first | with_reducible exact Below.refl _ _ | with_reducible refine bAlloc ?_ _ | with_reducible refine bDrew ?_ | with_reducible refine bDrewN ?_ _));rintro e w3 ⟨v3,rfl,ho3,hf3,hk3⟩;have HB3:=bTrans (show Below wr.heap.size wr _ from (by repeat (first | with_reducible exact hWb | with_reducible refine bAlloc ?_ _ | with_reducible refine bDrew ?_ | with_reducible refine bDrewN ?_ _))) hk3;have HW3:=bTrans (show Below W.heap.size W _ from (by repeat (first | with_reducible exact (Below.refl _ _) | with_reducible refine bAlloc ?_ _ | with_reducible refine bDrew ?_ | with_reducible refine bDrewN ?_ _))) hk3;have Y2:=Bx2.below X2 HB3;have YR:=Bx2.below XR HW3;have y0:=Y2.c0;have y1:=Y2.fz;have y2:=YR.c0;have y3:=YR.c1;have yz:=Y2.lt;have yw:=YR.lt) | (refine step_append rfl (.tmp 20) (.tmp 27) 25 rfl 0 47 2 40 i0 _ Tryz.underlying25 hi hz0 hz1 hz2 rfl (by omega) A k c css rfl (HCO.out.below (by repeat (first | with_reducible exact HB3 | with_reducible refine bAlloc ?_ _ | with_reducible refine bDrew ?_ | with_reducible refine bDrewN ?_ _))) _ 1 1 [cRobot v3 x] rfl (Row.new1' _ _ (cRobot v3 x) 2 _ (by simp)) (by simp [cRobot]) (by simp [cRobot,Value.oneCell']) (by simp only [maxLen];omega) (by omega) (Nat.zero_le _) ?_;intro A4 c4 w4 ho4 hg4 hat4;have X4:=Bx2.grown (Bx2.below X2 (by repeat (first | with_reducible exact HB3 | with_reducible refine bAlloc ?_ _ | with_reducible refine bDrew ?_ | with_reducible refine bDrewN ?_ _))) hg4 hAb.out;have tb1:=X4.c0;have tbf:=X4.fz;obtain ⟨fs',hs',hf'⟩:=HPU.out _ (by repeat (first | with_reducible exact HB3 | with_reducible refine bAlloc ?_ _ | with_reducible refine bDrew ?_ | with_reducible refine bDrewN ?_ _)) (fpF v3) (cRobot v3 x) x ⟨v3,rfl,OwF.below ho3 (by repeat (first | with_reducible exact (Below.refl _ _) | with_reducible refine bAlloc ?_ _ | with_reducible refine bDrew ?_ | with_reducible refine bDrewN ?_ _)),rfl⟩ (Fresh.grow (Fresh.rebase hf3 (Nat.le_of_lt hWz)) (by simp)) w4 A4 c4 ho4 hg4 hat4;have H4:=(bGrown (show Below w.heap.size w _ from bTrans HB (by repeat (first | with_reducible exact HB3 | with_reducible refine bAlloc ?_ _ | with_reducible refine bDrew ?_ | with_reducible refine bDrewN ?_ _))) hg4 (fun q hq=>by have:=hfr.lo q (how.obl_mem q (mem_obl.2 hq));omega));have X0':=Bx2.grown (Bx2.below X0 (by repeat (first | with_reducible exact HB3 | with_reducible refine bAlloc ?_ _ | with_reducible refine bDrew ?_ | with_reducible refine bDrewN ?_ _))) hg4 (ob_ne how hfr (by omega));have X1':=Bx2.grown (Bx2.below X1 (by repeat (first | with_reducible exact HB3 | with_reducible refine bAlloc ?_ _ | with_reducible refine bDrew ?_ | with_reducible refine bDrewN ?_ _))) hg4 (ob_ne how hfr (by omega))))
      all_goals
        have hs4:=hs'.upd loc_Ro ((Upd.refl [w.heap.size+1+1] w4).set_in (p:=⟨w.heap.size+1+1,0,none⟩) (by simp) (.slice A4 (k+1) c4)) (fun q hq hm=>by have:=hf'.lo q hq;simp at hm;omega)
        rw [take_snoc hx] at hs4
        have X2n:=X4.set0 (.slice A4 (k+1) c4)
        have uS:Upd [w.heap.size+1+1] w4 (w4.setCell ⟨w.heap.size+1+1,0,none⟩ (.slice A4 (k+1) c4)):=(Upd.refl _ _).set_in (by simp) _
        have X0n:=X0'.upd uS (by simp;omega)
        have X1n:=X1'.upd uS (by simp)
        have H4n:=bUpd H4 uS (fun q hq=>by simp at hq;omega)
        have hf4:=hf'.grow uS.size
        go_wp2_with fail
        go_roundw
        case rel=>exact ⟨k+1,A4,c4,fs',by omega,by go_num,X0n,X1n,X2n,hs4,hf4,H4n⟩
        case measure=>simp [intOf];omega
    · obtain rfl:nr=k:=by omega
      rw [take_all_ lr] at how
      obtain ⟨a0,a1,a2⟩:=X0
      have a3:=cell_lt a0
      obtain ⟨wq,hwq⟩:∃ wq:World,wr=wq:=⟨_,rfl⟩
      rw [hwq] at X1 X2 how hfr HB a0 a1 a2 a3 ⊢
      clear hwq
      have x20:=X2.c0;have x21:=X2.c1;have x22:=X2.lt
      go_wp2_with fail
      go_loopw [34,7,8] (fun i y7 y8 wr=>∃ (k:Nat) (A2:Option Addr) (c2:Nat) (fc:List Nat),k≤nc∧i=.int .i64 k∧Bx2 wr (w.heap.size+1+1) (.slice A nr c) (.slice A2 k c2)∧OwSl KCs wr fc 71 1 A2 k c2 (t.channels.take k)∧Fresh wq.heap.size wr fc∧Upd [w.heap.size+1+1] wq wr) (fun i _ _ _=>nc - (intOf i).toNat)
      case atStart=>exact ⟨0,none,0,[],by omega,rfl,X2,OwSl.nil_ _ _ _,Fresh.nil _ _,Upd.refl _ _⟩
      case round =>
        obtain ⟨k,A2,c2,fc,hkn,rfl,Y2,hoc,hfc,hup⟩:=hrel
        obtain ⟨wo,rfl⟩:∃ wo:World,wo=wr:=⟨_,rfl⟩
        have HBr:=bUpd HB hup (fun q hq=>by simp at hq;omega)
        have b0:=Y2.c0;have b1:=Y2.c1;have b2:=Y2.fz;have b3:=Y2.lt
        have us:=hup.size
        by_cases hlt:k < nc
        · obtain ⟨row,cs,g,off,hx,hAx,hR,hc⟩:=RdSl.at_ (RdSl.below (R:=RdCs) RdCs.below r1 HBr) hlt
          obtain ⟨vs,rfl,hRs,hLn⟩:=hR
          have q0:wo.cell? ⟨g,off+k,none⟩=some (.slice vs.A vs.n vs.c):=by simpa using hc 0 _ rfl
          clear hc
          subst hAx
          have lvs:=hRs.len
          have hrow:=FC.out row (List.mem_of_getElem? hx.out)
          have hvs:vs.n≤4194304:=by have:=row_len hrow;have:=lvs.out;omega
          have HROW:=Lib.hid (few_row hrow)
          obtain ⟨css,hco,hpush⟩:=hoc.push' loc_Cs hfc us
          have HCO:=Lib.hid hco
          have HPU:=Lib.hid hpush
          have hAb:Hid (ob A2≠some (w.heap.size+1+1)):=ob_ne hoc hfc (by omega)
          have hA2l:Hid (∀ q,ob A2=some q→wq.heap.size≤q∧q < wo.heap.size):=fun q hq=>⟨hfc.lo q (hoc.obl_mem q (mem_obl.2 hq)),hfc.hi q (hoc.obl_mem q (mem_obl.2 hq))⟩
          clear hco hpush hrow
          have z0:(0:Int)≤(k:Int):=by omega
          have z1:(k:Int) < (nc:Int):=by omega
          go_wp2_with fail
          go_loopw [41,8] (fun i o ww=>∃ (m:Nat) (A3:Option Addr) (c3:Nat) (fe:List Nat),m≤vs.n∧i=.int .i64 m∧o=.slice A3 m c3∧OwSl KCe ww fe 84 6 A3 m c3 (row.take m)∧Fresh wo.heap.size ww fe∧Below wo.heap.size wo ww) (fun i _ _=>vs.n - (intOf i).toNat)
          case atStart=>exact ⟨0,_,0,[wo.heap.size],by omega,rfl,rfl,⟨[],[],Own.made' _ _ _ (by simp) rfl,trivial,by simp [obl,ob]⟩,⟨by simp,by simp,by simp⟩,bAlloc (Below.refl _ _) _⟩
          case round =>
            obtain ⟨m,A3,c3,fe,hmn,rfl,rfl,hoe,hfe,hbw⟩:=hrel
            obtain ⟨ww,rfl⟩:∃ ww:World,ww=wr:=⟨_,rfl⟩
            have hbs:=hbw.size
            by_cases hml:m < vs.n
            · obtain ⟨ch,cs,g3,off3,hy,hAy,hR,hc⟩:=RdSl.at_ (RdSl.below (R:=RdCe) RdCe.below hRs hbw) hml
              obtain ⟨vc,rfl,hRc,hLc⟩:=hR
              have p0:ww.cell? ⟨g3,off3+m * 6,none⟩=some (.slice vc.q.A vc.q.n vc.q.c):=hc 0 _ rfl
              have p1:ww.cell? ⟨g3,off3+m * 6+1,none⟩=some (.int .i64 ch.base):=hc 1 _ rfl
              have p2:ww.cell? ⟨g3,off3+m * 6+2,none⟩=some (.int .i64 ch.expected):=hc 2 _ rfl
              have p3:ww.cell? ⟨g3,off3+m * 6+3,none⟩=some (.slice vc.i.A vc.i.n vc.i.c):=hc 3 _ rfl
              have p4:ww.cell? ⟨g3,off3+m * 6+4,none⟩=some (.slice vc.n.A vc.n.n vc.n.c):=hc 4 _ rfl
              have p5:ww.cell? ⟨g3,off3+m * 6+5,none⟩=some (.slice vc.a.A vc.a.n vc.a.c):=hc 5 _ rfl
              clear hc
              rw [hAy]
              have hfch:=HROW.out ch (List.mem_of_getElem? hy.out)
              obtain ⟨css2,hco2,hpush2⟩:=hoe.push' loc_Ce hfe hbs
              have HCO2:=Lib.hid hco2
              have HPU2:=Lib.hid hpush2
              clear hco2 hpush2
              have z2:(0:Int)≤(m:Int):=by omega
              have z3:(m:Int) < (vs.n:Int):=by omega
              have tok:True:=trivial
              go_wp2_with fail
              refine Calls.mono (copyChannel_k vc ch _ hfch ?_) ?_
              · exact hRc.below (bAlloc (Below.refl _ _) _)
              rintro e w3 ⟨v3,rfl,ho3,hf3,hk3⟩
              have HB3:=bTrans (bAlloc (Below.refl ww.heap.size ww) _) hk3
              go_wp2_with (at_builtin;have _t:=tok;refine wpList_append rfl (.tmp 45) (.tmp 48) 71 rfl 0 84 6 112 j0 _ Tryz.underlying71 hj hy0 hy1 hy2 rfl (by omega) A3 m c3 css2 rfl (HCO2.out.below (by repeat (first | with_reducible exact HB3 | with_reducible refine bAlloc ?_ _ | with_reducible refine bDrew ?_ | with_reducible refine bDrewN ?_ _))) _ 1 1 [cChan v3 ch.base ch.expected] rfl (Row.new1' _ _ (cChan v3 ch.base ch.expected) 6 _ (by simp)) (by simp [cChan]) (by simp [cChan,Value.oneCell']) (by simp only [maxLen];omega) (by omega) (Nat.zero_le _) ?_;clear tok _t;intro A4 c4 w4 ho4 hg4 hat4;obtain ⟨fs',hs',hf'⟩:=HPU2.out _ (by repeat (first | with_reducible exact HB3 | with_reducible refine bAlloc ?_ _ | with_reducible refine bDrew ?_ | with_reducible refine bDrewN ?_ _)) (fpC v3) (cChan v3 ch.base ch.expected) ch ⟨v3,rfl,OwC.below ho3 (by repeat (first | with_reducible exact (Below.refl _ _) | with_reducible refine bAlloc ?_ _ | with_reducible refine bDrew ?_ | with_reducible refine bDrewN ?_ _)),rfl⟩ (Fresh.grow (Fresh.rebase hf3 (by simp)) (by simp)) w4 A4 c4 ho4 hg4 hat4;have H4:=(bGrown (show Below wo.heap.size wo _ from bTrans hbw (by repeat (first | with_reducible exact HB3 | with_reducible refine bAlloc ?_ _ | with_reducible refine bDrew ?_ | with_reducible refine bDrewN ?_ _))) hg4 (fun q hq=>hfe.lo q (hoe.obl_mem q (mem_obl.2 hq)))))
              rw [take_snoc hy] at hs'
              go_roundw
              case rel=>exact ⟨m+1,A4,c4,fs',by omega,by go_num,rfl,hs',hf',H4⟩
              case measure=>simp [intOf];omega
            · obtain rfl:m=vs.n:=by omega
              rw [take_all_ lvs] at hoe
              have c20:=bCell hbw b0
              have c21:=bCell hbw b1
              have c22:=fun o=>(bBoxF hbw _ b3 o).trans (b2 o)
              have c23:=cell_lt c20
              have tok:True:=trivial
              go_wp2_with (at_builtin;have _t:=tok;refine wpList_append rfl (.tmp 52) (.tmp 54) 26 rfl 0 71 1 24 l0 _ Tryz.underlying26 hl hx0 hx1 hx2 rfl (by omega) A2 k c2 css rfl (HCO.out.below (by repeat (first | with_reducible exact hbw | with_reducible refine bAlloc ?_ _ | with_reducible refine bDrew ?_ | with_reducible refine bDrewN ?_ _))) _ 1 1 [[.slice A3 vs.n c3]] rfl (Row.new1' _ _ [.slice A3 vs.n c3] 1 _ (by simp)) (by simp) (by simp [Value.oneCell']) (by simp only [maxLen];omega) (by omega) (Nat.zero_le _) ?_;clear tok _t;intro A4 c4 w4 ho4 hg4 hat4;obtain ⟨fs',hs',hf'⟩:=HPU.out _ (by repeat (first | with_reducible exact hbw | with_reducible refine bAlloc ?_ _ | with_reducible refine bDrew ?_ | with_reducible refine bDrewN ?_ _)) fe [.slice A3 vs.n c3] row ⟨⟨A3,vs.n,c3⟩,rfl,OwSl.below loc_Ce hoe (by repeat (first | with_reducible exact (Below.refl _ _) | with_reducible refine bAlloc ?_ _ | with_reducible refine bDrew ?_ | with_reducible refine bDrewN ?_ _))⟩ (Fresh.grow hfe (by simp)) w4 A4 c4 ho4 hg4 hat4;have Y4:=Bx2.grown (Bx2.below Y2 (by repeat (first | with_reducible exact hbw | with_reducible refine bAlloc ?_ _ | with_reducible refine bDrew ?_ | with_reducible refine bDrewN ?_ _))) hg4 hAb.out;have d0:=Y4.c0;have d1:=Y4.c1;have d2:=Y4.fz;have U4:=(Upd.trans2 (hup.then_below (show Below wo.heap.size wo _ from (by repeat (first | with_reducible exact hbw | with_reducible refine bAlloc ?_ _ | with_reducible refine bDrew ?_ | with_reducible refine bDrewN ?_ _)))) (Upd.of_row hg4) (fun q hq=>.inr (hA2l.out q (mem_obl.1 hq)).1)))
              have uS:Upd [w.heap.size+1+1] w4 (w4.setCell ⟨w.heap.size+1+1,1,none⟩ (.slice A4 (k+1) c4)):=(Upd.refl _ _).set_in (by simp) _
              have hs4:=hs'.upd loc_Cs uS (fun q hq hm=>by have:=hf'.lo q hq;simp at hm;omega)
              rw [take_snoc hx] at hs4
              have Y4n:=Y4.set1 (.slice A4 (k+1) c4)
              have hf4:=hf'.grow uS.size
              have U4n:=U4.trans uS
              go_wp2_with fail
              go_roundw
              case rel=>exact ⟨k+1,A4,c4,fs',by omega,by go_num,Y4n,hs4,hf4,U4n⟩
              case measure=>simp [intOf];omega
        · obtain rfl:k=nc:=by omega
          rw [take_all_ lc] at hoc
          have Z1:=X1.upd hup (by simp)
          have z0:=Z1.c0;have z1:=Z1.c1;have z2:=Z1.fz
          have hro:=how.upd loc_Ro hup (fun q hq hm=>by have:=hfr.lo q hq;simp at hm;omega)
          go_wp2_with fail
          refine bodyPost_ret (v:=vTeam ⟨⟨A,nr,c⟩,⟨A2,k,c2⟩,fr,fc⟩) (by simp [*,results,Tryz.results33,go_sem]) rfl ?_
          have uS:Upd [w.heap.size+1] wo (((wo.setCell ⟨w.heap.size+1,0,none⟩ (.slice A nr c))).setCell ⟨w.heap.size+1,1,none⟩ (.slice A2 k c2)):=((Upd.refl _ _).set_in (by simp) _).set_in (by simp) _
          refine ⟨_,rfl,⟨hro.upd loc_Ro uS (fun q hq hm=>by have:=hfr.lo q hq;simp at hm;omega),hoc.upd loc_Cs uS (fun q hq hm=>by have:=hfc.lo q hq;simp at hm;omega)⟩,?_,?_⟩
          · exact Fresh.append ((hfr.rebase (by omega)).grow (by have:=hup.size;have:=uS.size;omega)) (hfc.grow uS.size) (by omega) (fun q hq=>hfr.hi q hq)
          · exact bUpd HBr uS (fun q hq=>by simp at hq;omega)
theorem spec_l30Copy_k (v:TV) (t:Team) (w:World) (hm:fewT t) (hr:RdT w v t) :
    Calls Tryz.prog 55 #[vTeam v] w fun e w'=>∃ v',e=.returned (vTeam v')∧OwT w' v' t∧Fresh w.heap.size w' (fpT v')∧Below w.heap.size w w':=by
  have FR:=Lib.hid (fewT_ro hm)
  have FC:=Lib.hid (fewT_row hm)
  have FL:=fewT_len hm
  obtain ⟨⟨Ar,nr,cr⟩,⟨Ac,nc,cc⟩,fr0,fc0⟩:=v
  obtain ⟨r0,r1⟩:=hr
  dsimp only at r0 r1
  have lr:=r0.len
  have lc:=r1.len
  have NR:nr≤4194304:=by have:=lr.out;omega
  have NC:nc≤4194304:=by have:=lc.out;omega
  obtain ⟨i0,hi,hz0,hz1,hz2⟩:=info_parts info_RobotS
  obtain ⟨j0,hj,hy0,hy1,hy2⟩:=info_parts info_ChannelS
  obtain ⟨l0,hl,hx0,hx1,hx2⟩:=info_parts info_ChannelSS
  obtain ⟨k0,hk,hk0,hk1,hk2⟩:=info_parts info_Factor
  clear hm FL
  go_enter Tryz.func55,Tryz.ntmps55
  go_wp2_with fail
  go_loopw [15] (fun i wr=>∃ (k:Nat) (A:Option Addr) (c:Nat) (fr:List Nat),k≤nr∧i=.int .i64 k∧Bx2 wr w.heap.size (.slice Ar nr cr) (.slice Ac nc cc)∧Bx2 wr (w.heap.size+1) (.slice none 0 0) (.slice none 0 0)∧Bx2 wr (w.heap.size+1+1) (.slice A k c) (.slice none 0 0)∧OwSl KRo wr fr 47 2 A k c (t.robots.take k)∧Fresh (w.heap.size+3) wr fr∧Below w.heap.size w wr) (fun i _=>nr - (intOf i).toNat)
  case atStart=>
    refine ⟨0,none,0,[],by omega,rfl,?_,?_,?_,OwSl.nil_ _ _ _,Fresh.nil _ _,bAlloc (bAlloc (bAlloc (Below.refl _ _) _) _) _⟩
    · exact ⟨by go_simp,by go_simp,fun o=>by go_simp⟩
    · exact ⟨by go_simp,by go_simp,fun o=>by go_simp⟩
    · exact ⟨by go_simp,by go_simp,fun o=>by go_simp⟩
  case round =>
    obtain ⟨k,A,c,fr,hkn,rfl,X0,X1,X2,how,hfr,HB⟩:=hrel
    have Z2:=X2.lt
    by_cases hlt:k < nr
    · obtain ⟨x,cs,g,off,hx,hAx,hR,hc⟩:=RdSl.at_ (RdSl.below (R:=RdRo) RdRo.below r0 HB) hlt
      obtain ⟨vr,rfl,hRd,hLn⟩:=hR
      have q0:wr.cell? ⟨g,off+k * 2,none⟩=some (.slice vr.A vr.n vr.c):=hc 0 _ rfl
      have q1:wr.cell? ⟨g,off+k * 2+1,none⟩=some (.string x.journal):=hc 1 _ rfl
      clear hc
      subst hAx
      have hfx:=FR.out x (List.mem_of_getElem? hx.out)
      have hvx:vr.n≤4194304:=by have:=hRd.len.out;unfold fewF at hfx;omega
      have z0:(0:Int)≤(k:Int):=by omega
      have z1:(k:Int) < (nr:Int):=by omega
      go_wp2_with fail
      refine region_at fun W hW=>?_
      have hWb:Below wr.heap.size wr W:=by rw [hW.out];exact bAlloc (Below.refl _ _) _
      have fc0:W.cell? ⟨wr.heap.size,0,none⟩=some (.slice vr.A vr.n vr.c):=by rw [hW.out];simp
      have fc1:W.cell? ⟨wr.heap.size,1,none⟩=some (.string x.journal):=by rw [hW.out];simp
      have hfz:∀ o,W.frozen? ⟨wr.heap.size,o,none⟩=false:=fun o=>by rw [hW.out];simp
      clear hW
      have hWz:wr.heap.size < W.heap.size:=cell_lt fc0
      have XR:Bx2 W wr.heap.size (.slice vr.A vr.n vr.c) (.string x.journal):=⟨fc0,fc1,hfz⟩
      have X2W:=X2.below hWb
      have b0:=X2W.c0
      have b2:=X2W.fz
      have b9:=X2W.lt
      have hRdW:=hRd.below hWb
      obtain ⟨css,hco,hpush⟩:=how.push' loc_Ro hfr (by omega)
      have HCO:=Lib.hid hco
      have HPU:=Lib.hid hpush
      have hAb:Hid (ob A≠some (w.heap.size+1+1)):=ob_ne how hfr (by omega)
      have hAr:Hid (ob A≠some wr.heap.size):=fun e=>by have:=how.lt loc_Ro _ (how.obl_mem _ (mem_obl.2 e));omega
      have hne2:w.heap.size+1+1≠wr.heap.size:=by omega
      clear hco hpush hRd q0 q1
      go_region_law (first | (refine step_append rfl (.tmp 21) (.tmp 23) 23 rfl W.heap.size 34 8 80 k0 _ Tryz.underlying23 hk hk0 hk1 hk2 rfl (by omega) (some ⟨W.heap.size,0,none⟩) 0 0 [] rfl (Own.below (Own.made0 W 34 8 (Nat.le_refl _)) (by repeat (first | with_reducible exact (Below.refl _ _) | with_reducible refine bAlloc ?_ _ | with_reducible refine bDrew ?_ | with_reducible refine bDrewN ?_ _))) vr.A vr.n vr.c (x.factors.map Factor.cells) rfl (Row.below hRdW (by repeat (first | with_reducible exact Below.refl _ _ | with_reducible refine bAlloc ?_ _ | with_reducible refine bDrew ?_ | with_reducible refine bDrewN ?_ _))) one_F cell_F (by simp only [maxLen];omega) (by omega) (by simp) ?_;intro A3 c3 w3 ho3' hg3 hat3;have ho3:OwF w3 ⟨A3,vr.n,c3⟩ x.factors:=(by have h9:=ho3'.zero;simpa [OwF] using h9);have hf3:Fresh W.heap.size w3 (fpF ⟨A3,vr.n,c3⟩):=Fresh.obl_ ho3';have HW3:=bGrown (show Below W.heap.size W _ from (by repeat (first | with_reducible exact (Below.refl _ _) | with_reducible refine bAlloc ?_ _ | with_reducible refine bDrew ?_ | with_reducible refine bDrewN ?_ _))) hg3 (fun q hq=>by simp [ob] at hq;omega);have HB3:=bTrans hWb HW3;have Y2:=Bx2.below X2 HB3;have YR:=Bx2.below XR HW3;have y0:=Y2.c0;have y1:=Y2.fz;have y2:=YR.c0;have y3:=YR.c1;have yz:=Y2.lt;have yw:=YR.lt) | (refine step_append rfl (.tmp 20) (.tmp 28) 25 rfl 0 47 2 40 i0 _ Tryz.underlying25 hi hz0 hz1 hz2 rfl (by omega) A k c css rfl (HCO.out.below (by repeat (first | with_reducible exact HB3 | with_reducible refine bAlloc ?_ _ | with_reducible refine bDrew ?_ | with_reducible refine bDrewN ?_ _))) _ 1 1 [cRobot ⟨A3,vr.n,c3⟩ x] rfl (Row.new1' _ _ (cRobot ⟨A3,vr.n,c3⟩ x) 2 _ (by simp)) (by simp [cRobot]) (by simp [cRobot,Value.oneCell']) (by simp only [maxLen];omega) (by omega) (Nat.zero_le _) ?_;intro A4 c4 w4 ho4 hg4 hat4;have X4:=Bx2.grown (Bx2.below X2 (by repeat (first | with_reducible exact HB3 | with_reducible refine bAlloc ?_ _ | with_reducible refine bDrew ?_ | with_reducible refine bDrewN ?_ _))) hg4 hAb.out;have tb1:=X4.c0;have tbf:=X4.fz;obtain ⟨fs',hs',hf'⟩:=HPU.out _ (by repeat (first | with_reducible exact HB3 | with_reducible refine bAlloc ?_ _ | with_reducible refine bDrew ?_ | with_reducible refine bDrewN ?_ _)) (fpF ⟨A3,vr.n,c3⟩) (cRobot ⟨A3,vr.n,c3⟩ x) x ⟨⟨A3,vr.n,c3⟩,rfl,OwF.below ho3 (by repeat (first | with_reducible exact (Below.refl _ _) | with_reducible refine bAlloc ?_ _ | with_reducible refine bDrew ?_ | with_reducible refine bDrewN ?_ _)),rfl⟩ (Fresh.grow (Fresh.rebase hf3 (Nat.le_of_lt hWz)) (by simp)) w4 A4 c4 ho4 hg4 hat4;have H4:=(bGrown (show Below w.heap.size w _ from bTrans HB (by repeat (first | with_reducible exact HB3 | with_reducible refine bAlloc ?_ _ | with_reducible refine bDrew ?_ | with_reducible refine bDrewN ?_ _))) hg4 (fun q hq=>by have:=hfr.lo q (how.obl_mem q (mem_obl.2 hq));omega));have X0':=Bx2.grown (Bx2.below X0 (by repeat (first | with_reducible exact HB3 | with_reducible refine bAlloc ?_ _ | with_reducible refine bDrew ?_ | with_reducible refine bDrewN ?_ _))) hg4 (ob_ne how hfr (by omega));have X1':=Bx2.grown (Bx2.below X1 (by repeat (first | with_reducible exact HB3 | with_reducible refine bAlloc ?_ _ | with_reducible refine bDrew ?_ | with_reducible refine bDrewN ?_ _))) hg4 (ob_ne how hfr (by omega))))
      all_goals
        have hs4:=hs'.upd loc_Ro ((Upd.refl [w.heap.size+1+1] w4).set_in (p:=⟨w.heap.size+1+1,0,none⟩) (by simp) (.slice A4 (k+1) c4)) (fun q hq hm=>by have:=hf'.lo q hq;simp at hm;omega)
        rw [take_snoc hx] at hs4
        have X2n:=X4.set0 (.slice A4 (k+1) c4)
        have uS:Upd [w.heap.size+1+1] w4 (w4.setCell ⟨w.heap.size+1+1,0,none⟩ (.slice A4 (k+1) c4)):=(Upd.refl _ _).set_in (by simp) _
        have X0n:=X0'.upd uS (by simp;omega)
        have X1n:=X1'.upd uS (by simp)
        have H4n:=bUpd H4 uS (fun q hq=>by simp at hq;omega)
        have hf4:=hf'.grow uS.size
        go_wp2_with fail
        go_roundw
        case rel=>exact ⟨k+1,A4,c4,fs',by omega,by go_num,X0n,X1n,X2n,hs4,hf4,H4n⟩
        case measure=>simp [intOf];omega
    · obtain rfl:nr=k:=by omega
      rw [take_all_ lr] at how
      obtain ⟨a0,a1,a2⟩:=X0
      have a3:=cell_lt a0
      obtain ⟨wq,hwq⟩:∃ wq:World,wr=wq:=⟨_,rfl⟩
      rw [hwq] at X1 X2 how hfr HB a0 a1 a2 a3 ⊢
      clear hwq
      have x20:=X2.c0;have x21:=X2.c1;have x22:=X2.lt
      go_wp2_with fail
      go_loopw [35,7,8] (fun i y7 y8 wr=>∃ (k:Nat) (A2:Option Addr) (c2:Nat) (fc:List Nat),k≤nc∧i=.int .i64 k∧Bx2 wr (w.heap.size+1+1) (.slice A nr c) (.slice A2 k c2)∧OwSl KCs wr fc 71 1 A2 k c2 (t.channels.take k)∧Fresh wq.heap.size wr fc∧Upd [w.heap.size+1+1] wq wr) (fun i _ _ _=>nc - (intOf i).toNat)
      case atStart=>exact ⟨0,none,0,[],by omega,rfl,X2,OwSl.nil_ _ _ _,Fresh.nil _ _,Upd.refl _ _⟩
      case round =>
        obtain ⟨k,A2,c2,fc,hkn,rfl,Y2,hoc,hfc,hup⟩:=hrel
        obtain ⟨wo,rfl⟩:∃ wo:World,wo=wr:=⟨_,rfl⟩
        have HBr:=bUpd HB hup (fun q hq=>by simp at hq;omega)
        have b0:=Y2.c0;have b1:=Y2.c1;have b2:=Y2.fz;have b3:=Y2.lt
        have us:=hup.size
        by_cases hlt:k < nc
        · obtain ⟨row,cs,g,off,hx,hAx,hR,hc⟩:=RdSl.at_ (RdSl.below (R:=RdCs) RdCs.below r1 HBr) hlt
          obtain ⟨vs,rfl,hRs,hLn⟩:=hR
          have q0:wo.cell? ⟨g,off+k,none⟩=some (.slice vs.A vs.n vs.c):=by simpa using hc 0 _ rfl
          clear hc
          subst hAx
          have lvs:=hRs.len
          have hrow:=FC.out row (List.mem_of_getElem? hx.out)
          have hvs:vs.n≤4194304:=by have:=row_len hrow;have:=lvs.out;omega
          have HROW:=Lib.hid (few_row hrow)
          obtain ⟨css,hco,hpush⟩:=hoc.push' loc_Cs hfc us
          have HCO:=Lib.hid hco
          have HPU:=Lib.hid hpush
          have hAb:Hid (ob A2≠some (w.heap.size+1+1)):=ob_ne hoc hfc (by omega)
          have hA2l:Hid (∀ q,ob A2=some q→wq.heap.size≤q∧q < wo.heap.size):=fun q hq=>⟨hfc.lo q (hoc.obl_mem q (mem_obl.2 hq)),hfc.hi q (hoc.obl_mem q (mem_obl.2 hq))⟩
          clear hco hpush hrow
          have z0:(0:Int)≤(k:Int):=by omega
          have z1:(k:Int) < (nc:Int):=by omega
          go_wp2_with fail
          go_loopw [42,8] (fun i o ww=>∃ (m:Nat) (A3:Option Addr) (c3:Nat) (fe:List Nat),m≤vs.n∧i=.int .i64 m∧o=.slice A3 m c3∧OwSl KCe ww fe 84 6 A3 m c3 (row.take m)∧Fresh wo.heap.size ww fe∧Below wo.heap.size wo ww) (fun i _ _=>vs.n - (intOf i).toNat)
          case atStart=>exact ⟨0,_,0,[wo.heap.size],by omega,rfl,rfl,⟨[],[],Own.made' _ _ _ (by simp) rfl,trivial,by simp [obl,ob]⟩,⟨by simp,by simp,by simp⟩,bAlloc (Below.refl _ _) _⟩
          case round =>
            obtain ⟨m,A3,c3,fe,hmn,rfl,rfl,hoe,hfe,hbw⟩:=hrel
            obtain ⟨ww,rfl⟩:∃ ww:World,ww=wr:=⟨_,rfl⟩
            have hbs:=hbw.size
            by_cases hml:m < vs.n
            · obtain ⟨ch,cs,g3,off3,hy,hAy,hR,hc⟩:=RdSl.at_ (RdSl.below (R:=RdCe) RdCe.below hRs hbw) hml
              obtain ⟨vc,rfl,hRc,hLc⟩:=hR
              have p0:ww.cell? ⟨g3,off3+m * 6,none⟩=some (.slice vc.q.A vc.q.n vc.q.c):=hc 0 _ rfl
              have p1:ww.cell? ⟨g3,off3+m * 6+1,none⟩=some (.int .i64 ch.base):=hc 1 _ rfl
              have p2:ww.cell? ⟨g3,off3+m * 6+2,none⟩=some (.int .i64 ch.expected):=hc 2 _ rfl
              have p3:ww.cell? ⟨g3,off3+m * 6+3,none⟩=some (.slice vc.i.A vc.i.n vc.i.c):=hc 3 _ rfl
              have p4:ww.cell? ⟨g3,off3+m * 6+4,none⟩=some (.slice vc.n.A vc.n.n vc.n.c):=hc 4 _ rfl
              have p5:ww.cell? ⟨g3,off3+m * 6+5,none⟩=some (.slice vc.a.A vc.a.n vc.a.c):=hc 5 _ rfl
              clear hc
              rw [hAy]
              have hfch:=HROW.out ch (List.mem_of_getElem? hy.out)
              obtain ⟨css2,hco2,hpush2⟩:=hoe.push' loc_Ce hfe hbs
              have HCO2:=Lib.hid hco2
              have HPU2:=Lib.hid hpush2
              clear hco2 hpush2
              have z2:(0:Int)≤(m:Int):=by omega
              have z3:(m:Int) < (vs.n:Int):=by omega
              have tok:True:=trivial
              go_wp2_with fail
              refine Calls.mono (l29Copy_k vc ch _ hfch ?_) ?_
              · exact hRc.below (bAlloc (Below.refl _ _) _)
              rintro e w3 ⟨v3,rfl,ho3,hf3,hk3⟩
              have HB3:=bTrans (bAlloc (Below.refl ww.heap.size ww) _) hk3
              go_wp2_with (at_builtin;have _t:=tok;refine wpList_append rfl (.tmp 46) (.tmp 49) 71 rfl 0 84 6 112 j0 _ Tryz.underlying71 hj hy0 hy1 hy2 rfl (by omega) A3 m c3 css2 rfl (HCO2.out.below (by repeat (first | with_reducible exact HB3 | with_reducible refine bAlloc ?_ _ | with_reducible refine bDrew ?_ | with_reducible refine bDrewN ?_ _))) _ 1 1 [cChan v3 ch.base ch.expected] rfl (Row.new1' _ _ (cChan v3 ch.base ch.expected) 6 _ (by simp)) (by simp [cChan]) (by simp [cChan,Value.oneCell']) (by simp only [maxLen];omega) (by omega) (Nat.zero_le _) ?_;clear tok _t;intro A4 c4 w4 ho4 hg4 hat4;obtain ⟨fs',hs',hf'⟩:=HPU2.out _ (by repeat (first | with_reducible exact HB3 | with_reducible refine bAlloc ?_ _ | with_reducible refine bDrew ?_ | with_reducible refine bDrewN ?_ _)) (fpC v3) (cChan v3 ch.base ch.expected) ch ⟨v3,rfl,OwC.below ho3 (by repeat (first | with_reducible exact (Below.refl _ _) | with_reducible refine bAlloc ?_ _ | with_reducible refine bDrew ?_ | with_reducible refine bDrewN ?_ _)),rfl⟩ (Fresh.grow (Fresh.rebase hf3 (by simp)) (by simp)) w4 A4 c4 ho4 hg4 hat4;have H4:=(bGrown (show Below wo.heap.size wo _ from bTrans hbw (by repeat (first | with_reducible exact HB3 | with_reducible refine bAlloc ?_ _ | with_reducible refine bDrew ?_ | with_reducible refine bDrewN ?_ _))) hg4 (fun q hq=>hfe.lo q (hoe.obl_mem q (mem_obl.2 hq)))))
              rw [take_snoc hy] at hs'
              go_roundw
              case rel=>exact ⟨m+1,A4,c4,fs',by omega,by go_num,rfl,hs',hf',H4⟩
              case measure=>simp [intOf];omega
            · obtain rfl:m=vs.n:=by omega
              rw [take_all_ lvs] at hoe
              have c20:=bCell hbw b0
              have c21:=bCell hbw b1
              have c22:=fun o=>(bBoxF hbw _ b3 o).trans (b2 o)
              have c23:=cell_lt c20
              have tok:True:=trivial
              go_wp2_with (at_builtin;have _t:=tok;refine wpList_append rfl (.tmp 53) (.tmp 55) 26 rfl 0 71 1 24 l0 _ Tryz.underlying26 hl hx0 hx1 hx2 rfl (by omega) A2 k c2 css rfl (HCO.out.below (by repeat (first | with_reducible exact hbw | with_reducible refine bAlloc ?_ _ | with_reducible refine bDrew ?_ | with_reducible refine bDrewN ?_ _))) _ 1 1 [[.slice A3 vs.n c3]] rfl (Row.new1' _ _ [.slice A3 vs.n c3] 1 _ (by simp)) (by simp) (by simp [Value.oneCell']) (by simp only [maxLen];omega) (by omega) (Nat.zero_le _) ?_;clear tok _t;intro A4 c4 w4 ho4 hg4 hat4;obtain ⟨fs',hs',hf'⟩:=HPU.out _ (by repeat (first | with_reducible exact hbw | with_reducible refine bAlloc ?_ _ | with_reducible refine bDrew ?_ | with_reducible refine bDrewN ?_ _)) fe [.slice A3 vs.n c3] row ⟨⟨A3,vs.n,c3⟩,rfl,OwSl.below loc_Ce hoe (by repeat (first | with_reducible exact (Below.refl _ _) | with_reducible refine bAlloc ?_ _ | with_reducible refine bDrew ?_ | with_reducible refine bDrewN ?_ _))⟩ (Fresh.grow hfe (by simp)) w4 A4 c4 ho4 hg4 hat4;have Y4:=Bx2.grown (Bx2.below Y2 (by repeat (first | with_reducible exact hbw | with_reducible refine bAlloc ?_ _ | with_reducible refine bDrew ?_ | with_reducible refine bDrewN ?_ _))) hg4 hAb.out;have d0:=Y4.c0;have d1:=Y4.c1;have d2:=Y4.fz;have U4:=(Upd.trans2 (hup.then_below (show Below wo.heap.size wo _ from (by repeat (first | with_reducible exact hbw | with_reducible refine bAlloc ?_ _ | with_reducible refine bDrew ?_ | with_reducible refine bDrewN ?_ _)))) (Upd.of_row hg4) (fun q hq=>.inr (hA2l.out q (mem_obl.1 hq)).1)))
              have uS:Upd [w.heap.size+1+1] w4 (w4.setCell ⟨w.heap.size+1+1,1,none⟩ (.slice A4 (k+1) c4)):=(Upd.refl _ _).set_in (by simp) _
              have hs4:=hs'.upd loc_Cs uS (fun q hq hm=>by have:=hf'.lo q hq;simp at hm;omega)
              rw [take_snoc hx] at hs4
              have Y4n:=Y4.set1 (.slice A4 (k+1) c4)
              have hf4:=hf'.grow uS.size
              have U4n:=U4.trans uS
              go_wp2_with fail
              go_roundw
              case rel=>exact ⟨k+1,A4,c4,fs',by omega,by go_num,Y4n,hs4,hf4,U4n⟩
              case measure=>simp [intOf];omega
        · obtain rfl:k=nc:=by omega
          rw [take_all_ lc] at hoc
          have Z1:=X1.upd hup (by simp)
          have z0:=Z1.c0;have z1:=Z1.c1;have z2:=Z1.fz
          have hro:=how.upd loc_Ro hup (fun q hq hm=>by have:=hfr.lo q hq;simp at hm;omega)
          go_wp2_with fail
          refine bodyPost_ret (v:=vTeam ⟨⟨A,nr,c⟩,⟨A2,k,c2⟩,fr,fc⟩) (by simp [*,results,Tryz.results55,go_sem]) rfl ?_
          have uS:Upd [w.heap.size+1] wo (((wo.setCell ⟨w.heap.size+1,0,none⟩ (.slice A nr c))).setCell ⟨w.heap.size+1,1,none⟩ (.slice A2 k c2)):=((Upd.refl _ _).set_in (by simp) _).set_in (by simp) _
          refine ⟨_,rfl,⟨hro.upd loc_Ro uS (fun q hq hm=>by have:=hfr.lo q hq;simp at hm;omega),hoc.upd loc_Cs uS (fun q hq hm=>by have:=hfc.lo q hq;simp at hm;omega)⟩,?_,?_⟩
          · exact Fresh.append ((hfr.rebase (by omega)).grow (by have:=hup.size;have:=uS.size;omega)) (hfc.grow uS.size) (by omega) (fun q hq=>hfr.hi q hq)
          · exact bUpd HBr uS (fun q hq=>by simp at hq;omega)
end Go.Proofs.YtdfemnffpaopfaaGreatDoor
