/- Texts of this proof, one behind the other: TeamN. -/
import Derived.Test.YtdfemnffpaopfaaGreatDoorGrs9
import Derived.Test.YtdfemnffpaopfaaGreatDoorGrs12
import Derived.Test.YtdfemnffpaopfaaGreatDoorGrs41
namespace Go.Proofs.YtdfemnffpaopfaaGreatDoor
open Go.RowKit
set_option linter.unusedVariables false
set_option linter.unusedSimpArgs false
set_option maxHeartbeats 1600000
set_option maxRecDepth 100000
def zRobot:Robot:=⟨[],ByteArray.empty⟩
def zChan:Chan:={ queue:=[],base:=0,expected:=0,inbox:=[],net:=[],acks:=[] }
def zRow (n:Nat):List Chan:=List.replicate n zChan
def newTeam (d:Int):Team × Bool:=if inR d 1 3 then (⟨List.replicate d.toNat zRobot,List.replicate d.toNat (zRow d.toNat)⟩,true) else (⟨[],[]⟩,false)
theorem newTeam_no {d:Int} (h:inR d 1 3=false):newTeam d=(⟨[],[]⟩,false):=by simp [newTeam,h]
theorem newTeam_yes {n:Nat} (h:inR (n:Int) 1 3=true):newTeam n=(⟨List.replicate n zRobot,List.replicate n (zRow n)⟩,true):=by simp [newTeam,h]
theorem fewT_new (d:Int):fewT (newTeam d).1:=by
  unfold newTeam
  split
  · rename_i h
    have h1:=inR_iff.1 h
    obtain ⟨n,rfl⟩:∃ n:Nat,d=n:=⟨d.toNat,by omega⟩
    have h2:n=1∨n=2∨n=3:=by omega
    rcases h2 with rfl | rfl | rfl <;> (unfold fewT;decide)
  · unfold fewT;decide
theorem nilT (w:World):OwT w ⟨⟨none,0,0⟩,⟨none,0,0⟩,[],[]⟩ ⟨[],[]⟩:=⟨OwSl.nil_ _ _ _,OwSl.nil_ _ _ _⟩
theorem made_zeros {α:Type} {K:World→List Nat→List Value→α→Prop} {w:World} {B e sz g n c:Nat} {zs:List Value} {x:α} (h:Own w B e sz (some ⟨g,0,none⟩) n c (List.replicate n zs)) (hk:K w [] zs x) :
    OwSl K w [g] e sz (some ⟨g,0,none⟩) n c (List.replicate n x)∧Fresh B w [g]:=by
  refine ⟨⟨List.replicate n zs,List.replicate n [],h.zero,Each.replicate hk n,by simp [obl,ob]⟩,?_⟩
  have h2:=Fresh.obl_ h
  simpa [obl,ob] using h2
theorem zRobot_k (w:World):KRo w [] zeroRobotS zRobot:=⟨⟨none,0,0⟩,rfl,Own.nil_ _ _ _ _,rfl⟩
theorem zChan_k (w:World):KCe w [] zeroChannelS zChan:=⟨⟨⟨none,0,0⟩,⟨none,0,0⟩,⟨none,0,0⟩,⟨none,0,0⟩⟩,rfl,⟨Own.nil_ _ _ _ _,Own.nil_ _ _ _ _,Own.nil_ _ _ _ _,Own.nil_ _ _ _ _⟩,rfl⟩
theorem rep_snoc {α:Type} (k:Nat) (x:α):List.replicate k x++[x]=List.replicate (k+1) x:=by rw [List.replicate_succ']
theorem impl_NewTeam_k (d:Int) (w:World) (hwf:(Lit.int .i64 d).wf=true) :
    Calls Tryz.prog 9 #[.int .i64 d] w fun e w'=>∃ v',e=.returned (.tuple #[vTeam v',.bool (newTeam d).2])∧OwT w' v' (newTeam d).1∧Fresh w.heap.size w' (fpT v')∧Below w.heap.size w w':=by
  by_cases hin:1≤d∧d≤3
  rotate_left
  · have hi0:Hid (inR d 1 3=false):=by rw [Hid,Bool.eq_false_iff];intro h;exact hin (inR_iff.1 h)
    have hfin:=Lib.hid (newTeam_no hi0.out)
    have hd:d < 1∨(¬ d < 1∧3 < d):=by omega
    clear hin
    rcases hd with hd | ⟨hd,hd2⟩
    · go_enter Tryz.func9,Tryz.ntmps9
      go_wp2_with fail
      refine bodyPost_ret (v:=.tuple #[vTeam ⟨⟨none,0,0⟩,⟨none,0,0⟩,[],[]⟩,.bool false]) (by simp [*,results,Tryz.results9,go_sem]) rfl ?_
      rw [hfin.out]
      exact ⟨_,rfl,nilT _,Fresh.nil _ _,by repeat (first | with_reducible exact Below.refl _ _ | with_reducible refine bAlloc ?_ _ | (with_reducible refine bSet ?_ ?_ _;rotate_left;simp))⟩
    · go_enter Tryz.func9,Tryz.ntmps9
      go_wp2_with fail
      refine bodyPost_ret (v:=.tuple #[vTeam ⟨⟨none,0,0⟩,⟨none,0,0⟩,[],[]⟩,.bool false]) (by simp [*,results,Tryz.results9,go_sem]) rfl ?_
      rw [hfin.out]
      exact ⟨_,rfl,nilT _,Fresh.nil _ _,by repeat (first | with_reducible exact Below.refl _ _ | with_reducible refine bAlloc ?_ _ | (with_reducible refine bSet ?_ ?_ _;rotate_left;simp))⟩
  have hi0:Hid (inR d 1 3=true):=inR_iff.2 hin
  obtain ⟨n,rfl⟩:∃ n:Nat,d=n:=⟨d.toNat,by omega⟩
  obtain ⟨hn1,hn2⟩:1≤n∧n≤3:=by omega
  have hfin:=Lib.hid (newTeam_yes hi0.out)
  have ni1:¬ (n:Int) < 1:=by omega
  have ni2:¬ (3:Int) < (n:Int):=by omega
  obtain ⟨i0,hi,hz0,hz1,hz2⟩:=info_parts info_RobotS
  obtain ⟨j0,hj,hy0,hy1,hy2⟩:=info_parts info_ChannelS
  obtain ⟨l0,hl,hx0,hx1,hx2⟩:=info_parts info_ChannelSS
  obtain ⟨MC,hMC⟩:∃ MC:Array Value,MC=madeCells zeroChannelS.toArray (n * 6):=⟨_,rfl⟩
  have HMC:=Lib.hid hMC
  have hmk:∀ W,(Instr.makeSlice 71 (.int .i64 (n:Int)) (.int .i64 (n:Int))).run Tryz.prog W=.ok (.slice (some ⟨W.heap.size,0,none⟩) n n) (W.alloc (.cells MC 84)):=fun W=>by rw [hMC];exact run_make_lit W _ _ j0 _ zeroChannelS 6 112 Tryz.underlying71 hj hy0 hy1 hy2 rfl n (by omega) (by simp only [maxLen];omega)
  clear hin hwf hMC
  go_enter Tryz.func9,Tryz.ntmps9
  go_wp2_with (first
    | (fail)
    | (refine wpList_make rfl (.tmp 13) (.tmp 13) _ rfl (w.heap.size+1) 47 2 40 i0 _ Tryz.underlying25 hi hz0 hz1 hz2 .i64 .i64 n rfl rfl zeroRobotS rfl rfl (by omega) (by omega) (by simp only [maxLen];omega) (by simp) ?_;intro w1 hown1 hg1;have hzz:w.heap.size+1 < w1.heap.size:=(by have:=(hown1.lt _ rfl).2;simpa using this);have hzz0:w.heap.size < w1.heap.size:=(by omega);have kb1:=gBox hg1 w.heap.size (by simp) (by simp);have fb1:=gBoxF hg1 w.heap.size (by simp) (by simp)))
  have hB1:Below w.heap.size w w1:=bGrown (bAlloc (Below.refl _ _) _) hg1 (by simp)
  obtain ⟨W0,hW0⟩:∃ W0:World,W0=w1.alloc (.cells #[.slice (some ⟨w.heap.size+1,0,none⟩) n n,.slice none 0 0] 28):=⟨_,rfl⟩
  have hsW:W0.heap.size=w1.heap.size+1:=by rw [hW0];simp
  have a0:W0.cell? ⟨w1.heap.size,0,none⟩=some (.slice (some ⟨w.heap.size+1,0,none⟩) n n):=by rw [hW0];simp
  have a1:W0.cell? ⟨w1.heap.size,1,none⟩=some (.slice none 0 0):=by rw [hW0];simp
  have a2:∀ o,W0.frozen? ⟨w1.heap.size,o,none⟩=false:=fun o=>by rw [hW0];simp
  have hB0:Below w.heap.size w W0:=by rw [hW0];exact bAlloc hB1 _
  have hR0:Own W0 (w.heap.size+1) 47 2 (some ⟨w.heap.size+1,0,none⟩) n n (List.replicate n zeroRobotS):=by rw [hW0];exact by simpa using hown1.alloc_ _
  have b0:∀ o,W0.cell? ⟨w.heap.size,o,none⟩=w1.cell? ⟨w.heap.size,o,none⟩:=fun o=>by rw [hW0];exact (bBox (bAlloc (Below.refl _ _) _) w.heap.size hzz0 o)
  have b1:∀ o,W0.frozen? ⟨w.heap.size,o,none⟩=w1.frozen? ⟨w.heap.size,o,none⟩:=fun o=>by rw [hW0];exact (bBoxF (bAlloc (Below.refl _ _) _) w.heap.size hzz0 o)
  rw [← hW0]
  clear hW0
  go_loopw [5] (fun i wr=>∃ (k:Nat) (A:Option Addr) (c:Nat) (fc:List Nat),k≤n∧i=.int .i64 k∧wr.cell? ⟨w1.heap.size,0,none⟩=some (.slice (some ⟨w.heap.size+1,0,none⟩) n n)∧wr.cell? ⟨w1.heap.size,1,none⟩=some (.slice A k c)∧OwSl KCs wr fc 71 1 A k c (List.replicate k (zRow n))∧Fresh (w1.heap.size+1) wr fc∧Upd [w1.heap.size] W0 wr∧∀ o,wr.frozen? ⟨w1.heap.size,o,none⟩=false) (fun i _=>n - (intOf i).toNat)
  case atStart=>exact ⟨0,none,0,[],by omega,rfl,a0,a1,OwSl.nil_ _ _ _,Fresh.nil _ _,Upd.refl _ _,a2⟩
  case round =>
    obtain ⟨k,A,c,fc,hk,rfl,t0,t1,how,hfr,hup,tf⟩:=hrel
    have hsr:=hup.size
    have hzr:w1.heap.size < wr.heap.size:=by omega
    by_cases hlt:k < n
    · have WB:Below wr.heap.size wr ((wr.alloc (.cells MC 84)).alloc (.cells #[.slice (some ⟨wr.heap.size,0,none⟩) n n] 71)):=bAlloc (bAlloc (Below.refl _ _) _) _
      have hrow:Own ((wr.alloc (.cells MC 84)).alloc (.cells #[.slice (some ⟨wr.heap.size,0,none⟩) n n] 71)) wr.heap.size 84 6 (some ⟨wr.heap.size,0,none⟩) n n (List.replicate n zeroChannelS):=(Own.lit wr _ n 6 zeroChannelS (Nat.le_refl _) HMC.out rfl (by omega) (by simp only [maxLen];omega)).alloc_ _
      obtain ⟨hz1,hz2⟩:=made_zeros hrow (zChan_k _)
      obtain ⟨css,hco,hpush⟩:=OwSl.push loc_Cs (B:=w1.heap.size+1) (how.below loc_Cs WB) (hfr.grow WB.size) (f:=[wr.heap.size]) (cs:=[.slice (some ⟨wr.heap.size,0,none⟩) n n]) (x:=zRow n) ⟨⟨some ⟨wr.heap.size,0,none⟩,n,n⟩,rfl,hz1⟩ (hz2.rebase (by omega)) (fun q hq hm=>by have:=hfr.hi q hq;simp at hm;omega) (by simp;omega)
      have hrw:Row ((wr.alloc (.cells MC 84)).alloc (.cells #[.slice (some ⟨wr.heap.size,0,none⟩) n n] 71)) (some ⟨wr.heap.size+1,0,none⟩) 1 1 [[.slice (some ⟨wr.heap.size,0,none⟩) n n]]:=Row.new1' _ _ [.slice (some ⟨wr.heap.size,0,none⟩) n n] 1 _ (by simp)
      have hAb:Hid (∀ q,ob A=some q→q≠w1.heap.size):=fun q hq e=>by
        have:=hfr.lo q (how.obl_mem q (mem_obl.2 hq));omega
      have hAq:Hid (∀ q,ob A=some q→w1.heap.size+1≤q):=fun q hq=>hfr.lo q (how.obl_mem q (mem_obl.2 hq))
      have HCO:=Lib.hid hco
      have HP:=Lib.hid hpush
      clear hco hpush hrow hz1 hz2
      go_wp2_with fail
      go_region_law (first
        | (refine step_append rfl (.tmp 22) (.tmp 25) 26 rfl 0 71 1 24 l0 _ Tryz.underlying26 hl hx0 hx1 hx2 rfl (by omega) A k c css rfl (HCO.out.keep fun _ _=>rfl) (some ⟨wr.heap.size+1,0,none⟩) 1 1 [[.slice (some ⟨wr.heap.size,0,none⟩) n n]] rfl (Row.below hrw (bDrew (Below.refl _ _))) (by simp) (by simp [Value.oneCell']) (by simp only [maxLen];omega) (by omega) (Nat.zero_le _) ?_;intro A3 c3 w3 ho3 hg3 hat3;have tb0:w3.cell? ⟨w1.heap.size,0,none⟩=some (.slice (some ⟨w.heap.size+1,0,none⟩) n n):=World.grownBy.cell hg3 (bCell (bDrew WB) t0) (fun e=>hAb.out _ e.symm rfl);have tb1:w3.cell? ⟨w1.heap.size,1,none⟩=some (.slice A k c):=World.grownBy.cell hg3 (bCell (bDrew WB) t1) (fun e=>hAb.out _ e.symm rfl);have tbf:∀ o,w3.frozen? ⟨w1.heap.size,o,none⟩=false:=(fun o=>(gBoxF hg3 w1.heap.size (by simp;omega) (fun q hq=>hAb.out q hq) o).trans ((bBoxF (bDrew WB) w1.heap.size hzr o).trans (tf o)))))
      all_goals
        obtain ⟨fs',hs',hf'⟩:=HP.out w3 A3 c3 ho3 ⟨hg3.os,hg3.tape,hg3.output,hg3.size,hg3.block⟩ hat3
        rw [rep_snoc] at hs'
        have hu3:Upd [w1.heap.size] W0 w3:=⟨hg3.os.trans hup.os,hg3.tape.trans hup.tape,hg3.output.trans hup.output,Nat.le_trans (Nat.le_trans hup.size WB.size) hg3.size,fun q hq hn=>(hg3.block q (Nat.lt_of_lt_of_le hq (Nat.le_trans hup.size WB.size)) (fun e=>by have:=hAq.out q e.symm;omega)).trans ((WB.block q (Nat.lt_of_lt_of_le hq hup.size)).trans (hup.block q hq hn))⟩
        have hz3:w1.heap.size < w3.heap.size:=by have:=hu3.size;omega
        have hu4:=hu3.set_in (p:=⟨w1.heap.size,1,none⟩) (by simp) (.slice A3 (k+1) c3)
        have hs4:=hs'.upd loc_Cs ((Upd.refl [w1.heap.size] w3).set_in (p:=⟨w1.heap.size,1,none⟩) (by simp) (.slice A3 (k+1) c3)) (fun q hq hm=>by have:=hf'.lo q hq;simp at hm;omega)
        have hf4:Fresh (w1.heap.size+1) (w3.setCell ⟨w1.heap.size,1,none⟩ (.slice A3 (k+1) c3)) fs':=hf'.grow (by simp)
        have tb2:(w3.setCell ⟨w1.heap.size,1,none⟩ (.slice A3 (k+1) c3)).cell? ⟨w1.heap.size,0,none⟩=some (.slice (some ⟨w.heap.size+1,0,none⟩) n n):=by go_simp
        have tb3:(w3.setCell ⟨w1.heap.size,1,none⟩ (.slice A3 (k+1) c3)).cell? ⟨w1.heap.size,1,none⟩=some (.slice A3 (k+1) c3):=by go_simp
        have tbg:∀ o,(w3.setCell ⟨w1.heap.size,1,none⟩ (.slice A3 (k+1) c3)).frozen? ⟨w1.heap.size,o,none⟩=false:=fun o=>by simp [tbf]
        go_wp2_with fail
        go_roundw
        case rel=>exact ⟨k+1,A3,c3,fs',by omega,by go_num,tb2,tb3,hs4,hf4,hu4,tbg⟩
        case measure=>simp [intOf];omega
    · obtain rfl:k=n:=by omega
      have hR1:=hR0.upd hup (fun q hq hm=>by simp [obl,ob] at hq hm;omega)
      obtain ⟨hz1,hz2⟩:=made_zeros hR1 (zRobot_k _)
      have kk0:=uBox hup w.heap.size (by omega) (by simp;omega)
      have kk1:=uBoxF hup w.heap.size (by omega) (by simp;omega)
      have hne:w.heap.size≠w1.heap.size:=by omega
      go_wp2_with fail
      refine bodyPost_ret (v:=.tuple #[vTeam ⟨⟨some ⟨w.heap.size+1,0,none⟩,k,k⟩,⟨A,k,c⟩,[w.heap.size+1],fc⟩,.bool true]) (by simp [*,results,Tryz.results9,go_sem]) rfl ?_
      rw [hfin.out]
      have uS:Upd [w.heap.size] wr (((wr.setCell ⟨w.heap.size,0,none⟩ (.slice (some ⟨w.heap.size+1,0,none⟩) k k))).setCell ⟨w.heap.size,1,none⟩ (.slice A k c)):=((Upd.refl _ _).set_in (by simp) _).set_in (by simp) _
      refine ⟨_,rfl,⟨hz1.upd loc_Ro uS (fun q hq hm=>by simp at hq hm;omega),how.upd loc_Cs uS (fun q hq hm=>by have:=hfr.lo q hq;simp at hm;omega)⟩,?_,?_⟩
      · exact Fresh.append ((hz2.rebase (by omega)).grow uS.size) (hfr.grow uS.size) (by omega) (fun q hq=>by simp at hq;omega)
      · exact bUpd (bUpd hB0 hup (fun q hq=>by simp at hq;omega)) uS (fun q hq=>by simp at hq;omega)
end Go.Proofs.YtdfemnffpaopfaaGreatDoor
