/- Texts of this proof, one behind the other: WMeasure. -/
import Derived.Test.YtdfemnffpaopfaaGreatDoorGmf43
import Derived.Test.YtdfemnffpaopfaaGreatDoorGmf44
import Derived.Test.YtdfemnffpaopfaaGreatDoorGmf45
namespace Go.Proofs.YtdfemnffpaopfaaGreatDoor
open Go.RowKit
set_option linter.unusedVariables false
set_option linter.unusedSimpArgs false
set_option maxHeartbeats 1600000
set_option maxRecDepth 100000
theorem w_FnExactMeasure (W:World) (v0:TV) (d0:Team) (hr0:RdT W v0 d0) (hok0:okT d0) (hl0:lenT v0) (d1:Int) (wf1:(Lit.int .i64 d1).wf=true) (d2:Factor) (hok2:Factor.ok d2) (hT:TabJ W) :
    Calls Tryz.prog 5 #[vTeam v0,.int .i64 d1,vFactor d2.id d2.kind d2.frm d2.to d2.pose.turn d2.pose.x d2.pose.y d2.weight] W fun e w'=>e=rBool true∧Below W.heap.size W w':=by
  have HT:=Lib.hid hT
  clear hT
  go_enter Tryz.func5,Tryz.ntmps5
  go_wp2_with fail
  refine Calls.mono (szTeam_k v0 d0 _ _ (by omega) (by omega) hl0 hok0 ?_) ?_
  · exact hr0.below (by repeat (first | with_reducible exact Below.refl _ _ | with_reducible refine bAlloc ?_ _))
  rintro e w1 ⟨⟨r0,rfl,hp⟩,hb1⟩
  have hk1:Below W.heap.size W w1:=bTrans (by repeat (first | with_reducible exact Below.refl _ _ | with_reducible refine bAlloc ?_ _)) hb1
  have hs1:=hk1.size
  have hz1:=hb1.size
  (try simp at hz1)
  have kb1_a0:=bBox hb1 (W.heap.size) (by first | omega | (simp;done) | (simp;omega))
  have kb1_a2:=bBox hb1 (W.heap.size+1) (by first | omega | (simp;done) | (simp;omega))
  have hlt1_a0:W.heap.size < w1.heap.size:=by omega
  have hlt1_a2:W.heap.size+1 < w1.heap.size:=by omega
  have H:=bTrans (Below.refl _ W) hk1
  rcases hp with rfl | ⟨hp0,hp1⟩
  · go_wp2_with fail
    go_ret
    exact ⟨rfl,H⟩
  have hrl0:r0≤1048576:=by have:=hp1.out;omega
  have hr00:0≤r0:=hp0
  have hm0:bulkT d0≤1048576:=by have:=hp1.out;omega
  have HM0:=Lib.hid hm0
  have hfw0:=fewT_of (Nat.le_trans hm0 (by decide))
  clear hp0 hp1
  go_wp2_with fail
  refine Calls.mono (szFactor_c _ _ _ _ _ _ _ _ _ _ hr00 (by omega) hok2.1 hok2.2.1) ?_
  rintro e w2 ⟨⟨r2,rfl,hp⟩,hb2⟩
  have hk2:Below w1.heap.size w1 w2:=bTrans (by repeat (first | with_reducible exact Below.refl _ _ | with_reducible refine bAlloc ?_ _)) hb2
  have hs2:=hk2.size
  have hz2:=hb2.size
  (try simp at hz2)
  have kb2_a0:=bBox hk2 (W.heap.size) (by omega)
  have kb2_a2:=bBox hk2 (W.heap.size+1) (by omega)
  have hlt2_a0:W.heap.size < w2.heap.size:=by omega
  have hlt2_a2:W.heap.size+1 < w2.heap.size:=by omega
  have H:=bTrans H hk2
  rcases hp with rfl | ⟨hp0,hp1⟩
  · go_wp2_with fail
    go_ret
    exact ⟨rfl,H⟩
  have hfb2:bulkF [d2]≤2097152:=by have:=hp1.out;unfold bulkF;simp only [sumBulk,Factor.bulk,List.length_cons,List.length_nil];omega
  have hfo2:okF [d2]:=by intro x hx;simp only [List.mem_singleton] at hx;subst hx;exact hok2
  have hr02:0≤r2:=hp0
  have HFB2:=Lib.hid hfb2
  have HFO2:=Lib.hid hfo2
  clear hp0 hp1 hfb2 hfo2
  go_wp2_with fail
  refine region_at fun R2 hW2=>?_
  have hr2r:Below w2.heap.size w2 R2:=by rw [hW2.out];exact (by repeat (first | with_reducible exact Below.refl _ _ | with_reducible refine bAlloc ?_ _))
  have Hr2:=bTrans H hr2r
  have kr2_a0:=bBox hr2r (W.heap.size) (by omega)
  have g2_0:R2.cell? ⟨W.heap.size,0,none⟩=some (.slice v0.r.A v0.r.n v0.r.c):=by rw [kr2_a0,kb2_a0,kb1_a0];simp
  have g2_1:R2.cell? ⟨W.heap.size,1,none⟩=some (.slice v0.c.A v0.c.n v0.c.c):=by rw [kr2_a0,kb2_a0,kb1_a0];simp
  have kr2_a2:=bBox hr2r (W.heap.size+1) (by omega)
  have g2_2:R2.cell? ⟨W.heap.size+1,0,none⟩=some (.int .i64 (d2).id):=by rw [kr2_a2,kb2_a2,kb1_a2];simp
  have g2_3:R2.cell? ⟨W.heap.size+1,1,none⟩=some (.int .i64 (d2).kind):=by rw [kr2_a2,kb2_a2,kb1_a2];simp
  have g2_4:R2.cell? ⟨W.heap.size+1,2,none⟩=some (.string (d2).frm):=by rw [kr2_a2,kb2_a2,kb1_a2];simp
  have g2_5:R2.cell? ⟨W.heap.size+1,3,none⟩=some (.string (d2).to):=by rw [kr2_a2,kb2_a2,kb1_a2];simp
  have g2_6:R2.cell? ⟨W.heap.size+1,4,none⟩=some (.int .i64 (d2).pose.turn):=by rw [kr2_a2,kb2_a2,kb1_a2];simp
  have g2_7:R2.cell? ⟨W.heap.size+1,5,none⟩=some (.int .i64 (d2).pose.x):=by rw [kr2_a2,kb2_a2,kb1_a2];simp
  have g2_8:R2.cell? ⟨W.heap.size+1,6,none⟩=some (.int .i64 (d2).pose.y):=by rw [kr2_a2,kb2_a2,kb1_a2];simp
  have g2_9:R2.cell? ⟨W.heap.size+1,7,none⟩=some (.int .i64 (d2).weight):=by rw [kr2_a2,kb2_a2,kb1_a2];simp
  have hzr2:=hr2r.size
  have hcl2_0:=cell_lt g2_0
  have hnR2_0:W.heap.size≠R2.heap.size:=(by have h1:=hcl2_0;(try simp only at h1);omega)
  have hcl2_2:=cell_lt g2_2
  have hnR2_2:W.heap.size+1≠R2.heap.size:=(by have h1:=hcl2_2;(try simp only at h1);omega)
  go_cut [8,9] (fun sp sq wr=>∃ (bx:Nat) (v:TV),sp=.pointer (some ⟨bx,0,none⟩)∧sq=.bool (measT d0 d1 d2).2∧FlatT R2 wr bx v ((measT d0 d1 d2).1))
  case first =>
    go_region_held3 (fun w'=>w'.cell? ⟨W.heap.size,0,none⟩=some (.slice v0.r.A v0.r.n v0.r.c)∧w'.cell? ⟨W.heap.size,1,none⟩=some (.slice v0.c.A v0.c.n v0.c.c)∧w'.cell? ⟨W.heap.size+1,0,none⟩=some (.int .i64 (d2).id)∧w'.cell? ⟨W.heap.size+1,1,none⟩=some (.int .i64 (d2).kind)∧w'.cell? ⟨W.heap.size+1,2,none⟩=some (.string (d2).frm)∧w'.cell? ⟨W.heap.size+1,3,none⟩=some (.string (d2).to)∧w'.cell? ⟨W.heap.size+1,4,none⟩=some (.int .i64 (d2).pose.turn)∧w'.cell? ⟨W.heap.size+1,5,none⟩=some (.int .i64 (d2).pose.x)∧w'.cell? ⟨W.heap.size+1,6,none⟩=some (.int .i64 (d2).pose.y)∧w'.cell? ⟨W.heap.size+1,7,none⟩=some (.int .i64 (d2).weight)) ((go_split_ands;(repeat' apply And.intro) <;> (exact bCell (show Below R2.heap.size R2 _ from (by repeat (first | with_reducible exact Below.refl _ _ | with_reducible exact hR3 | with_reducible exact hR4 | with_reducible exact hR5 | with_reducible refine bAlloc ?_ _ | with_reducible refine bDrew ?_ | with_reducible refine bSet ?_ (by first | exact Nat.le_refl _ | (dsimp only;omega)) _))) (by assumption)))) ((first | (go_at_call 21;refine (toTeam_k v0 d0 _ hfw0 (hr0.below (by repeat (first | with_reducible exact Hr2 | with_reducible refine bAlloc ?_ _ | with_reducible refine bDrew ?_)))).mono ?_;rintro e w3 ⟨v_x1,rfl,ho_x1,hf_x1,hb3⟩;(first | with_reducible have zb:=zb.below hb3 | with_reducible have zb:=(Bx2.new _ _ _ _).below hb3 | with_reducible have zb:=(Bx2.new _ _ _ _).drew.below hb3 | skip);(first | have hzl3:=zb.lt | skip);have hR3:=bTrans (show Below R2.heap.size R2 _ from (by repeat (first | with_reducible exact (Below.refl _ _) | with_reducible refine bAlloc ?_ _ | with_reducible refine bDrew ?_))) hb3;have hk3:=bTrans (show Below R2.heap.size R2 _ from (by repeat (first | with_reducible exact (Below.refl _ _) | with_reducible refine bAlloc ?_ _ | with_reducible refine bDrew ?_))) hb3;have hp3:=bTrans (show Below w2.heap.size w2 _ from (by repeat (first | with_reducible exact hr2r | with_reducible refine bAlloc ?_ _ | with_reducible refine bDrew ?_))) hb3;have hH3:=bTrans (show Below W.heap.size W _ from (by repeat (first | with_reducible exact Hr2 | with_reducible refine bAlloc ?_ _ | with_reducible refine bDrew ?_))) hb3;have hq3:=hk3.size;have hqR3:=hR3.size;have hn3_0:W.heap.size≠w3.heap.size:=(by omega);have hn3_2:W.heap.size+1≠w3.heap.size:=(by omega)) | (go_at_call 27;refine (toFactor_c _ _ _ _ _ _ _ _ _).mono ?_;rintro e w4 ⟨rfl,hb4⟩;(first | with_reducible have zb:=zb.below hb4 | with_reducible have zb:=(Bx2.new _ _ _ _).below hb4 | with_reducible have zb:=(Bx2.new _ _ _ _).drew.below hb4 | skip);(first | have hzl4:=zb.lt | skip);have hR4:=bTrans (show Below R2.heap.size R2 _ from (by repeat (first | with_reducible exact hR3 | with_reducible refine bAlloc ?_ _ | with_reducible refine bDrew ?_))) hb4;have hk4:=bTrans (show Below w3.heap.size w3 _ from (by repeat (first | with_reducible exact (Below.refl _ _) | with_reducible refine bAlloc ?_ _ | with_reducible refine bDrew ?_))) hb4;have hp4:=bTrans (show Below w2.heap.size w2 _ from (by repeat (first | with_reducible exact hp3 | with_reducible refine bAlloc ?_ _ | with_reducible refine bDrew ?_))) hb4;have hH4:=bTrans (show Below W.heap.size W _ from (by repeat (first | with_reducible exact hH3 | with_reducible refine bAlloc ?_ _ | with_reducible refine bDrew ?_))) hb4;have hq4:=hk4.size;have hqR4:=hR4.size;have hn4_0:W.heap.size≠w4.heap.size:=(by omega);have hn4_2:W.heap.size+1≠w4.heap.size:=(by omega)) | (go_at_call 26;refine (spec_Measure_k v_x1 d0 d1 d2 _ HM0.out hok0 (ho_x1.rd.below (by repeat (first | with_reducible exact hk4 | with_reducible refine bAlloc ?_ _ | with_reducible refine bDrew ?_))) wf1 HFB2.out HFO2.out).mono ?_;rintro e w5 ⟨v_w0,rfl,ho_w0,hf_w0,hb5⟩;(first | with_reducible have zb:=zb.below hb5 | with_reducible have zb:=(Bx2.new _ _ _ _).below hb5 | with_reducible have zb:=(Bx2.new _ _ _ _).drew.below hb5 | skip);(first | have hzl5:=zb.lt | skip);have hR5:=bTrans (show Below R2.heap.size R2 _ from (by repeat (first | with_reducible exact hR4 | with_reducible refine bAlloc ?_ _ | with_reducible refine bDrew ?_))) hb5;have hk5:=bTrans (show Below w4.heap.size w4 _ from (by repeat (first | with_reducible exact (Below.refl _ _) | with_reducible refine bAlloc ?_ _ | with_reducible refine bDrew ?_))) hb5;have hp5:=bTrans (show Below w2.heap.size w2 _ from (by repeat (first | with_reducible exact hp4 | with_reducible refine bAlloc ?_ _ | with_reducible refine bDrew ?_))) hb5;have hH5:=bTrans (show Below W.heap.size W _ from (by repeat (first | with_reducible exact hH4 | with_reducible refine bAlloc ?_ _ | with_reducible refine bDrew ?_))) hb5;have hq5:=hk5.size;have hqR5:=hR5.size;have hn5_0:W.heap.size≠w5.heap.size:=(by omega);have hn5_2:W.heap.size+1≠w5.heap.size:=(by omega);(first | (have zb0:=zb.c0;have zb1:=zb.c1;have zbf:=zb.fz) | skip))))
    all_goals go_wp2_with fail
    all_goals go_meet
    all_goals (refine ⟨_,v_w0,rfl,rfl,?_⟩;first | exact FlatT.early (by repeat (first | with_reducible exact hR4 | with_reducible refine bAlloc ?_ _ | with_reducible refine bDrew ?_)) hb5 (by first | omega | (simp;done) | (simp;omega)) (by first | omega | (simp;done) | (simp;omega)) ho_w0 hf_w0 zb | exact FlatT.late _ (by repeat (first | with_reducible exact hR4 | with_reducible refine bAlloc ?_ _ | with_reducible refine bDrew ?_)) hb5 ho_w0 hf_w0)
  case rest =>
  obtain ⟨bx5,v_w0,rfl,rfl,hF5⟩:=hcut
  obtain ⟨w5,hwc5⟩:∃ x:World,x=wc:=⟨wc,rfl⟩
  subst hwc5
  have hk5:Below w2.heap.size w2 w5:=bTrans hr2r hF5.below
  have hs5:=hk5.size
  have hsR5:=hF5.below.size
  have hbl5:=hF5.lo
  have hlt5_w0:=hF5.x.lt
  have hx5_0:=hF5.x.c0
  have hx5_1:=hF5.x.c1
  have kb5_a0:=bBox hk5 (W.heap.size) (by first | omega | (have h1:=hcl2_0;(try simp only at h1);omega))
  have kb5_a2:=bBox hk5 (W.heap.size+1) (by first | omega | (have h1:=hcl2_0;(try simp only at h1);omega))
  have hlt5_a0:W.heap.size < w5.heap.size:=by first | omega | (have h1:=hcl2_0;(try simp only at h1);omega)
  have hlt5_a2:W.heap.size+1 < w5.heap.size:=by first | omega | (have h1:=hcl2_0;(try simp only at h1);omega)
  have ho_w0:=hF5.ow
  have hf_w0:=hF5.fr
  have hnx_w0:=hF5.nx
  have hlo_w0:Hid (∀ q∈fpT v_w0,R2.heap.size≤q):=fun q hq=>hf_w0.lo q hq
  have hhi_w0:Hid (∀ q∈fpT v_w0,q < w5.heap.size):=hf_w0.hi
  have H:=bTrans H hk5
  clear hF5
  go_wp2_with fail
  refine Calls.mono (toTeam_k v0 d0 _ hfw0 ?_) ?_
  · exact hr0.below (by repeat (first | with_reducible exact H | with_reducible refine bAlloc ?_ _))
  rintro e w6 ⟨v_x2,rfl,ho_x2,hf_x2,hb6⟩
  have hk6:Below w5.heap.size w5 w6:=bTrans (by repeat (first | with_reducible exact Below.refl _ _ | with_reducible refine bAlloc ?_ _)) hb6
  have hs6:=hk6.size
  have hz6:=hb6.size
  (try simp at hz6)
  have kb6_a0:=bBox hk6 (W.heap.size) (by omega)
  have kb6_a2:=bBox hk6 (W.heap.size+1) (by omega)
  have kb6_w0:=bBox hk6 (bx5) (by omega)
  have hlt6_a0:W.heap.size < w6.heap.size:=by omega
  have hlt6_a2:W.heap.size+1 < w6.heap.size:=by omega
  have hlt6_w0:bx5 < w6.heap.size:=by omega
  have ho_w0:=ho_w0.below hk6
  have H:=bTrans H hk6
  have hlo_x2:Hid (∀ q∈fpT v_x2,w5.heap.size≤q):=fun q hq=>by have h1:=hf_x2.lo q hq;(try simp at h1);omega
  have hhi_x2:Hid (∀ q∈fpT v_x2,q < w6.heap.size):=hf_x2.hi
  go_wp2_with fail
  refine region_at fun R6 hW6=>?_
  have hr6r:Below w6.heap.size w6 R6:=by rw [hW6.out];exact (by repeat (first | with_reducible exact Below.refl _ _ | with_reducible refine bAlloc ?_ _))
  have Hr6:=bTrans H hr6r
  have g6_0:R6.cell? ⟨w6.heap.size,0,none⟩=some (.slice v_x2.r.A v_x2.r.n v_x2.r.c):=by rw [hW6.out];first | assumption | simp
  have g6_1:R6.cell? ⟨w6.heap.size,1,none⟩=some (.slice v_x2.c.A v_x2.c.n v_x2.c.c):=by rw [hW6.out];first | assumption | simp
  have kr6_a2:=bBox hr6r (W.heap.size+1) (by omega)
  have g6_2:R6.cell? ⟨W.heap.size+1,0,none⟩=some (.int .i64 (d2).id):=by rw [kr6_a2,kb6_a2,kb5_a2,kb2_a2,kb1_a2];simp
  have g6_3:R6.cell? ⟨W.heap.size+1,1,none⟩=some (.int .i64 (d2).kind):=by rw [kr6_a2,kb6_a2,kb5_a2,kb2_a2,kb1_a2];simp
  have g6_4:R6.cell? ⟨W.heap.size+1,2,none⟩=some (.string (d2).frm):=by rw [kr6_a2,kb6_a2,kb5_a2,kb2_a2,kb1_a2];simp
  have g6_5:R6.cell? ⟨W.heap.size+1,3,none⟩=some (.string (d2).to):=by rw [kr6_a2,kb6_a2,kb5_a2,kb2_a2,kb1_a2];simp
  have g6_6:R6.cell? ⟨W.heap.size+1,4,none⟩=some (.int .i64 (d2).pose.turn):=by rw [kr6_a2,kb6_a2,kb5_a2,kb2_a2,kb1_a2];simp
  have g6_7:R6.cell? ⟨W.heap.size+1,5,none⟩=some (.int .i64 (d2).pose.x):=by rw [kr6_a2,kb6_a2,kb5_a2,kb2_a2,kb1_a2];simp
  have g6_8:R6.cell? ⟨W.heap.size+1,6,none⟩=some (.int .i64 (d2).pose.y):=by rw [kr6_a2,kb6_a2,kb5_a2,kb2_a2,kb1_a2];simp
  have g6_9:R6.cell? ⟨W.heap.size+1,7,none⟩=some (.int .i64 (d2).weight):=by rw [kr6_a2,kb6_a2,kb5_a2,kb2_a2,kb1_a2];simp
  have hzr6:=hr6r.size
  have hcl6_0:=cell_lt g6_0
  have hnR6_0:w6.heap.size≠R6.heap.size:=(by have h1:=hcl6_0;(try simp only at h1);omega)
  have hcl6_2:=cell_lt g6_2
  have hnR6_2:W.heap.size+1≠R6.heap.size:=(by have h1:=hcl6_2;(try simp only at h1);omega)
  go_cut [11,12] (fun sp sq wr=>∃ (bx:Nat) (v:TV),sp=.pointer (some ⟨bx,0,none⟩)∧sq=.bool (measT d0 d1 d2).2∧FlatT R6 wr bx v ((measT d0 d1 d2).1))
  case first =>
    go_region_held3 (fun w'=>w'.cell? ⟨w6.heap.size,0,none⟩=some (.slice v_x2.r.A v_x2.r.n v_x2.r.c)∧w'.cell? ⟨w6.heap.size,1,none⟩=some (.slice v_x2.c.A v_x2.c.n v_x2.c.c)∧w'.cell? ⟨W.heap.size+1,0,none⟩=some (.int .i64 (d2).id)∧w'.cell? ⟨W.heap.size+1,1,none⟩=some (.int .i64 (d2).kind)∧w'.cell? ⟨W.heap.size+1,2,none⟩=some (.string (d2).frm)∧w'.cell? ⟨W.heap.size+1,3,none⟩=some (.string (d2).to)∧w'.cell? ⟨W.heap.size+1,4,none⟩=some (.int .i64 (d2).pose.turn)∧w'.cell? ⟨W.heap.size+1,5,none⟩=some (.int .i64 (d2).pose.x)∧w'.cell? ⟨W.heap.size+1,6,none⟩=some (.int .i64 (d2).pose.y)∧w'.cell? ⟨W.heap.size+1,7,none⟩=some (.int .i64 (d2).weight)) ((go_split_ands;(repeat' apply And.intro) <;> (exact bCell (show Below R6.heap.size R6 _ from (by repeat (first | with_reducible exact Below.refl _ _ | with_reducible exact hR7 | with_reducible exact hR8 | with_reducible refine bAlloc ?_ _ | with_reducible refine bDrew ?_ | with_reducible refine bSet ?_ (by first | exact Nat.le_refl _ | (dsimp only;omega)) _))) (by assumption)))) ((first | (go_at_call 27;refine (toFactor_c _ _ _ _ _ _ _ _ _).mono ?_;rintro e w7 ⟨rfl,hb7⟩;(first | with_reducible have zb:=zb.below hb7 | with_reducible have zb:=(Bx2.new _ _ _ _).below hb7 | with_reducible have zb:=(Bx2.new _ _ _ _).drew.below hb7 | skip);(first | have hzl7:=zb.lt | skip);have hR7:=bTrans (show Below R6.heap.size R6 _ from (by repeat (first | with_reducible exact (Below.refl _ _) | with_reducible refine bAlloc ?_ _ | with_reducible refine bDrew ?_))) hb7;have hk7:=bTrans (show Below R6.heap.size R6 _ from (by repeat (first | with_reducible exact (Below.refl _ _) | with_reducible refine bAlloc ?_ _ | with_reducible refine bDrew ?_))) hb7;have hp7:=bTrans (show Below w6.heap.size w6 _ from (by repeat (first | with_reducible exact hr6r | with_reducible refine bAlloc ?_ _ | with_reducible refine bDrew ?_))) hb7;have hH7:=bTrans (show Below W.heap.size W _ from (by repeat (first | with_reducible exact Hr6 | with_reducible refine bAlloc ?_ _ | with_reducible refine bDrew ?_))) hb7;have hq7:=hk7.size;have hqR7:=hR7.size;have hn7_0:w6.heap.size≠w7.heap.size:=(by omega);have hn7_2:W.heap.size+1≠w7.heap.size:=(by omega)) | (go_at_call 10;refine (impl_Measure_k v_x2 d0 d1 d2 _ HM0.out hok0 (ho_x2.below (by repeat (first | with_reducible exact hp7 | with_reducible refine bAlloc ?_ _ | with_reducible refine bDrew ?_))) wf1 HFB2.out HFO2.out (HT.out.below (by repeat (first | with_reducible exact hH7 | with_reducible refine bAlloc ?_ _ | with_reducible refine bDrew ?_)))).mono ?_;rintro e w8 ⟨v_g0,rfl,ho_g0,hf_g0,hb8⟩;(first | with_reducible have zb:=zb.below hb8 | with_reducible have zb:=(Bx2.new _ _ _ _).below hb8 | with_reducible have zb:=(Bx2.new _ _ _ _).drew.below hb8 | skip);(first | have hzl8:=zb.lt | skip);have hR8:=bTrans (show Below R6.heap.size R6 _ from (by repeat (first | with_reducible exact hR7 | with_reducible refine bAlloc ?_ _ | with_reducible refine bDrew ?_))) hb8;have hk8:=bTrans (show Below w7.heap.size w7 _ from (by repeat (first | with_reducible exact (Below.refl _ _) | with_reducible refine bAlloc ?_ _ | with_reducible refine bDrew ?_))) hb8;have hp8:=bTrans (show Below w6.heap.size w6 _ from (by repeat (first | with_reducible exact hp7 | with_reducible refine bAlloc ?_ _ | with_reducible refine bDrew ?_))) hb8;have hH8:=bTrans (show Below W.heap.size W _ from (by repeat (first | with_reducible exact hH7 | with_reducible refine bAlloc ?_ _ | with_reducible refine bDrew ?_))) hb8;have hq8:=hk8.size;have hqR8:=hR8.size;have hn8_0:w6.heap.size≠w8.heap.size:=(by omega);have hn8_2:W.heap.size+1≠w8.heap.size:=(by omega);(first | (have zb0:=zb.c0;have zb1:=zb.c1;have zbf:=zb.fz) | skip))))
    all_goals go_wp2_with fail
    all_goals go_meet
    all_goals (refine ⟨_,v_g0,rfl,rfl,?_⟩;first | exact FlatT.early (by repeat (first | with_reducible exact hR7 | with_reducible refine bAlloc ?_ _ | with_reducible refine bDrew ?_)) hb8 (by first | omega | (simp;done) | (simp;omega)) (by first | omega | (simp;done) | (simp;omega)) ho_g0 hf_g0 zb | exact FlatT.late _ (by repeat (first | with_reducible exact hR7 | with_reducible refine bAlloc ?_ _ | with_reducible refine bDrew ?_)) hb8 ho_g0 hf_g0)
  case rest =>
  obtain ⟨bx8,v_g0,rfl,rfl,hF8⟩:=hcut
  obtain ⟨w8,hwc8⟩:∃ x:World,x=wc:=⟨wc,rfl⟩
  subst hwc8
  have hk8:Below w6.heap.size w6 w8:=bTrans hr6r hF8.below
  have hs8:=hk8.size
  have hsR8:=hF8.below.size
  have hbl8:=hF8.lo
  have hlt8_g0:=hF8.x.lt
  have hx8_0:=hF8.x.c0
  have hx8_1:=hF8.x.c1
  have kb8_a0:=bBox hk8 (W.heap.size) (by first | omega | (have h1:=hcl6_0;(try simp only at h1);omega))
  have kb8_a2:=bBox hk8 (W.heap.size+1) (by first | omega | (have h1:=hcl6_0;(try simp only at h1);omega))
  have kb8_w0:=bBox hk8 (bx5) (by first | omega | (have h1:=hcl6_0;(try simp only at h1);omega))
  have kb8_x0v:=bBox hF8.below (w6.heap.size) (by first | omega | (have h1:=hcl6_0;(try simp only at h1);omega))
  have hlt8_a0:W.heap.size < w8.heap.size:=by first | omega | (have h1:=hcl6_0;(try simp only at h1);omega)
  have hlt8_a2:W.heap.size+1 < w8.heap.size:=by first | omega | (have h1:=hcl6_0;(try simp only at h1);omega)
  have hlt8_w0:bx5 < w8.heap.size:=by first | omega | (have h1:=hcl6_0;(try simp only at h1);omega)
  have hlt8_x0v:w6.heap.size < w8.heap.size:=by first | omega | (have h1:=hcl6_0;(try simp only at h1);omega)
  have ho_w0:=ho_w0.below hk8
  have ho_x2:=ho_x2.below hk8
  have ho_g0:=hF8.ow
  have hf_g0:=hF8.fr
  have hnx_g0:=hF8.nx
  have hlo_g0:Hid (∀ q∈fpT v_g0,R6.heap.size≤q):=fun q hq=>hf_g0.lo q hq
  have hhi_g0:Hid (∀ q∈fpT v_g0,q < w8.heap.size):=hf_g0.hi
  have H:=bTrans H hk8
  clear hF8
  go_wp2_with fail
  refine Calls.mono (eqTeam_k v_g0 v_w0 ((measT d0 d1 d2).1) _ (fewT_meas HM0.out hok0 d1 d2) ?_ ?_) ?_
  · exact (ho_g0.rd.below (by repeat (first | with_reducible exact Below.refl _ _ | with_reducible refine bAlloc ?_ _)))
  · exact (ho_w0.rd.below (by repeat (first | with_reducible exact Below.refl _ _ | with_reducible refine bAlloc ?_ _)))
  rintro e w9 ⟨rfl,hb9⟩
  have hk9:Below w8.heap.size w8 w9:=bTrans (by repeat (first | with_reducible exact Below.refl _ _ | with_reducible refine bAlloc ?_ _)) hb9
  have hs9:=hk9.size
  have hz9:=hb9.size
  (try simp at hz9)
  have kb9_a0:=bBox hk9 (W.heap.size) (by omega)
  have kb9_a2:=bBox hk9 (W.heap.size+1) (by omega)
  have kb9_w0:=bBox hk9 (bx5) (by omega)
  have kb9_x0v:=bBox hk9 (w6.heap.size) (by omega)
  have kb9_g0:=bBox hk9 (bx8) (by omega)
  have hlt9_a0:W.heap.size < w9.heap.size:=by omega
  have hlt9_a2:W.heap.size+1 < w9.heap.size:=by omega
  have hlt9_w0:bx5 < w9.heap.size:=by omega
  have hlt9_x0v:w6.heap.size < w9.heap.size:=by omega
  have hlt9_g0:bx8 < w9.heap.size:=by omega
  have ho_w0:=ho_w0.below hk9
  have ho_x2:=ho_x2.below hk9
  have ho_g0:=ho_g0.below hk9
  have H:=bTrans H hk9
  go_wp2_with fail
  refine region_at fun R9 hW9=>?_
  have hr9r:Below w9.heap.size w9 R9:=by rw [hW9.out];exact (by repeat (first | with_reducible exact Below.refl _ _ | with_reducible refine bAlloc ?_ _))
  have Hr9:=bTrans H hr9r
  have kr9_x0v:=bBox hr9r (w6.heap.size) (by omega)
  have g9_0:R9.cell? ⟨w6.heap.size,0,none⟩=some (.slice v_x2.r.A v_x2.r.n v_x2.r.c):=by rw [kr9_x0v,kb9_x0v,kb8_x0v];first | assumption | simp
  have g9_1:R9.cell? ⟨w6.heap.size,1,none⟩=some (.slice v_x2.c.A v_x2.c.n v_x2.c.c):=by rw [kr9_x0v,kb9_x0v,kb8_x0v];first | assumption | simp
  have kr9_a0:=bBox hr9r (W.heap.size) (by omega)
  have g9_2:R9.cell? ⟨W.heap.size,0,none⟩=some (.slice v0.r.A v0.r.n v0.r.c):=by rw [kr9_a0,kb9_a0,kb8_a0,kb6_a0,kb5_a0,kb2_a0,kb1_a0];simp
  have g9_3:R9.cell? ⟨W.heap.size,1,none⟩=some (.slice v0.c.A v0.c.n v0.c.c):=by rw [kr9_a0,kb9_a0,kb8_a0,kb6_a0,kb5_a0,kb2_a0,kb1_a0];simp
  have hzr9:=hr9r.size
  go_region_held3 (fun w'=>w'.cell? ⟨w6.heap.size,0,none⟩=some (.slice v_x2.r.A v_x2.r.n v_x2.r.c)∧w'.cell? ⟨w6.heap.size,1,none⟩=some (.slice v_x2.c.A v_x2.c.n v_x2.c.c)∧w'.cell? ⟨W.heap.size,0,none⟩=some (.slice v0.r.A v0.r.n v0.r.c)∧w'.cell? ⟨W.heap.size,1,none⟩=some (.slice v0.c.A v0.c.n v0.c.c)) (first | go_keep | ((repeat' apply And.intro) <;> (first | exact bCell hb11 (bCell hb10 (by assumption)) | exact bCell hb10 (by assumption) | exact bCell hb10 (by assumption) | exact bCell hb11 (by assumption)))) ((first | (go_at_call 21;refine (toTeam_k v0 d0 _ hfw0 (hr0.below (bDrew Hr9))).mono ?_;rintro e w10 ⟨v_x3,rfl,ho_x3,hf_x3,hb10⟩) | (go_at_call 22;refine (eqTeam_k v_x2 v_x3 d0 _ hfw0 (ho_x2.rd.below (bTrans (bDrew hr9r) hb10)) ho_x3.rd).mono ?_;rintro e w11 ⟨rfl,hb11⟩)))
  have hk10:Below w9.heap.size w9 w10:=bTrans (bDrew hr9r) hb10
  have hs10:=hk10.size
  have hz10:=hb10.size
  (try simp at hz10)
  have hk11:Below w10.heap.size w10 w11:=hb11
  have hs11:=hk11.size
  have kb11_a0:∀ o,w11.cell? ⟨W.heap.size,o,none⟩=w9.cell? ⟨W.heap.size,o,none⟩:=fun o=>(bBox hk11 (W.heap.size) (by omega) o).trans (bBox hk10 (W.heap.size) (by omega) o)
  have kb11_a2:∀ o,w11.cell? ⟨W.heap.size+1,o,none⟩=w9.cell? ⟨W.heap.size+1,o,none⟩:=fun o=>(bBox hk11 (W.heap.size+1) (by omega) o).trans (bBox hk10 (W.heap.size+1) (by omega) o)
  have kb11_w0:∀ o,w11.cell? ⟨bx5,o,none⟩=w9.cell? ⟨bx5,o,none⟩:=fun o=>(bBox hk11 (bx5) (by omega) o).trans (bBox hk10 (bx5) (by omega) o)
  have kb11_x0v:∀ o,w11.cell? ⟨w6.heap.size,o,none⟩=w9.cell? ⟨w6.heap.size,o,none⟩:=fun o=>(bBox hk11 (w6.heap.size) (by omega) o).trans (bBox hk10 (w6.heap.size) (by omega) o)
  have kb11_g0:∀ o,w11.cell? ⟨bx8,o,none⟩=w9.cell? ⟨bx8,o,none⟩:=fun o=>(bBox hk11 (bx8) (by omega) o).trans (bBox hk10 (bx8) (by omega) o)
  have hlt11_a0:W.heap.size < w11.heap.size:=by omega
  have hlt11_a2:W.heap.size+1 < w11.heap.size:=by omega
  have hlt11_w0:bx5 < w11.heap.size:=by omega
  have hlt11_x0v:w6.heap.size < w11.heap.size:=by omega
  have hlt11_g0:bx8 < w11.heap.size:=by omega
  have ho_w0:=((ho_w0.below hk10).below hk11)
  have ho_x2:=((ho_x2.below hk10).below hk11)
  have ho_g0:=((ho_g0.below hk10).below hk11)
  have hlo_x3:Hid (∀ q∈fpT v_x3,w9.heap.size≤q):=fun q hq=>by have h1:=hf_x3.lo q hq;(try simp at h1);omega
  have hhi_x3:Hid (∀ q∈fpT v_x3,q < w10.heap.size):=hf_x3.hi
  have ho_x3:=(ho_x3.below hk11)
  have H:=(bTrans (bTrans H hk10) hk11)
  go_wp2_with fail
  refine Calls.mono (markTeam_k v_x2 d0 _ _ (by omega) (by omega) hfw0 ?_ hf_x2.nodup) ?_
  · exact (ho_x2.below (by repeat (first | with_reducible exact Below.refl _ _ | with_reducible refine bAlloc ?_ _)))
  rintro e w12 ⟨rfl,ho_x2n,hu12⟩
  have hv12:Upd (fpT v_x2) w11 w12:=(Upd.of_below (by repeat (first | with_reducible exact Below.refl _ _ | with_reducible refine bAlloc ?_ _))).trans hu12
  have hs12:=hv12.size
  have hz12:=hu12.size
  (try simp at hz12)
  have kb12_a0:=uBox hv12 (W.heap.size) (by omega) (fun hm=>by (have h1:=hlo_x2.out _ hm;have h2:=hhi_x2.out _ hm;omega))
  have kb12_a2:=uBox hv12 (W.heap.size+1) (by omega) (fun hm=>by (have h1:=hlo_x2.out _ hm;have h2:=hhi_x2.out _ hm;omega))
  have kb12_w0:=uBox hv12 (bx5) (by omega) (fun hm=>by (have h1:=hlo_x2.out _ hm;have h2:=hhi_x2.out _ hm;omega))
  have kb12_x0v:=uBox hv12 (w6.heap.size) (by omega) (fun hm=>by (have h1:=hlo_x2.out _ hm;have h2:=hhi_x2.out _ hm;omega))
  have kb12_g0:=uBox hv12 (bx8) (by omega) (fun hm=>by (have h1:=hlo_x2.out _ hm;have h2:=hhi_x2.out _ hm;omega))
  have hlt12_a0:W.heap.size < w12.heap.size:=by omega
  have hlt12_a2:W.heap.size+1 < w12.heap.size:=by omega
  have hlt12_w0:bx5 < w12.heap.size:=by omega
  have hlt12_x0v:w6.heap.size < w12.heap.size:=by omega
  have hlt12_g0:bx8 < w12.heap.size:=by omega
  have ho_w0:=ho_w0.upd hv12 (fun q hq hm=>by have h1:=hlo_w0.out q hq;have h2:=hhi_w0.out q hq;have h3:=hlo_x2.out q hm;have h4:=hhi_x2.out q hm;omega)
  have ho_g0:=ho_g0.upd hv12 (fun q hq hm=>by have h1:=hlo_g0.out q hq;have h2:=hhi_g0.out q hq;have h3:=hlo_x2.out q hm;have h4:=hhi_x2.out q hm;omega)
  have ho_x3:=ho_x3.upd hv12 (fun q hq hm=>by have h1:=hlo_x3.out q hq;have h2:=hhi_x3.out q hq;have h3:=hlo_x2.out q hm;have h4:=hhi_x2.out q hm;omega)
  have H:=bUpd H hv12 (fun q hq=>by have h1:=hlo_x2.out q hq;omega)
  have ho_x2:=ho_x2n
  clear ho_x2n
  have hc12:=cntT_few (show fewT d0 from hfw0)
  go_wp2_with fail
  refine Calls.mono (eqTeam_k v_g0 v_w0 ((measT d0 d1 d2).1) _ (fewT_meas HM0.out hok0 d1 d2) ?_ ?_) ?_
  · exact (ho_g0.rd.below (by repeat (first | with_reducible exact Below.refl _ _ | with_reducible refine bAlloc ?_ _)))
  · exact (ho_w0.rd.below (by repeat (first | with_reducible exact Below.refl _ _ | with_reducible refine bAlloc ?_ _)))
  rintro e w13 ⟨rfl,hb13⟩
  have hk13:Below w12.heap.size w12 w13:=bTrans (by repeat (first | with_reducible exact Below.refl _ _ | with_reducible refine bAlloc ?_ _)) hb13
  have hs13:=hk13.size
  have hz13:=hb13.size
  (try simp at hz13)
  have kb13_a0:=bBox hk13 (W.heap.size) (by omega)
  have kb13_a2:=bBox hk13 (W.heap.size+1) (by omega)
  have kb13_w0:=bBox hk13 (bx5) (by omega)
  have kb13_x0v:=bBox hk13 (w6.heap.size) (by omega)
  have kb13_g0:=bBox hk13 (bx8) (by omega)
  have hlt13_a0:W.heap.size < w13.heap.size:=by omega
  have hlt13_a2:W.heap.size+1 < w13.heap.size:=by omega
  have hlt13_w0:bx5 < w13.heap.size:=by omega
  have hlt13_x0v:w6.heap.size < w13.heap.size:=by omega
  have hlt13_g0:bx8 < w13.heap.size:=by omega
  have ho_w0:=ho_w0.below hk13
  have ho_x2:=ho_x2.below hk13
  have ho_g0:=ho_g0.below hk13
  have ho_x3:=ho_x3.below hk13
  have H:=bTrans H hk13
  go_wp2_with fail
  refine Calls.mono (markTeam_k v_g0 ((measT d0 d1 d2).1) _ _ (by omega) (by omega) (fewT_meas HM0.out hok0 d1 d2) ?_ hf_g0.nodup) ?_
  · exact (ho_g0.below (by repeat (first | with_reducible exact Below.refl _ _ | with_reducible refine bAlloc ?_ _)))
  rintro e w14 ⟨rfl,ho_g0n,hu14⟩
  have hv14:Upd (fpT v_g0) w13 w14:=(Upd.of_below (by repeat (first | with_reducible exact Below.refl _ _ | with_reducible refine bAlloc ?_ _))).trans hu14
  have hs14:=hv14.size
  have hz14:=hu14.size
  (try simp at hz14)
  have kb14_a0:=uBox hv14 (W.heap.size) (by omega) (fun hm=>by first | exact hnx_g0 hm | (have h1:=hlo_g0.out _ hm;have h2:=hhi_g0.out _ hm;omega))
  have kb14_a2:=uBox hv14 (W.heap.size+1) (by omega) (fun hm=>by first | exact hnx_g0 hm | (have h1:=hlo_g0.out _ hm;have h2:=hhi_g0.out _ hm;omega))
  have kb14_w0:=uBox hv14 (bx5) (by omega) (fun hm=>by first | exact hnx_g0 hm | (have h1:=hlo_g0.out _ hm;have h2:=hhi_g0.out _ hm;omega))
  have kb14_x0v:=uBox hv14 (w6.heap.size) (by omega) (fun hm=>by first | exact hnx_g0 hm | (have h1:=hlo_g0.out _ hm;have h2:=hhi_g0.out _ hm;omega))
  have kb14_g0:=uBox hv14 (bx8) (by omega) (fun hm=>by first | exact hnx_g0 hm | (have h1:=hlo_g0.out _ hm;have h2:=hhi_g0.out _ hm;omega))
  have hlt14_a0:W.heap.size < w14.heap.size:=by omega
  have hlt14_a2:W.heap.size+1 < w14.heap.size:=by omega
  have hlt14_w0:bx5 < w14.heap.size:=by omega
  have hlt14_x0v:w6.heap.size < w14.heap.size:=by omega
  have hlt14_g0:bx8 < w14.heap.size:=by omega
  have ho_w0:=ho_w0.upd hv14 (fun q hq hm=>by have h1:=hlo_w0.out q hq;have h2:=hhi_w0.out q hq;have h3:=hlo_g0.out q hm;have h4:=hhi_g0.out q hm;omega)
  have ho_x2:=ho_x2.upd hv14 (fun q hq hm=>by have h1:=hlo_x2.out q hq;have h2:=hhi_x2.out q hq;have h3:=hlo_g0.out q hm;have h4:=hhi_g0.out q hm;omega)
  have ho_x3:=ho_x3.upd hv14 (fun q hq hm=>by have h1:=hlo_x3.out q hq;have h2:=hhi_x3.out q hq;have h3:=hlo_g0.out q hm;have h4:=hhi_g0.out q hm;omega)
  have H:=bUpd H hv14 (fun q hq=>by have h1:=hlo_g0.out q hq;omega)
  have ho_g0:=ho_g0n
  clear ho_g0n
  have hc14:=cntT_few (show fewT ((measT d0 d1 d2).1) from (fewT_meas HM0.out hok0 d1 d2))
  go_wp2_with fail
  refine Calls.mono (heldTeam_k v_g0 ((measT d0 d1 d2).1) _ _ (by omega) (by omega) (fewT_meas HM0.out hok0 d1 d2) ?_) ?_
  · exact (ho_g0.rd.below (by repeat (first | with_reducible exact Below.refl _ _ | with_reducible refine bAlloc ?_ _)))
  rintro e w15 ⟨rfl,hb15⟩
  have hk15:Below w14.heap.size w14 w15:=bTrans (by repeat (first | with_reducible exact Below.refl _ _ | with_reducible refine bAlloc ?_ _)) hb15
  have hs15:=hk15.size
  have hz15:=hb15.size
  (try simp at hz15)
  have kb15_a0:=bBox hk15 (W.heap.size) (by omega)
  have kb15_a2:=bBox hk15 (W.heap.size+1) (by omega)
  have kb15_w0:=bBox hk15 (bx5) (by omega)
  have kb15_x0v:=bBox hk15 (w6.heap.size) (by omega)
  have kb15_g0:=bBox hk15 (bx8) (by omega)
  have hlt15_a0:W.heap.size < w15.heap.size:=by omega
  have hlt15_a2:W.heap.size+1 < w15.heap.size:=by omega
  have hlt15_w0:bx5 < w15.heap.size:=by omega
  have hlt15_x0v:w6.heap.size < w15.heap.size:=by omega
  have hlt15_g0:bx8 < w15.heap.size:=by omega
  have ho_w0:=ho_w0.below hk15
  have ho_x2:=ho_x2.below hk15
  have ho_g0:=ho_g0.below hk15
  have ho_x3:=ho_x3.below hk15
  have H:=bTrans H hk15
  go_wp2_with fail
  refine region_at fun R15 hW15=>?_
  have hr15r:Below w15.heap.size w15 R15:=by rw [hW15.out];exact (by repeat (first | with_reducible exact Below.refl _ _ | with_reducible refine bAlloc ?_ _))
  have Hr15:=bTrans H hr15r
  have kr15_a0:=bBox hr15r (W.heap.size) (by omega)
  have g15_0:R15.cell? ⟨W.heap.size,0,none⟩=some (.slice v0.r.A v0.r.n v0.r.c):=by rw [kr15_a0,kb15_a0,kb14_a0,kb13_a0,kb12_a0,kb11_a0,kb9_a0,kb8_a0,kb6_a0,kb5_a0,kb2_a0,kb1_a0];simp
  have g15_1:R15.cell? ⟨W.heap.size,1,none⟩=some (.slice v0.c.A v0.c.n v0.c.c):=by rw [kr15_a0,kb15_a0,kb14_a0,kb13_a0,kb12_a0,kb11_a0,kb9_a0,kb8_a0,kb6_a0,kb5_a0,kb2_a0,kb1_a0];simp
  have kr15_a2:=bBox hr15r (W.heap.size+1) (by omega)
  have g15_2:R15.cell? ⟨W.heap.size+1,0,none⟩=some (.int .i64 (d2).id):=by rw [kr15_a2,kb15_a2,kb14_a2,kb13_a2,kb12_a2,kb11_a2,kb9_a2,kb8_a2,kb6_a2,kb5_a2,kb2_a2,kb1_a2];simp
  have g15_3:R15.cell? ⟨W.heap.size+1,1,none⟩=some (.int .i64 (d2).kind):=by rw [kr15_a2,kb15_a2,kb14_a2,kb13_a2,kb12_a2,kb11_a2,kb9_a2,kb8_a2,kb6_a2,kb5_a2,kb2_a2,kb1_a2];simp
  have g15_4:R15.cell? ⟨W.heap.size+1,2,none⟩=some (.string (d2).frm):=by rw [kr15_a2,kb15_a2,kb14_a2,kb13_a2,kb12_a2,kb11_a2,kb9_a2,kb8_a2,kb6_a2,kb5_a2,kb2_a2,kb1_a2];simp
  have g15_5:R15.cell? ⟨W.heap.size+1,3,none⟩=some (.string (d2).to):=by rw [kr15_a2,kb15_a2,kb14_a2,kb13_a2,kb12_a2,kb11_a2,kb9_a2,kb8_a2,kb6_a2,kb5_a2,kb2_a2,kb1_a2];simp
  have g15_6:R15.cell? ⟨W.heap.size+1,4,none⟩=some (.int .i64 (d2).pose.turn):=by rw [kr15_a2,kb15_a2,kb14_a2,kb13_a2,kb12_a2,kb11_a2,kb9_a2,kb8_a2,kb6_a2,kb5_a2,kb2_a2,kb1_a2];simp
  have g15_7:R15.cell? ⟨W.heap.size+1,5,none⟩=some (.int .i64 (d2).pose.x):=by rw [kr15_a2,kb15_a2,kb14_a2,kb13_a2,kb12_a2,kb11_a2,kb9_a2,kb8_a2,kb6_a2,kb5_a2,kb2_a2,kb1_a2];simp
  have g15_8:R15.cell? ⟨W.heap.size+1,6,none⟩=some (.int .i64 (d2).pose.y):=by rw [kr15_a2,kb15_a2,kb14_a2,kb13_a2,kb12_a2,kb11_a2,kb9_a2,kb8_a2,kb6_a2,kb5_a2,kb2_a2,kb1_a2];simp
  have g15_9:R15.cell? ⟨W.heap.size+1,7,none⟩=some (.int .i64 (d2).weight):=by rw [kr15_a2,kb15_a2,kb14_a2,kb13_a2,kb12_a2,kb11_a2,kb9_a2,kb8_a2,kb6_a2,kb5_a2,kb2_a2,kb1_a2];simp
  have hzr15:=hr15r.size
  have hcl15_0:=cell_lt g15_0
  have hnR15_0:W.heap.size≠R15.heap.size:=(by have h1:=hcl15_0;(try simp only at h1);omega)
  have hcl15_2:=cell_lt g15_2
  have hnR15_2:W.heap.size+1≠R15.heap.size:=(by have h1:=hcl15_2;(try simp only at h1);omega)
  go_cut [16,17] (fun sp sq wr=>∃ (bx:Nat) (v:TV),sp=.pointer (some ⟨bx,0,none⟩)∧sq=.bool (measT d0 d1 d2).2∧FlatT R15 wr bx v ((measT d0 d1 d2).1))
  case first =>
    go_region_held3 (fun w'=>w'.cell? ⟨W.heap.size,0,none⟩=some (.slice v0.r.A v0.r.n v0.r.c)∧w'.cell? ⟨W.heap.size,1,none⟩=some (.slice v0.c.A v0.c.n v0.c.c)∧w'.cell? ⟨W.heap.size+1,0,none⟩=some (.int .i64 (d2).id)∧w'.cell? ⟨W.heap.size+1,1,none⟩=some (.int .i64 (d2).kind)∧w'.cell? ⟨W.heap.size+1,2,none⟩=some (.string (d2).frm)∧w'.cell? ⟨W.heap.size+1,3,none⟩=some (.string (d2).to)∧w'.cell? ⟨W.heap.size+1,4,none⟩=some (.int .i64 (d2).pose.turn)∧w'.cell? ⟨W.heap.size+1,5,none⟩=some (.int .i64 (d2).pose.x)∧w'.cell? ⟨W.heap.size+1,6,none⟩=some (.int .i64 (d2).pose.y)∧w'.cell? ⟨W.heap.size+1,7,none⟩=some (.int .i64 (d2).weight)) ((go_split_ands;(repeat' apply And.intro) <;> (exact bCell (show Below R15.heap.size R15 _ from (by repeat (first | with_reducible exact Below.refl _ _ | with_reducible exact hR16 | with_reducible exact hR17 | with_reducible exact hR18 | with_reducible refine bAlloc ?_ _ | with_reducible refine bDrew ?_ | with_reducible refine bSet ?_ (by first | exact Nat.le_refl _ | (dsimp only;omega)) _))) (by assumption)))) ((first | (go_at_call 21;refine (toTeam_k v0 d0 _ hfw0 (hr0.below (by repeat (first | with_reducible exact Hr15 | with_reducible refine bAlloc ?_ _ | with_reducible refine bDrew ?_)))).mono ?_;rintro e w16 ⟨v_x4,rfl,ho_x4,hf_x4,hb16⟩;(first | with_reducible have zb:=zb.below hb16 | with_reducible have zb:=(Bx2.new _ _ _ _).below hb16 | with_reducible have zb:=(Bx2.new _ _ _ _).drew.below hb16 | skip);(first | have hzl16:=zb.lt | skip);have hR16:=bTrans (show Below R15.heap.size R15 _ from (by repeat (first | with_reducible exact (Below.refl _ _) | with_reducible refine bAlloc ?_ _ | with_reducible refine bDrew ?_))) hb16;have hk16:=bTrans (show Below R15.heap.size R15 _ from (by repeat (first | with_reducible exact (Below.refl _ _) | with_reducible refine bAlloc ?_ _ | with_reducible refine bDrew ?_))) hb16;have hp16:=bTrans (show Below w15.heap.size w15 _ from (by repeat (first | with_reducible exact hr15r | with_reducible refine bAlloc ?_ _ | with_reducible refine bDrew ?_))) hb16;have hH16:=bTrans (show Below W.heap.size W _ from (by repeat (first | with_reducible exact Hr15 | with_reducible refine bAlloc ?_ _ | with_reducible refine bDrew ?_))) hb16;have hq16:=hk16.size;have hqR16:=hR16.size;have hn16_0:W.heap.size≠w16.heap.size:=(by omega);have hn16_2:W.heap.size+1≠w16.heap.size:=(by omega)) | (go_at_call 27;refine (toFactor_c _ _ _ _ _ _ _ _ _).mono ?_;rintro e w17 ⟨rfl,hb17⟩;(first | with_reducible have zb:=zb.below hb17 | with_reducible have zb:=(Bx2.new _ _ _ _).below hb17 | with_reducible have zb:=(Bx2.new _ _ _ _).drew.below hb17 | skip);(first | have hzl17:=zb.lt | skip);have hR17:=bTrans (show Below R15.heap.size R15 _ from (by repeat (first | with_reducible exact hR16 | with_reducible refine bAlloc ?_ _ | with_reducible refine bDrew ?_))) hb17;have hk17:=bTrans (show Below w16.heap.size w16 _ from (by repeat (first | with_reducible exact (Below.refl _ _) | with_reducible refine bAlloc ?_ _ | with_reducible refine bDrew ?_))) hb17;have hp17:=bTrans (show Below w15.heap.size w15 _ from (by repeat (first | with_reducible exact hp16 | with_reducible refine bAlloc ?_ _ | with_reducible refine bDrew ?_))) hb17;have hH17:=bTrans (show Below W.heap.size W _ from (by repeat (first | with_reducible exact hH16 | with_reducible refine bAlloc ?_ _ | with_reducible refine bDrew ?_))) hb17;have hq17:=hk17.size;have hqR17:=hR17.size;have hn17_0:W.heap.size≠w17.heap.size:=(by omega);have hn17_2:W.heap.size+1≠w17.heap.size:=(by omega)) | (go_at_call 10;refine (impl_Measure_k v_x4 d0 d1 d2 _ HM0.out hok0 (ho_x4.below (by repeat (first | with_reducible exact hk17 | with_reducible refine bAlloc ?_ _ | with_reducible refine bDrew ?_))) wf1 HFB2.out HFO2.out (HT.out.below (by repeat (first | with_reducible exact hH17 | with_reducible refine bAlloc ?_ _ | with_reducible refine bDrew ?_)))).mono ?_;rintro e w18 ⟨v_h0,rfl,ho_h0,hf_h0,hb18⟩;(first | with_reducible have zb:=zb.below hb18 | with_reducible have zb:=(Bx2.new _ _ _ _).below hb18 | with_reducible have zb:=(Bx2.new _ _ _ _).drew.below hb18 | skip);(first | have hzl18:=zb.lt | skip);have hR18:=bTrans (show Below R15.heap.size R15 _ from (by repeat (first | with_reducible exact hR17 | with_reducible refine bAlloc ?_ _ | with_reducible refine bDrew ?_))) hb18;have hk18:=bTrans (show Below w17.heap.size w17 _ from (by repeat (first | with_reducible exact (Below.refl _ _) | with_reducible refine bAlloc ?_ _ | with_reducible refine bDrew ?_))) hb18;have hp18:=bTrans (show Below w15.heap.size w15 _ from (by repeat (first | with_reducible exact hp17 | with_reducible refine bAlloc ?_ _ | with_reducible refine bDrew ?_))) hb18;have hH18:=bTrans (show Below W.heap.size W _ from (by repeat (first | with_reducible exact hH17 | with_reducible refine bAlloc ?_ _ | with_reducible refine bDrew ?_))) hb18;have hq18:=hk18.size;have hqR18:=hR18.size;have hn18_0:W.heap.size≠w18.heap.size:=(by omega);have hn18_2:W.heap.size+1≠w18.heap.size:=(by omega);(first | (have zb0:=zb.c0;have zb1:=zb.c1;have zbf:=zb.fz) | skip))))
    all_goals go_wp2_with fail
    all_goals go_meet
    all_goals (refine ⟨_,v_h0,rfl,rfl,?_⟩;first | exact FlatT.early (by repeat (first | with_reducible exact hR17 | with_reducible refine bAlloc ?_ _ | with_reducible refine bDrew ?_)) hb18 (by first | omega | (simp;done) | (simp;omega)) (by first | omega | (simp;done) | (simp;omega)) ho_h0 hf_h0 zb | exact FlatT.late _ (by repeat (first | with_reducible exact hR17 | with_reducible refine bAlloc ?_ _ | with_reducible refine bDrew ?_)) hb18 ho_h0 hf_h0)
  case rest =>
  obtain ⟨bx18,v_h0,rfl,rfl,hF18⟩:=hcut
  obtain ⟨w18,hwc18⟩:∃ x:World,x=wc:=⟨wc,rfl⟩
  subst hwc18
  have hk18:Below w15.heap.size w15 w18:=bTrans hr15r hF18.below
  have hs18:=hk18.size
  have hsR18:=hF18.below.size
  have hbl18:=hF18.lo
  have hlt18_h0:=hF18.x.lt
  have hx18_0:=hF18.x.c0
  have hx18_1:=hF18.x.c1
  have kb18_a0:=bBox hk18 (W.heap.size) (by first | omega | (have h1:=hcl15_0;(try simp only at h1);omega))
  have kb18_a2:=bBox hk18 (W.heap.size+1) (by first | omega | (have h1:=hcl15_0;(try simp only at h1);omega))
  have kb18_w0:=bBox hk18 (bx5) (by first | omega | (have h1:=hcl15_0;(try simp only at h1);omega))
  have kb18_x0v:=bBox hk18 (w6.heap.size) (by first | omega | (have h1:=hcl15_0;(try simp only at h1);omega))
  have kb18_g0:=bBox hk18 (bx8) (by first | omega | (have h1:=hcl15_0;(try simp only at h1);omega))
  have hlt18_a0:W.heap.size < w18.heap.size:=by first | omega | (have h1:=hcl15_0;(try simp only at h1);omega)
  have hlt18_a2:W.heap.size+1 < w18.heap.size:=by first | omega | (have h1:=hcl15_0;(try simp only at h1);omega)
  have hlt18_w0:bx5 < w18.heap.size:=by first | omega | (have h1:=hcl15_0;(try simp only at h1);omega)
  have hlt18_x0v:w6.heap.size < w18.heap.size:=by first | omega | (have h1:=hcl15_0;(try simp only at h1);omega)
  have hlt18_g0:bx8 < w18.heap.size:=by first | omega | (have h1:=hcl15_0;(try simp only at h1);omega)
  have ho_w0:=ho_w0.below hk18
  have ho_x2:=ho_x2.below hk18
  have ho_g0:=ho_g0.below hk18
  have ho_x3:=ho_x3.below hk18
  have ho_h0:=hF18.ow
  have hf_h0:=hF18.fr
  have hnx_h0:=hF18.nx
  have hlo_h0:Hid (∀ q∈fpT v_h0,R15.heap.size≤q):=fun q hq=>hf_h0.lo q hq
  have hhi_h0:Hid (∀ q∈fpT v_h0,q < w18.heap.size):=hf_h0.hi
  have H:=bTrans H hk18
  clear hF18
  go_wp2_with fail
  refine Calls.mono (eqTeam_k v_h0 v_w0 ((measT d0 d1 d2).1) _ (fewT_meas HM0.out hok0 d1 d2) ?_ ?_) ?_
  · exact (ho_h0.rd.below (by repeat (first | with_reducible exact Below.refl _ _ | with_reducible refine bAlloc ?_ _)))
  · exact (ho_w0.rd.below (by repeat (first | with_reducible exact Below.refl _ _ | with_reducible refine bAlloc ?_ _)))
  rintro e w19 ⟨rfl,hb19⟩
  have hk19:Below w18.heap.size w18 w19:=bTrans (by repeat (first | with_reducible exact Below.refl _ _ | with_reducible refine bAlloc ?_ _)) hb19
  have hs19:=hk19.size
  have hz19:=hb19.size
  (try simp at hz19)
  have kb19_a0:=bBox hk19 (W.heap.size) (by omega)
  have kb19_a2:=bBox hk19 (W.heap.size+1) (by omega)
  have kb19_w0:=bBox hk19 (bx5) (by omega)
  have kb19_x0v:=bBox hk19 (w6.heap.size) (by omega)
  have kb19_g0:=bBox hk19 (bx8) (by omega)
  have kb19_h0:=bBox hk19 (bx18) (by omega)
  have hlt19_a0:W.heap.size < w19.heap.size:=by omega
  have hlt19_a2:W.heap.size+1 < w19.heap.size:=by omega
  have hlt19_w0:bx5 < w19.heap.size:=by omega
  have hlt19_x0v:w6.heap.size < w19.heap.size:=by omega
  have hlt19_g0:bx8 < w19.heap.size:=by omega
  have hlt19_h0:bx18 < w19.heap.size:=by omega
  have ho_w0:=ho_w0.below hk19
  have ho_x2:=ho_x2.below hk19
  have ho_g0:=ho_g0.below hk19
  have ho_x3:=ho_x3.below hk19
  have ho_h0:=ho_h0.below hk19
  have H:=bTrans H hk19
  go_wp2_with fail
  refine Calls.mono (heldTeam_k v_g0 ((measT d0 d1 d2).1) _ _ (by omega) (by omega) (fewT_meas HM0.out hok0 d1 d2) ?_) ?_
  · exact (ho_g0.rd.below (by repeat (first | with_reducible exact Below.refl _ _ | with_reducible refine bAlloc ?_ _)))
  rintro e w20 ⟨rfl,hb20⟩
  have hk20:Below w19.heap.size w19 w20:=bTrans (by repeat (first | with_reducible exact Below.refl _ _ | with_reducible refine bAlloc ?_ _)) hb20
  have hs20:=hk20.size
  have hz20:=hb20.size
  (try simp at hz20)
  have kb20_a0:=bBox hk20 (W.heap.size) (by omega)
  have kb20_a2:=bBox hk20 (W.heap.size+1) (by omega)
  have kb20_w0:=bBox hk20 (bx5) (by omega)
  have kb20_x0v:=bBox hk20 (w6.heap.size) (by omega)
  have kb20_g0:=bBox hk20 (bx8) (by omega)
  have kb20_h0:=bBox hk20 (bx18) (by omega)
  have hlt20_a0:W.heap.size < w20.heap.size:=by omega
  have hlt20_a2:W.heap.size+1 < w20.heap.size:=by omega
  have hlt20_w0:bx5 < w20.heap.size:=by omega
  have hlt20_x0v:w6.heap.size < w20.heap.size:=by omega
  have hlt20_g0:bx8 < w20.heap.size:=by omega
  have hlt20_h0:bx18 < w20.heap.size:=by omega
  have ho_w0:=ho_w0.below hk20
  have ho_x2:=ho_x2.below hk20
  have ho_g0:=ho_g0.below hk20
  have ho_x3:=ho_x3.below hk20
  have ho_h0:=ho_h0.below hk20
  have H:=bTrans H hk20
  go_wp2_with fail
  go_ret
  exact ⟨rfl,H⟩
end Go.Proofs.YtdfemnffpaopfaaGreatDoor
