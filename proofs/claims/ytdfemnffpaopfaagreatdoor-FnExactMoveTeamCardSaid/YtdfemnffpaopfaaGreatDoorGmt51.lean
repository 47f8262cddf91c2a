/- Texts of this proof, one behind the other: WMoveTeam. -/
import Derived.Test.YtdfemnffpaopfaaGreatDoorGmt48
import Derived.Test.YtdfemnffpaopfaaGreatDoorGmt50
namespace Go.Proofs.YtdfemnffpaopfaaGreatDoor
open Go.RowKit
set_option linter.unusedVariables false
set_option linter.unusedSimpArgs false
set_option maxHeartbeats 1600000
set_option maxRecDepth 100000
theorem w_FnExactMoveTeam (W:World) (v0:TV) (d0:Team) (hr0:RdT W v0 d0) (hok0:okT d0) (hl0:lenT v0) (d1:Int) (wf1:(Lit.int .i64 d1).wf = true) (d2:Int) (wf2:(Lit.int .i64 d2).wf = true) (d3:Int) (wf3:(Lit.int .i64 d3).wf = true) (d4:Int) (wf4:(Lit.int .i64 d4).wf = true) (hT:TabJ W) :
    Calls Tryz.prog 6 #[vTeam v0,.int .i64 d1,.int .i64 d2,.int .i64 d3,.int .i64 d4] W fun e w'=>e = rBool true∧Below W.heap.size W w':=by
  have HT:=Lib.hid hT
  clear hT
  go_enter Tryz.func6,Tryz.ntmps6
  go_wp2_with fail
  refine Calls.mono (szTeam_k v0 d0 _ _ (by omega) (by omega) hl0 hok0 ?_) ?_
  · exact hr0.below (by repeat (first | with_reducible exact Below.refl _ _ | with_reducible refine bAlloc ?_ _))
  rintro e w1 ⟨⟨r0,rfl,hp⟩,hb1⟩
  have hk1:Below W.heap.size W w1:=bTrans (by repeat (first | with_reducible exact Below.refl _ _ | with_reducible refine bAlloc ?_ _)) hb1
  have hs1:=hk1.size
  have hz1:=hb1.size
  (try simp at hz1)
  have kb1_a0:=bBox hb1 (W.heap.size) (by first | omega | (simp;done) | (simp;omega))
  have hlt1_a0:W.heap.size < w1.heap.size:=by omega
  have H:=bTrans (Below.refl _ W) hk1
  rcases hp with rfl | ⟨hp0,hp1⟩
  · go_wp2_with fail
    go_ret
    exact ⟨rfl,H⟩
  have hrl0:r0≤1048576:=by have:=hp1.out;omega
  have hr00:0≤r0:=hp0
  have hm0:bulkT d0≤1048576:=by have:=hp1.out;omega
  have HM0:=Lib.hid hm0
  have hfw0:=fewT_of (Nat.le_trans hm0 (by decide))
  clear hp0 hp1
  go_wp2_with fail
  refine Calls.mono (toTeam_k v0 d0 _ hfw0 ?_) ?_
  · exact hr0.below (by repeat (first | with_reducible exact H | with_reducible refine bAlloc ?_ _))
  rintro e w2 ⟨v_x1,rfl,ho_x1,hf_x1,hb2⟩
  have hk2:Below w1.heap.size w1 w2:=bTrans (by repeat (first | with_reducible exact Below.refl _ _ | with_reducible refine bAlloc ?_ _)) hb2
  have hs2:=hk2.size
  have hz2:=hb2.size
  (try simp at hz2)
  have kb2_a0:=bBox hk2 (W.heap.size) (by omega)
  have hlt2_a0:W.heap.size < w2.heap.size:=by omega
  have H:=bTrans H hk2
  have hlo_x1:Hid (∀ q∈fpT v_x1,w1.heap.size≤q):=fun q hq=>by have h1:=hf_x1.lo q hq;(try simp at h1);omega
  have hhi_x1:Hid (∀ q∈fpT v_x1,q < w2.heap.size):=hf_x1.hi
  go_wp2_with fail
  refine Calls.mono (spec_MoveTeam_k v_x1 d0 d1 d2 d3 d4 _ HM0.out hok0 ?_ wf1 wf2 wf3 wf4) ?_
  · exact (ho_x1.rd.below (by repeat (first | with_reducible exact Below.refl _ _ | with_reducible refine bAlloc ?_ _)))
  rintro e w3 ⟨v_w0,rfl,ho_w0,hf_w0,hb3⟩
  have hk3:Below w2.heap.size w2 w3:=bTrans (by repeat (first | with_reducible exact Below.refl _ _ | with_reducible refine bAlloc ?_ _)) hb3
  have hs3:=hk3.size
  have hz3:=hb3.size
  (try simp at hz3)
  have kb3_a0:=bBox hk3 (W.heap.size) (by omega)
  have hlt3_a0:W.heap.size < w3.heap.size:=by omega
  have ho_x1:=ho_x1.below hk3
  have H:=bTrans H hk3
  have hlo_w0:Hid (∀ q∈fpT v_w0,w2.heap.size≤q):=fun q hq=>by have h1:=hf_w0.lo q hq;(try simp at h1);omega
  have hhi_w0:Hid (∀ q∈fpT v_w0,q < w3.heap.size):=hf_w0.hi
  go_wp2_with fail
  refine Calls.mono (toTeam_k v0 d0 _ hfw0 ?_) ?_
  · exact hr0.below (by repeat (first | with_reducible exact H | with_reducible refine bAlloc ?_ _))
  rintro e w4 ⟨v_x2,rfl,ho_x2,hf_x2,hb4⟩
  have hk4:Below w3.heap.size w3 w4:=bTrans (by repeat (first | with_reducible exact Below.refl _ _ | with_reducible refine bAlloc ?_ _)) hb4
  have hs4:=hk4.size
  have hz4:=hb4.size
  (try simp at hz4)
  have kb4_a0:=bBox hk4 (W.heap.size) (by omega)
  have kb4_w0:=bBox hb4 (w3.heap.size) (by first | omega | (simp;done) | (simp;omega))
  have hlt4_a0:W.heap.size < w4.heap.size:=by omega
  have hlt4_w0:w3.heap.size < w4.heap.size:=by omega
  have ho_x1:=ho_x1.below hk4
  have ho_w0:=ho_w0.below hk4
  have H:=bTrans H hk4
  have hlo_x2:Hid (∀ q∈fpT v_x2,w3.heap.size + 1≤q):=fun q hq=>by have h1:=hf_x2.lo q hq;(try simp at h1);omega
  have hhi_x2:Hid (∀ q∈fpT v_x2,q < w4.heap.size):=hf_x2.hi
  go_wp2_with fail
  refine Calls.mono (impl_MoveTeam_k v_x2 d0 d1 d2 d3 d4 _ HM0.out hok0 ?_ wf1 wf2 wf3 wf4 ?_) ?_
  · exact (ho_x2.rd.below (by repeat (first | with_reducible exact Below.refl _ _ | with_reducible refine bAlloc ?_ _)))
  · exact HT.out.below (by repeat (first | with_reducible exact H | with_reducible refine bAlloc ?_ _))
  rintro e w5 ⟨v_g0,rfl,ho_g0,hf_g0,hb5⟩
  have hk5:Below w4.heap.size w4 w5:=bTrans (by repeat (first | with_reducible exact Below.refl _ _ | with_reducible refine bAlloc ?_ _)) hb5
  have hs5:=hk5.size
  have hz5:=hb5.size
  (try simp at hz5)
  have kb5_a0:=bBox hk5 (W.heap.size) (by omega)
  have kb5_w0:=bBox hk5 (w3.heap.size) (by omega)
  have kb5_x0v:=bBox hb5 (w4.heap.size) (by first | omega | (simp;done) | (simp;omega))
  have hlt5_a0:W.heap.size < w5.heap.size:=by omega
  have hlt5_w0:w3.heap.size < w5.heap.size:=by omega
  have hlt5_x0v:w4.heap.size < w5.heap.size:=by omega
  have ho_x1:=ho_x1.below hk5
  have ho_w0:=ho_w0.below hk5
  have ho_x2:=ho_x2.below hk5
  have H:=bTrans H hk5
  have hlo_g0:Hid (∀ q∈fpT v_g0,w4.heap.size + 1≤q):=fun q hq=>by have h1:=hf_g0.lo q hq;(try simp at h1);omega
  have hhi_g0:Hid (∀ q∈fpT v_g0,q < w5.heap.size):=hf_g0.hi
  go_wp2_with fail
  refine Calls.mono (eqTeam_k v_g0 v_w0 (moveT d0 d1 d2 d3 d4) _ (fewT_move HM0.out hok0 d1 d2 d3 d4) ?_ ?_) ?_
  · exact (ho_g0.rd.below (by repeat (first | with_reducible exact Below.refl _ _ | with_reducible refine bAlloc ?_ _)))
  · exact (ho_w0.rd.below (by repeat (first | with_reducible exact Below.refl _ _ | with_reducible refine bAlloc ?_ _)))
  rintro e w6 ⟨rfl,hb6⟩
  have hk6:Below w5.heap.size w5 w6:=bTrans (by repeat (first | with_reducible exact Below.refl _ _ | with_reducible refine bAlloc ?_ _)) hb6
  have hs6:=hk6.size
  have hz6:=hb6.size
  (try simp at hz6)
  have kb6_a0:=bBox hk6 (W.heap.size) (by omega)
  have kb6_w0:=bBox hk6 (w3.heap.size) (by omega)
  have kb6_x0v:=bBox hk6 (w4.heap.size) (by omega)
  have kb6_g0:=bBox hb6 (w5.heap.size) (by first | omega | (simp;done) | (simp;omega))
  have hlt6_a0:W.heap.size < w6.heap.size:=by omega
  have hlt6_w0:w3.heap.size < w6.heap.size:=by omega
  have hlt6_x0v:w4.heap.size < w6.heap.size:=by omega
  have hlt6_g0:w5.heap.size < w6.heap.size:=by omega
  have ho_x1:=ho_x1.below hk6
  have ho_w0:=ho_w0.below hk6
  have ho_x2:=ho_x2.below hk6
  have ho_g0:=ho_g0.below hk6
  have H:=bTrans H hk6
  go_wp2_with fail
  refine region_at fun R6 hW6=>?_
  have hr6r:Below w6.heap.size w6 R6:=by rw [hW6.out];exact (by repeat (first | with_reducible exact Below.refl _ _ | with_reducible refine bAlloc ?_ _))
  have Hr6:=bTrans H hr6r
  have kr6_x0v:=bBox hr6r (w4.heap.size) (by omega)
  have g6_0:R6.cell? ⟨w4.heap.size,0,none⟩ = some (.slice v_x2.r.A v_x2.r.n v_x2.r.c):=by rw [kr6_x0v,kb6_x0v,kb5_x0v];simp
  have g6_1:R6.cell? ⟨w4.heap.size,1,none⟩ = some (.slice v_x2.c.A v_x2.c.n v_x2.c.c):=by rw [kr6_x0v,kb6_x0v,kb5_x0v];simp
  have kr6_a0:=bBox hr6r (W.heap.size) (by omega)
  have g6_2:R6.cell? ⟨W.heap.size,0,none⟩ = some (.slice v0.r.A v0.r.n v0.r.c):=by rw [kr6_a0,kb6_a0,kb5_a0,kb4_a0,kb3_a0,kb2_a0,kb1_a0];simp
  have g6_3:R6.cell? ⟨W.heap.size,1,none⟩ = some (.slice v0.c.A v0.c.n v0.c.c):=by rw [kr6_a0,kb6_a0,kb5_a0,kb4_a0,kb3_a0,kb2_a0,kb1_a0];simp
  have hzr6:=hr6r.size
  go_region_held3 (fun w'=>w'.cell? ⟨w4.heap.size,0,none⟩ = some (.slice v_x2.r.A v_x2.r.n v_x2.r.c)∧w'.cell? ⟨w4.heap.size,1,none⟩ = some (.slice v_x2.c.A v_x2.c.n v_x2.c.c)∧w'.cell? ⟨W.heap.size,0,none⟩ = some (.slice v0.r.A v0.r.n v0.r.c)∧w'.cell? ⟨W.heap.size,1,none⟩ = some (.slice v0.c.A v0.c.n v0.c.c)) (first | go_keep | ((repeat' apply And.intro) <;> (first | exact bCell hb8 (bCell hb7 (by assumption)) | exact bCell hb7 (by assumption) | exact bCell hb7 (by assumption) | exact bCell hb8 (by assumption)))) ((first | (go_at_call 21;refine (toTeam_k v0 d0 _ hfw0 (hr0.below (bDrew Hr6))).mono ?_;rintro e w7 ⟨v_x3,rfl,ho_x3,hf_x3,hb7⟩) | (go_at_call 22;refine (eqTeam_k v_x2 v_x3 d0 _ hfw0 (ho_x2.rd.below (bTrans (bDrew hr6r) hb7)) ho_x3.rd).mono ?_;rintro e w8 ⟨rfl,hb8⟩)))
  have hk7:Below w6.heap.size w6 w7:=bTrans (bDrew hr6r) hb7
  have hs7:=hk7.size
  have hz7:=hb7.size
  (try simp at hz7)
  have hk8:Below w7.heap.size w7 w8:=hb8
  have hs8:=hk8.size
  have kb8_a0:∀ o,w8.cell? ⟨W.heap.size,o,none⟩ = w6.cell? ⟨W.heap.size,o,none⟩:=fun o=>(bBox hk8 (W.heap.size) (by omega) o).trans (bBox hk7 (W.heap.size) (by omega) o)
  have kb8_w0:∀ o,w8.cell? ⟨w3.heap.size,o,none⟩ = w6.cell? ⟨w3.heap.size,o,none⟩:=fun o=>(bBox hk8 (w3.heap.size) (by omega) o).trans (bBox hk7 (w3.heap.size) (by omega) o)
  have kb8_x0v:∀ o,w8.cell? ⟨w4.heap.size,o,none⟩ = w6.cell? ⟨w4.heap.size,o,none⟩:=fun o=>(bBox hk8 (w4.heap.size) (by omega) o).trans (bBox hk7 (w4.heap.size) (by omega) o)
  have kb8_g0:∀ o,w8.cell? ⟨w5.heap.size,o,none⟩ = w6.cell? ⟨w5.heap.size,o,none⟩:=fun o=>(bBox hk8 (w5.heap.size) (by omega) o).trans (bBox hk7 (w5.heap.size) (by omega) o)
  have hlt8_a0:W.heap.size < w8.heap.size:=by omega
  have hlt8_w0:w3.heap.size < w8.heap.size:=by omega
  have hlt8_x0v:w4.heap.size < w8.heap.size:=by omega
  have hlt8_g0:w5.heap.size < w8.heap.size:=by omega
  have ho_x1:=((ho_x1.below hk7).below hk8)
  have ho_w0:=((ho_w0.below hk7).below hk8)
  have ho_x2:=((ho_x2.below hk7).below hk8)
  have ho_g0:=((ho_g0.below hk7).below hk8)
  have hlo_x3:Hid (∀ q∈fpT v_x3,w6.heap.size≤q):=fun q hq=>by have h1:=hf_x3.lo q hq;(try simp at h1);omega
  have hhi_x3:Hid (∀ q∈fpT v_x3,q < w7.heap.size):=hf_x3.hi
  have ho_x3:=(ho_x3.below hk8)
  have H:=(bTrans (bTrans H hk7) hk8)
  go_wp2_with fail
  refine Calls.mono (markTeam_k v_x2 d0 _ _ (by omega) (by omega) hfw0 ?_ hf_x2.nodup) ?_
  · exact (ho_x2.below (by repeat (first | with_reducible exact Below.refl _ _ | with_reducible refine bAlloc ?_ _)))
  rintro e w9 ⟨rfl,ho_x2n,hu9⟩
  have hv9:Upd (fpT v_x2) w8 w9:=(Upd.of_below (by repeat (first | with_reducible exact Below.refl _ _ | with_reducible refine bAlloc ?_ _))).trans hu9
  have hs9:=hv9.size
  have hz9:=hu9.size
  (try simp at hz9)
  have kb9_a0:=uBox hv9 (W.heap.size) (by omega) (fun hm=>by have h1:=hlo_x2.out _ hm;have h2:=hhi_x2.out _ hm;omega)
  have kb9_w0:=uBox hv9 (w3.heap.size) (by omega) (fun hm=>by have h1:=hlo_x2.out _ hm;have h2:=hhi_x2.out _ hm;omega)
  have kb9_x0v:=uBox hv9 (w4.heap.size) (by omega) (fun hm=>by have h1:=hlo_x2.out _ hm;have h2:=hhi_x2.out _ hm;omega)
  have kb9_g0:=uBox hv9 (w5.heap.size) (by omega) (fun hm=>by have h1:=hlo_x2.out _ hm;have h2:=hhi_x2.out _ hm;omega)
  have hlt9_a0:W.heap.size < w9.heap.size:=by omega
  have hlt9_w0:w3.heap.size < w9.heap.size:=by omega
  have hlt9_x0v:w4.heap.size < w9.heap.size:=by omega
  have hlt9_g0:w5.heap.size < w9.heap.size:=by omega
  have ho_x1:=ho_x1.upd hv9 (fun q hq hm=>by have h1:=hlo_x1.out q hq;have h2:=hhi_x1.out q hq;have h3:=hlo_x2.out q hm;have h4:=hhi_x2.out q hm;omega)
  have ho_w0:=ho_w0.upd hv9 (fun q hq hm=>by have h1:=hlo_w0.out q hq;have h2:=hhi_w0.out q hq;have h3:=hlo_x2.out q hm;have h4:=hhi_x2.out q hm;omega)
  have ho_g0:=ho_g0.upd hv9 (fun q hq hm=>by have h1:=hlo_g0.out q hq;have h2:=hhi_g0.out q hq;have h3:=hlo_x2.out q hm;have h4:=hhi_x2.out q hm;omega)
  have ho_x3:=ho_x3.upd hv9 (fun q hq hm=>by have h1:=hlo_x3.out q hq;have h2:=hhi_x3.out q hq;have h3:=hlo_x2.out q hm;have h4:=hhi_x2.out q hm;omega)
  have H:=bUpd H hv9 (fun q hq=>by have h1:=hlo_x2.out q hq;omega)
  have ho_x2:=ho_x2n
  clear ho_x2n
  have hc9:=cntT_few (show fewT d0 from hfw0)
  go_wp2_with fail
  refine Calls.mono (eqTeam_k v_g0 v_w0 (moveT d0 d1 d2 d3 d4) _ (fewT_move HM0.out hok0 d1 d2 d3 d4) ?_ ?_) ?_
  · exact (ho_g0.rd.below (by repeat (first | with_reducible exact Below.refl _ _ | with_reducible refine bAlloc ?_ _)))
  · exact (ho_w0.rd.below (by repeat (first | with_reducible exact Below.refl _ _ | with_reducible refine bAlloc ?_ _)))
  rintro e w10 ⟨rfl,hb10⟩
  have hk10:Below w9.heap.size w9 w10:=bTrans (by repeat (first | with_reducible exact Below.refl _ _ | with_reducible refine bAlloc ?_ _)) hb10
  have hs10:=hk10.size
  have hz10:=hb10.size
  (try simp at hz10)
  have kb10_a0:=bBox hk10 (W.heap.size) (by omega)
  have kb10_w0:=bBox hk10 (w3.heap.size) (by omega)
  have kb10_x0v:=bBox hk10 (w4.heap.size) (by omega)
  have kb10_g0:=bBox hk10 (w5.heap.size) (by omega)
  have hlt10_a0:W.heap.size < w10.heap.size:=by omega
  have hlt10_w0:w3.heap.size < w10.heap.size:=by omega
  have hlt10_x0v:w4.heap.size < w10.heap.size:=by omega
  have hlt10_g0:w5.heap.size < w10.heap.size:=by omega
  have ho_x1:=ho_x1.below hk10
  have ho_w0:=ho_w0.below hk10
  have ho_x2:=ho_x2.below hk10
  have ho_g0:=ho_g0.below hk10
  have ho_x3:=ho_x3.below hk10
  have H:=bTrans H hk10
  go_wp2_with fail
  refine Calls.mono (markTeam_k v_g0 (moveT d0 d1 d2 d3 d4) _ _ (by omega) (by omega) (fewT_move HM0.out hok0 d1 d2 d3 d4) ?_ hf_g0.nodup) ?_
  · exact (ho_g0.below (by repeat (first | with_reducible exact Below.refl _ _ | with_reducible refine bAlloc ?_ _)))
  rintro e w11 ⟨rfl,ho_g0n,hu11⟩
  have hv11:Upd (fpT v_g0) w10 w11:=(Upd.of_below (by repeat (first | with_reducible exact Below.refl _ _ | with_reducible refine bAlloc ?_ _))).trans hu11
  have hs11:=hv11.size
  have hz11:=hu11.size
  (try simp at hz11)
  have kb11_a0:=uBox hv11 (W.heap.size) (by omega) (fun hm=>by have h1:=hlo_g0.out _ hm;have h2:=hhi_g0.out _ hm;omega)
  have kb11_w0:=uBox hv11 (w3.heap.size) (by omega) (fun hm=>by have h1:=hlo_g0.out _ hm;have h2:=hhi_g0.out _ hm;omega)
  have kb11_x0v:=uBox hv11 (w4.heap.size) (by omega) (fun hm=>by have h1:=hlo_g0.out _ hm;have h2:=hhi_g0.out _ hm;omega)
  have kb11_g0:=uBox hv11 (w5.heap.size) (by omega) (fun hm=>by have h1:=hlo_g0.out _ hm;have h2:=hhi_g0.out _ hm;omega)
  have hlt11_a0:W.heap.size < w11.heap.size:=by omega
  have hlt11_w0:w3.heap.size < w11.heap.size:=by omega
  have hlt11_x0v:w4.heap.size < w11.heap.size:=by omega
  have hlt11_g0:w5.heap.size < w11.heap.size:=by omega
  have ho_x1:=ho_x1.upd hv11 (fun q hq hm=>by have h1:=hlo_x1.out q hq;have h2:=hhi_x1.out q hq;have h3:=hlo_g0.out q hm;have h4:=hhi_g0.out q hm;omega)
  have ho_w0:=ho_w0.upd hv11 (fun q hq hm=>by have h1:=hlo_w0.out q hq;have h2:=hhi_w0.out q hq;have h3:=hlo_g0.out q hm;have h4:=hhi_g0.out q hm;omega)
  have ho_x2:=ho_x2.upd hv11 (fun q hq hm=>by have h1:=hlo_x2.out q hq;have h2:=hhi_x2.out q hq;have h3:=hlo_g0.out q hm;have h4:=hhi_g0.out q hm;omega)
  have ho_x3:=ho_x3.upd hv11 (fun q hq hm=>by have h1:=hlo_x3.out q hq;have h2:=hhi_x3.out q hq;have h3:=hlo_g0.out q hm;have h4:=hhi_g0.out q hm;omega)
  have H:=bUpd H hv11 (fun q hq=>by have h1:=hlo_g0.out q hq;omega)
  have ho_g0:=ho_g0n
  clear ho_g0n
  have hc11:=cntT_few (show fewT (moveT d0 d1 d2 d3 d4) from (fewT_move HM0.out hok0 d1 d2 d3 d4))
  go_wp2_with fail
  refine Calls.mono (heldTeam_k v_g0 (moveT d0 d1 d2 d3 d4) _ _ (by omega) (by omega) (fewT_move HM0.out hok0 d1 d2 d3 d4) ?_) ?_
  · exact (ho_g0.rd.below (by repeat (first | with_reducible exact Below.refl _ _ | with_reducible refine bAlloc ?_ _)))
  rintro e w12 ⟨rfl,hb12⟩
  have hk12:Below w11.heap.size w11 w12:=bTrans (by repeat (first | with_reducible exact Below.refl _ _ | with_reducible refine bAlloc ?_ _)) hb12
  have hs12:=hk12.size
  have hz12:=hb12.size
  (try simp at hz12)
  have kb12_a0:=bBox hk12 (W.heap.size) (by omega)
  have kb12_w0:=bBox hk12 (w3.heap.size) (by omega)
  have kb12_x0v:=bBox hk12 (w4.heap.size) (by omega)
  have kb12_g0:=bBox hk12 (w5.heap.size) (by omega)
  have hlt12_a0:W.heap.size < w12.heap.size:=by omega
  have hlt12_w0:w3.heap.size < w12.heap.size:=by omega
  have hlt12_x0v:w4.heap.size < w12.heap.size:=by omega
  have hlt12_g0:w5.heap.size < w12.heap.size:=by omega
  have ho_x1:=ho_x1.below hk12
  have ho_w0:=ho_w0.below hk12
  have ho_x2:=ho_x2.below hk12
  have ho_g0:=ho_g0.below hk12
  have ho_x3:=ho_x3.below hk12
  have H:=bTrans H hk12
  go_wp2_with fail
  refine Calls.mono (toTeam_k v0 d0 _ hfw0 ?_) ?_
  · exact hr0.below (by repeat (first | with_reducible exact H | with_reducible refine bAlloc ?_ _))
  rintro e w13 ⟨v_x4,rfl,ho_x4,hf_x4,hb13⟩
  have hk13:Below w12.heap.size w12 w13:=bTrans (by repeat (first | with_reducible exact Below.refl _ _ | with_reducible refine bAlloc ?_ _)) hb13
  have hs13:=hk13.size
  have hz13:=hb13.size
  (try simp at hz13)
  have kb13_a0:=bBox hk13 (W.heap.size) (by omega)
  have kb13_w0:=bBox hk13 (w3.heap.size) (by omega)
  have kb13_x0v:=bBox hk13 (w4.heap.size) (by omega)
  have kb13_g0:=bBox hk13 (w5.heap.size) (by omega)
  have hlt13_a0:W.heap.size < w13.heap.size:=by omega
  have hlt13_w0:w3.heap.size < w13.heap.size:=by omega
  have hlt13_x0v:w4.heap.size < w13.heap.size:=by omega
  have hlt13_g0:w5.heap.size < w13.heap.size:=by omega
  have ho_x1:=ho_x1.below hk13
  have ho_w0:=ho_w0.below hk13
  have ho_x2:=ho_x2.below hk13
  have ho_g0:=ho_g0.below hk13
  have ho_x3:=ho_x3.below hk13
  have H:=bTrans H hk13
  have hlo_x4:Hid (∀ q∈fpT v_x4,w12.heap.size≤q):=fun q hq=>by have h1:=hf_x4.lo q hq;(try simp at h1);omega
  have hhi_x4:Hid (∀ q∈fpT v_x4,q < w13.heap.size):=hf_x4.hi
  go_wp2_with fail
  refine Calls.mono (impl_MoveTeam_k v_x4 d0 d1 d2 d3 d4 _ HM0.out hok0 ?_ wf1 wf2 wf3 wf4 ?_) ?_
  · exact (ho_x4.rd.below (by repeat (first | with_reducible exact Below.refl _ _ | with_reducible refine bAlloc ?_ _)))
  · exact HT.out.below (by repeat (first | with_reducible exact H | with_reducible refine bAlloc ?_ _))
  rintro e w14 ⟨v_h0,rfl,ho_h0,hf_h0,hb14⟩
  have hk14:Below w13.heap.size w13 w14:=bTrans (by repeat (first | with_reducible exact Below.refl _ _ | with_reducible refine bAlloc ?_ _)) hb14
  have hs14:=hk14.size
  have hz14:=hb14.size
  (try simp at hz14)
  have kb14_a0:=bBox hk14 (W.heap.size) (by omega)
  have kb14_w0:=bBox hk14 (w3.heap.size) (by omega)
  have kb14_x0v:=bBox hk14 (w4.heap.size) (by omega)
  have kb14_g0:=bBox hk14 (w5.heap.size) (by omega)
  have hlt14_a0:W.heap.size < w14.heap.size:=by omega
  have hlt14_w0:w3.heap.size < w14.heap.size:=by omega
  have hlt14_x0v:w4.heap.size < w14.heap.size:=by omega
  have hlt14_g0:w5.heap.size < w14.heap.size:=by omega
  have ho_x1:=ho_x1.below hk14
  have ho_w0:=ho_w0.below hk14
  have ho_x2:=ho_x2.below hk14
  have ho_g0:=ho_g0.below hk14
  have ho_x3:=ho_x3.below hk14
  have ho_x4:=ho_x4.below hk14
  have H:=bTrans H hk14
  have hlo_h0:Hid (∀ q∈fpT v_h0,w13.heap.size≤q):=fun q hq=>by have h1:=hf_h0.lo q hq;(try simp at h1);omega
  have hhi_h0:Hid (∀ q∈fpT v_h0,q < w14.heap.size):=hf_h0.hi
  go_wp2_with fail
  refine Calls.mono (eqTeam_k v_h0 v_w0 (moveT d0 d1 d2 d3 d4) _ (fewT_move HM0.out hok0 d1 d2 d3 d4) ?_ ?_) ?_
  · exact (ho_h0.rd.below (by repeat (first | with_reducible exact Below.refl _ _ | with_reducible refine bAlloc ?_ _)))
  · exact (ho_w0.rd.below (by repeat (first | with_reducible exact Below.refl _ _ | with_reducible refine bAlloc ?_ _)))
  rintro e w15 ⟨rfl,hb15⟩
  have hk15:Below w14.heap.size w14 w15:=bTrans (by repeat (first | with_reducible exact Below.refl _ _ | with_reducible refine bAlloc ?_ _)) hb15
  have hs15:=hk15.size
  have hz15:=hb15.size
  (try simp at hz15)
  have kb15_a0:=bBox hk15 (W.heap.size) (by omega)
  have kb15_w0:=bBox hk15 (w3.heap.size) (by omega)
  have kb15_x0v:=bBox hk15 (w4.heap.size) (by omega)
  have kb15_g0:=bBox hk15 (w5.heap.size) (by omega)
  have kb15_h0:=bBox hb15 (w14.heap.size) (by first | omega | (simp;done) | (simp;omega))
  have hlt15_a0:W.heap.size < w15.heap.size:=by omega
  have hlt15_w0:w3.heap.size < w15.heap.size:=by omega
  have hlt15_x0v:w4.heap.size < w15.heap.size:=by omega
  have hlt15_g0:w5.heap.size < w15.heap.size:=by omega
  have hlt15_h0:w14.heap.size < w15.heap.size:=by omega
  have ho_x1:=ho_x1.below hk15
  have ho_w0:=ho_w0.below hk15
  have ho_x2:=ho_x2.below hk15
  have ho_g0:=ho_g0.below hk15
  have ho_x3:=ho_x3.below hk15
  have ho_x4:=ho_x4.below hk15
  have ho_h0:=ho_h0.below hk15
  have H:=bTrans H hk15
  go_wp2_with fail
  refine Calls.mono (heldTeam_k v_g0 (moveT d0 d1 d2 d3 d4) _ _ (by omega) (by omega) (fewT_move HM0.out hok0 d1 d2 d3 d4) ?_) ?_
  · exact (ho_g0.rd.below (by repeat (first | with_reducible exact Below.refl _ _ | with_reducible refine bAlloc ?_ _)))
  rintro e w16 ⟨rfl,hb16⟩
  have hk16:Below w15.heap.size w15 w16:=bTrans (by repeat (first | with_reducible exact Below.refl _ _ | with_reducible refine bAlloc ?_ _)) hb16
  have hs16:=hk16.size
  have hz16:=hb16.size
  (try simp at hz16)
  have kb16_a0:=bBox hk16 (W.heap.size) (by omega)
  have kb16_w0:=bBox hk16 (w3.heap.size) (by omega)
  have kb16_x0v:=bBox hk16 (w4.heap.size) (by omega)
  have kb16_g0:=bBox hk16 (w5.heap.size) (by omega)
  have kb16_h0:=bBox hk16 (w14.heap.size) (by omega)
  have hlt16_a0:W.heap.size < w16.heap.size:=by omega
  have hlt16_w0:w3.heap.size < w16.heap.size:=by omega
  have hlt16_x0v:w4.heap.size < w16.heap.size:=by omega
  have hlt16_g0:w5.heap.size < w16.heap.size:=by omega
  have hlt16_h0:w14.heap.size < w16.heap.size:=by omega
  have ho_x1:=ho_x1.below hk16
  have ho_w0:=ho_w0.below hk16
  have ho_x2:=ho_x2.below hk16
  have ho_g0:=ho_g0.below hk16
  have ho_x3:=ho_x3.below hk16
  have ho_x4:=ho_x4.below hk16
  have ho_h0:=ho_h0.below hk16
  have H:=bTrans H hk16
  go_wp2_with fail
  go_ret
  exact ⟨rfl,H⟩
end Go.Proofs.YtdfemnffpaopfaaGreatDoor
