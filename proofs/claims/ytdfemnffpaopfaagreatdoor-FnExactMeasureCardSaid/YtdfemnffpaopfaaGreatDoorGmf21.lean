/- Texts of this proof, one behind the other: FmtI1, FmtI2, FmtI3, FmtI4, FmtFI. -/
import Derived.Test.YtdfemnffpaopfaaGreatDoorGmf19
namespace Go.Proofs.YtdfemnffpaopfaaGreatDoor
open Go.RowKit
set_option linter.unusedVariables false
set_option linter.unusedSimpArgs false
set_option maxHeartbeats 1000000
set_option maxRecDepth 100000
theorem impl_FormatFactor_1 (id:Int) (fr to:ByteArray) (t x y wt:Int) (w:World) (hv:vldFactor ⟨id,1,fr,to,⟨t,x,y⟩,wt⟩=true) (hT:Tab w) :
    Calls Tryz.prog 46 #[vFactor id 1 fr to t x y wt] w fun e w'=>e=.returned (.string (fmtFac ⟨id,1,fr,to,⟨t,x,y⟩,wt⟩))∧Below w.heap.size w w':=by
  have HT:=Lib.hid hT
  clear hT
  have HV:=Lib.hid hv
  obtain ⟨p1,p2,p3,p4,p5,p6,p7⟩:=vld_parts hv
  dsimp only at p1 p2 p3 p4 p5 p6 p7
  obtain ⟨i0,i1⟩:=inR_iff.1 p1
  obtain ⟨q0,q1⟩:=inR_iff.1 p2
  have zt:to.size≤8:=by rcases p7 with h | h <;> exact nm_size8 h
  have zp:(fmtPose t x y).size≤45:=fmtPose_size p3
  have hpd:Hid ((fmtPose t x y).data.toList=poseL t x y):=fmtPose_data p3
  obtain rfl:fr=⟨#[]⟩:=by
    have:=p5 rfl
    rw [ByteArray.toList_eq] at this
    exact bext this
  obtain ⟨s0,e0,z0,c0⟩:=cat ⟨#[112,114,105,111,114]⟩ ⟨#[32]⟩ 5 1 (by decide) (by decide) (by omega)
  obtain ⟨s1,e1,z1,c1⟩:=cat s0 (itoaB id) (5+1) 21 (z0) (itoaB_size (by omega) (by omega)) (by omega)
  obtain ⟨s2,e2,z2,c2⟩:=cat s1 ⟨#[32]⟩ ((5+1)+21) 1 (z1) (by decide) (by omega)
  obtain ⟨s3,e3,z3,c3⟩:=cat s2 to (((5+1)+21)+1) 8 (z2) (zt) (by omega)
  obtain ⟨s4,e4,z4,c4⟩:=cat s3 ⟨#[32]⟩ ((((5+1)+21)+1)+8) 1 (z3) (by decide) (by omega)
  obtain ⟨s5,e5,z5,c5⟩:=cat s4 (fmtPose t x y) (((((5+1)+21)+1)+8)+1) 45 (z4) (zp) (by omega)
  obtain ⟨s6,e6,z6,c6⟩:=cat s5 ⟨#[32]⟩ ((((((5+1)+21)+1)+8)+1)+45) 1 (z5) (by decide) (by omega)
  obtain ⟨s7,e7,z7,c7⟩:=cat s6 (itoaB wt) (((((((5+1)+21)+1)+8)+1)+45)+1) 21 (z6) (itoaB_size (by omega) (by omega)) (by omega)
  have hfin:Hid (fmtFac ⟨id,1,⟨#[]⟩,to,⟨t,x,y⟩,wt⟩=s7):=by
    simp only [Hid,fmtFac,HV.out,if_true]
    rw [← e7.out,← e6.out,← e5.out,← e4.out,← e3.out,← e2.out,← e1.out,← e0.out]
    apply bext
    simp [facL,kindL,frmL,itoaB,ByteArray.data_append,hpd.out]
  have zf9:((⟨#[]⟩:ByteArray)).size≤4194304:=by decide
  clear z0 z1 z2 z3 z4 z5 z6 z7 hv p1 p2 p3 p4 p5 p6 p7 zp
  go_enter Tryz.func46,Tryz.ntmps46
  go_wp2_with (go_at_call 93;refine (impl_IsValidFactor_c _ _ _ _ _ _ _ _ _ zf9 (by omega)).mono ?_;rw [HV.out];rintro e w1 ⟨rfl,hb1⟩;obtain ⟨hc,hfz⟩:=bcell hb1)
  refine region_at fun R hR=>?_
  have hwb:Below w.heap.size w R:=by rw [hR.out];exact bTrans (bAlloc (Below.refl _ _) _) hb1
  have g0:=cell_regrown (show R.cell? ⟨w.heap.size,0,none⟩=some (.int .i64 id) by rw [hR.out];exact bCell hb1 (cells_a rfl))
  have g1:=cell_regrown (show R.cell? ⟨w.heap.size,1,none⟩=some (.int .i64 1) by rw [hR.out];exact bCell hb1 (cells_a rfl))
  have g2:=cell_regrown (show R.cell? ⟨w.heap.size,2,none⟩=some (.string ⟨#[]⟩) by rw [hR.out];exact bCell hb1 (cells_a rfl))
  have g3:=cell_regrown (show R.cell? ⟨w.heap.size,3,none⟩=some (.string to) by rw [hR.out];exact bCell hb1 (cells_a rfl))
  have g4:=cell_regrown (show R.cell? ⟨w.heap.size,4,none⟩=some (.int .i64 t) by rw [hR.out];exact bCell hb1 (cells_a rfl))
  have g5:=cell_regrown (show R.cell? ⟨w.heap.size,5,none⟩=some (.int .i64 x) by rw [hR.out];exact bCell hb1 (cells_a rfl))
  have g6:=cell_regrown (show R.cell? ⟨w.heap.size,6,none⟩=some (.int .i64 y) by rw [hR.out];exact bCell hb1 (cells_a rfl))
  have g7:=cell_regrown (show R.cell? ⟨w.heap.size,7,none⟩=some (.int .i64 wt) by rw [hR.out];exact bCell hb1 (cells_a rfl))
  have tR:=(HT.out).below hwb
  have cV:∀ d os,Calls Tryz.prog 95 #[.int .i64 1] (Go.Sort.grow (redrawn R d) os) fun e w2=>e=.returned (.string ⟨#[112,114,105,111,114]⟩)∧∃ p:Regrown,w2=Go.Sort.grow (redrawn R p.d) p.os:=fun d os=>Calls.regrown_of (kindWord_1 _)
  have cW:∀ d os,Calls Tryz.prog 45 #[.int .i64 id] (Go.Sort.grow (redrawn R d) os) fun e w2=>e=.returned (.string (itoaB id))∧∃ p:Regrown,w2=Go.Sort.grow (redrawn R p.d) p.os:=fun d os=>Calls.regrown_of (impl_FormatInt_c id _ (by omega) (by omega) (tR.below (below_regrown R d os)))
  clear hR hc hfz tR hb1
  refine wp_region_quiet_below (by kernel_rfl) (by kernel_rfl) ?_
  repeat (go_big_quiet_step (first | exact cV _ _ | exact cW _ _))
  refine wpQuiet_nil ?_
  intro _ hw
  obtain ⟨⟨dq,osq⟩,hw⟩:=hw
  subst hw
  have hbq:=bTrans hwb (below_regrown R dq osq)
  have h0:=hbq
  clear cV cW hwb
  go_wp2_with fail
  refine region_at fun W hW=>?_
  have hwc:Below w.heap.size w W:=by rw [hW.out];exact hbq
  have k0:=cell_regrown (show W.cell? ⟨w.heap.size,0,none⟩=some (.int .i64 id) by rw [hW.out];exact g0 _ _)
  have k1:=cell_regrown (show W.cell? ⟨w.heap.size,1,none⟩=some (.int .i64 1) by rw [hW.out];exact g1 _ _)
  have k2:=cell_regrown (show W.cell? ⟨w.heap.size,2,none⟩=some (.string ⟨#[]⟩) by rw [hW.out];exact g2 _ _)
  have k3:=cell_regrown (show W.cell? ⟨w.heap.size,3,none⟩=some (.string to) by rw [hW.out];exact g3 _ _)
  have k4:=cell_regrown (show W.cell? ⟨w.heap.size,4,none⟩=some (.int .i64 t) by rw [hW.out];exact g4 _ _)
  have k5:=cell_regrown (show W.cell? ⟨w.heap.size,5,none⟩=some (.int .i64 x) by rw [hW.out];exact g5 _ _)
  have k6:=cell_regrown (show W.cell? ⟨w.heap.size,6,none⟩=some (.int .i64 y) by rw [hW.out];exact g6 _ _)
  have k7:=cell_regrown (show W.cell? ⟨w.heap.size,7,none⟩=some (.int .i64 wt) by rw [hW.out];exact g7 _ _)
  have tR:=(HT.out).below hwc
  have cV:∀ d os,Calls Tryz.prog 96 #[vPose t x y] (Go.Sort.grow (redrawn W d) os) fun e w2=>e=.returned (.string (fmtPose t x y))∧∃ p:Regrown,w2=Go.Sort.grow (redrawn W p.d) p.os:=fun d os=>Calls.regrown_of (impl_FormatPose_c t x y _ (tR.below (below_regrown W d os)))
  have cW:∀ d os,Calls Tryz.prog 45 #[.int .i64 wt] (Go.Sort.grow (redrawn W d) os) fun e w2=>e=.returned (.string (itoaB wt))∧∃ p:Regrown,w2=Go.Sort.grow (redrawn W p.d) p.os:=fun d os=>Calls.regrown_of (impl_FormatInt_c wt _ (by omega) (by omega) (tR.below (below_regrown W d os)))
  clear hW g0 g1 g2 g3 g4 g5 g6 g7 tR h0 hbq
  refine wp_region_quiet_below (by kernel_rfl) (by kernel_rfl) ?_
  repeat (go_big_quiet_step (first | exact cV _ _ | exact cW _ _))
  refine wpQuiet_nil ?_
  intro _ hw
  obtain ⟨⟨dq,osq⟩,hw⟩:=hw
  subst hw
  have hbq9:=bTrans hwc (below_regrown W dq osq)
  clear k0 k1 k2 k3 k4 k5 k6 k7 cV cW
  go_wp2
  go_ret
  exact ⟨by rw [hfin.out];rfl,hbq9⟩
theorem impl_FormatFactor_2 (id:Int) (fr to:ByteArray) (t x y wt:Int) (w:World) (hv:vldFactor ⟨id,2,fr,to,⟨t,x,y⟩,wt⟩=true) (hT:Tab w) :
    Calls Tryz.prog 46 #[vFactor id 2 fr to t x y wt] w fun e w'=>e=.returned (.string (fmtFac ⟨id,2,fr,to,⟨t,x,y⟩,wt⟩))∧Below w.heap.size w w':=by
  have HT:=Lib.hid hT
  clear hT
  have HV:=Lib.hid hv
  obtain ⟨p1,p2,p3,p4,p5,p6,p7⟩:=vld_parts hv
  dsimp only at p1 p2 p3 p4 p5 p6 p7
  obtain ⟨i0,i1⟩:=inR_iff.1 p1
  obtain ⟨q0,q1⟩:=inR_iff.1 p2
  have zt:to.size≤8:=by rcases p7 with h | h <;> exact nm_size8 h
  have zp:(fmtPose t x y).size≤45:=fmtPose_size p3
  have hpd:Hid ((fmtPose t x y).data.toList=poseL t x y):=fmtPose_data p3
  have hpf:=p6 (by decide)
  have zf:fr.size≤8:=nm_size8 hpf
  have hfe:fr.toList.isEmpty=false:=nm_nonempty hpf
  obtain ⟨sf,ef,zsf,cf⟩:=cat ⟨#[32]⟩ fr 1 8 (by decide) (zf) (by omega)
  obtain ⟨s0,e0,z0,c0⟩:=cat ⟨#[111,100,111,109,101,116,114,121]⟩ ⟨#[32]⟩ 8 1 (by decide) (by decide) (by omega)
  obtain ⟨s1,e1,z1,c1⟩:=cat s0 (itoaB id) (8+1) 21 (z0) (itoaB_size (by omega) (by omega)) (by omega)
  obtain ⟨s2,e2,z2,c2⟩:=cat s1 sf ((8+1)+21) 9 (z1) (zsf) (by omega)
  obtain ⟨s3,e3,z3,c3⟩:=cat s2 ⟨#[32]⟩ (((8+1)+21)+9) 1 (z2) (by decide) (by omega)
  obtain ⟨s4,e4,z4,c4⟩:=cat s3 to ((((8+1)+21)+9)+1) 8 (z3) (zt) (by omega)
  obtain ⟨s5,e5,z5,c5⟩:=cat s4 ⟨#[32]⟩ (((((8+1)+21)+9)+1)+8) 1 (z4) (by decide) (by omega)
  obtain ⟨s6,e6,z6,c6⟩:=cat s5 (fmtPose t x y) ((((((8+1)+21)+9)+1)+8)+1) 45 (z5) (zp) (by omega)
  obtain ⟨s7,e7,z7,c7⟩:=cat s6 ⟨#[32]⟩ (((((((8+1)+21)+9)+1)+8)+1)+45) 1 (z6) (by decide) (by omega)
  obtain ⟨s8,e8,z8,c8⟩:=cat s7 (itoaB wt) ((((((((8+1)+21)+9)+1)+8)+1)+45)+1) 21 (z7) (itoaB_size (by omega) (by omega)) (by omega)
  have hfin:Hid (fmtFac ⟨id,2,fr,to,⟨t,x,y⟩,wt⟩=s8):=by
    simp only [Hid,fmtFac,HV.out,if_true]
    rw [← e8.out,← e7.out,← e6.out,← e5.out,← e4.out,← e3.out,← e2.out,← e1.out,← e0.out]
    rw [← ef.out]
    apply bext
    simp [facL,kindL,frmL,itoaB,ByteArray.data_append,hpd.out]
  have zf9:(fr).size≤4194304:=by omega
  clear z0 z1 z2 z3 z4 z5 z6 z7 z8 hv p1 p2 p3 p4 p5 p6 p7 zp
  go_enter Tryz.func46,Tryz.ntmps46
  go_wp2_with (go_at_call 93;refine (impl_IsValidFactor_c _ _ _ _ _ _ _ _ _ zf9 (by omega)).mono ?_;rw [HV.out];rintro e w1 ⟨rfl,hb1⟩;obtain ⟨hc,hfz⟩:=bcell hb1)
  refine region_at fun R hR=>?_
  have hwb:Below w.heap.size w R:=by rw [hR.out];exact bTrans (bAlloc (Below.refl _ _) _) hb1
  have g0:=cell_regrown (show R.cell? ⟨w.heap.size,0,none⟩=some (.int .i64 id) by rw [hR.out];exact bCell hb1 (cells_a rfl))
  have g1:=cell_regrown (show R.cell? ⟨w.heap.size,1,none⟩=some (.int .i64 2) by rw [hR.out];exact bCell hb1 (cells_a rfl))
  have g2:=cell_regrown (show R.cell? ⟨w.heap.size,2,none⟩=some (.string fr) by rw [hR.out];exact bCell hb1 (cells_a rfl))
  have g3:=cell_regrown (show R.cell? ⟨w.heap.size,3,none⟩=some (.string to) by rw [hR.out];exact bCell hb1 (cells_a rfl))
  have g4:=cell_regrown (show R.cell? ⟨w.heap.size,4,none⟩=some (.int .i64 t) by rw [hR.out];exact bCell hb1 (cells_a rfl))
  have g5:=cell_regrown (show R.cell? ⟨w.heap.size,5,none⟩=some (.int .i64 x) by rw [hR.out];exact bCell hb1 (cells_a rfl))
  have g6:=cell_regrown (show R.cell? ⟨w.heap.size,6,none⟩=some (.int .i64 y) by rw [hR.out];exact bCell hb1 (cells_a rfl))
  have g7:=cell_regrown (show R.cell? ⟨w.heap.size,7,none⟩=some (.int .i64 wt) by rw [hR.out];exact bCell hb1 (cells_a rfl))
  have tR:=(HT.out).below hwb
  have cV:∀ d os,Calls Tryz.prog 95 #[.int .i64 2] (Go.Sort.grow (redrawn R d) os) fun e w2=>e=.returned (.string ⟨#[111,100,111,109,101,116,114,121]⟩)∧∃ p:Regrown,w2=Go.Sort.grow (redrawn R p.d) p.os:=fun d os=>Calls.regrown_of (kindWord_2 _)
  have cW:∀ d os,Calls Tryz.prog 45 #[.int .i64 id] (Go.Sort.grow (redrawn R d) os) fun e w2=>e=.returned (.string (itoaB id))∧∃ p:Regrown,w2=Go.Sort.grow (redrawn R p.d) p.os:=fun d os=>Calls.regrown_of (impl_FormatInt_c id _ (by omega) (by omega) (tR.below (below_regrown R d os)))
  clear hR hc hfz tR hb1
  refine wp_region_quiet_below (by kernel_rfl) (by kernel_rfl) ?_
  repeat (go_big_quiet_step (first | exact cV _ _ | exact cW _ _))
  refine wpQuiet_nil ?_
  intro _ hw
  obtain ⟨⟨dq,osq⟩,hw⟩:=hw
  subst hw
  have hbq:=bTrans hwb (below_regrown R dq osq)
  have h0:=hbq
  clear cV cW hwb
  go_wp2_with fail
  refine region_at fun W hW=>?_
  have hwc:Below w.heap.size w W:=by rw [hW.out];exact hbq
  have k0:=cell_regrown (show W.cell? ⟨w.heap.size,0,none⟩=some (.int .i64 id) by rw [hW.out];exact g0 _ _)
  have k1:=cell_regrown (show W.cell? ⟨w.heap.size,1,none⟩=some (.int .i64 2) by rw [hW.out];exact g1 _ _)
  have k2:=cell_regrown (show W.cell? ⟨w.heap.size,2,none⟩=some (.string fr) by rw [hW.out];exact g2 _ _)
  have k3:=cell_regrown (show W.cell? ⟨w.heap.size,3,none⟩=some (.string to) by rw [hW.out];exact g3 _ _)
  have k4:=cell_regrown (show W.cell? ⟨w.heap.size,4,none⟩=some (.int .i64 t) by rw [hW.out];exact g4 _ _)
  have k5:=cell_regrown (show W.cell? ⟨w.heap.size,5,none⟩=some (.int .i64 x) by rw [hW.out];exact g5 _ _)
  have k6:=cell_regrown (show W.cell? ⟨w.heap.size,6,none⟩=some (.int .i64 y) by rw [hW.out];exact g6 _ _)
  have k7:=cell_regrown (show W.cell? ⟨w.heap.size,7,none⟩=some (.int .i64 wt) by rw [hW.out];exact g7 _ _)
  have tR:=(HT.out).below hwc
  have cV:∀ d os,Calls Tryz.prog 96 #[vPose t x y] (Go.Sort.grow (redrawn W d) os) fun e w2=>e=.returned (.string (fmtPose t x y))∧∃ p:Regrown,w2=Go.Sort.grow (redrawn W p.d) p.os:=fun d os=>Calls.regrown_of (impl_FormatPose_c t x y _ (tR.below (below_regrown W d os)))
  have cW:∀ d os,Calls Tryz.prog 45 #[.int .i64 wt] (Go.Sort.grow (redrawn W d) os) fun e w2=>e=.returned (.string (itoaB wt))∧∃ p:Regrown,w2=Go.Sort.grow (redrawn W p.d) p.os:=fun d os=>Calls.regrown_of (impl_FormatInt_c wt _ (by omega) (by omega) (tR.below (below_regrown W d os)))
  clear hW g0 g1 g2 g3 g4 g5 g6 g7 tR h0 hbq
  refine wp_region_quiet_below (by kernel_rfl) (by kernel_rfl) ?_
  repeat (go_big_quiet_step (first | exact cV _ _ | exact cW _ _))
  refine wpQuiet_nil ?_
  intro _ hw
  obtain ⟨⟨dq,osq⟩,hw⟩:=hw
  subst hw
  have hbq9:=bTrans hwc (below_regrown W dq osq)
  clear k0 k1 k2 k3 k4 k5 k6 k7 cV cW
  go_wp2
  go_ret
  exact ⟨by rw [hfin.out];rfl,hbq9⟩
theorem impl_FormatFactor_3 (id:Int) (fr to:ByteArray) (t x y wt:Int) (w:World) (hv:vldFactor ⟨id,3,fr,to,⟨t,x,y⟩,wt⟩=true) (hT:Tab w) :
    Calls Tryz.prog 46 #[vFactor id 3 fr to t x y wt] w fun e w'=>e=.returned (.string (fmtFac ⟨id,3,fr,to,⟨t,x,y⟩,wt⟩))∧Below w.heap.size w w':=by
  have HT:=Lib.hid hT
  clear hT
  have HV:=Lib.hid hv
  obtain ⟨p1,p2,p3,p4,p5,p6,p7⟩:=vld_parts hv
  dsimp only at p1 p2 p3 p4 p5 p6 p7
  obtain ⟨i0,i1⟩:=inR_iff.1 p1
  obtain ⟨q0,q1⟩:=inR_iff.1 p2
  have zt:to.size≤8:=by rcases p7 with h | h <;> exact nm_size8 h
  have zp:(fmtPose t x y).size≤45:=fmtPose_size p3
  have hpd:Hid ((fmtPose t x y).data.toList=poseL t x y):=fmtPose_data p3
  have hpf:=p6 (by decide)
  have zf:fr.size≤8:=nm_size8 hpf
  have hfe:fr.toList.isEmpty=false:=nm_nonempty hpf
  obtain ⟨sf,ef,zsf,cf⟩:=cat ⟨#[32]⟩ fr 1 8 (by decide) (zf) (by omega)
  obtain ⟨s0,e0,z0,c0⟩:=cat ⟨#[108,97,110,100,109,97,114,107]⟩ ⟨#[32]⟩ 8 1 (by decide) (by decide) (by omega)
  obtain ⟨s1,e1,z1,c1⟩:=cat s0 (itoaB id) (8+1) 21 (z0) (itoaB_size (by omega) (by omega)) (by omega)
  obtain ⟨s2,e2,z2,c2⟩:=cat s1 sf ((8+1)+21) 9 (z1) (zsf) (by omega)
  obtain ⟨s3,e3,z3,c3⟩:=cat s2 ⟨#[32]⟩ (((8+1)+21)+9) 1 (z2) (by decide) (by omega)
  obtain ⟨s4,e4,z4,c4⟩:=cat s3 to ((((8+1)+21)+9)+1) 8 (z3) (zt) (by omega)
  obtain ⟨s5,e5,z5,c5⟩:=cat s4 ⟨#[32]⟩ (((((8+1)+21)+9)+1)+8) 1 (z4) (by decide) (by omega)
  obtain ⟨s6,e6,z6,c6⟩:=cat s5 (fmtPose t x y) ((((((8+1)+21)+9)+1)+8)+1) 45 (z5) (zp) (by omega)
  obtain ⟨s7,e7,z7,c7⟩:=cat s6 ⟨#[32]⟩ (((((((8+1)+21)+9)+1)+8)+1)+45) 1 (z6) (by decide) (by omega)
  obtain ⟨s8,e8,z8,c8⟩:=cat s7 (itoaB wt) ((((((((8+1)+21)+9)+1)+8)+1)+45)+1) 21 (z7) (itoaB_size (by omega) (by omega)) (by omega)
  have hfin:Hid (fmtFac ⟨id,3,fr,to,⟨t,x,y⟩,wt⟩=s8):=by
    simp only [Hid,fmtFac,HV.out,if_true]
    rw [← e8.out,← e7.out,← e6.out,← e5.out,← e4.out,← e3.out,← e2.out,← e1.out,← e0.out]
    rw [← ef.out]
    apply bext
    simp [facL,kindL,frmL,itoaB,ByteArray.data_append,hpd.out]
  have zf9:(fr).size≤4194304:=by omega
  clear z0 z1 z2 z3 z4 z5 z6 z7 z8 hv p1 p2 p3 p4 p5 p6 p7 zp
  go_enter Tryz.func46,Tryz.ntmps46
  go_wp2_with (go_at_call 93;refine (impl_IsValidFactor_c _ _ _ _ _ _ _ _ _ zf9 (by omega)).mono ?_;rw [HV.out];rintro e w1 ⟨rfl,hb1⟩;obtain ⟨hc,hfz⟩:=bcell hb1)
  refine region_at fun R hR=>?_
  have hwb:Below w.heap.size w R:=by rw [hR.out];exact bTrans (bAlloc (Below.refl _ _) _) hb1
  have g0:=cell_regrown (show R.cell? ⟨w.heap.size,0,none⟩=some (.int .i64 id) by rw [hR.out];exact bCell hb1 (cells_a rfl))
  have g1:=cell_regrown (show R.cell? ⟨w.heap.size,1,none⟩=some (.int .i64 3) by rw [hR.out];exact bCell hb1 (cells_a rfl))
  have g2:=cell_regrown (show R.cell? ⟨w.heap.size,2,none⟩=some (.string fr) by rw [hR.out];exact bCell hb1 (cells_a rfl))
  have g3:=cell_regrown (show R.cell? ⟨w.heap.size,3,none⟩=some (.string to) by rw [hR.out];exact bCell hb1 (cells_a rfl))
  have g4:=cell_regrown (show R.cell? ⟨w.heap.size,4,none⟩=some (.int .i64 t) by rw [hR.out];exact bCell hb1 (cells_a rfl))
  have g5:=cell_regrown (show R.cell? ⟨w.heap.size,5,none⟩=some (.int .i64 x) by rw [hR.out];exact bCell hb1 (cells_a rfl))
  have g6:=cell_regrown (show R.cell? ⟨w.heap.size,6,none⟩=some (.int .i64 y) by rw [hR.out];exact bCell hb1 (cells_a rfl))
  have g7:=cell_regrown (show R.cell? ⟨w.heap.size,7,none⟩=some (.int .i64 wt) by rw [hR.out];exact bCell hb1 (cells_a rfl))
  have tR:=(HT.out).below hwb
  have cV:∀ d os,Calls Tryz.prog 95 #[.int .i64 3] (Go.Sort.grow (redrawn R d) os) fun e w2=>e=.returned (.string ⟨#[108,97,110,100,109,97,114,107]⟩)∧∃ p:Regrown,w2=Go.Sort.grow (redrawn R p.d) p.os:=fun d os=>Calls.regrown_of (kindWord_3 _)
  have cW:∀ d os,Calls Tryz.prog 45 #[.int .i64 id] (Go.Sort.grow (redrawn R d) os) fun e w2=>e=.returned (.string (itoaB id))∧∃ p:Regrown,w2=Go.Sort.grow (redrawn R p.d) p.os:=fun d os=>Calls.regrown_of (impl_FormatInt_c id _ (by omega) (by omega) (tR.below (below_regrown R d os)))
  clear hR hc hfz tR hb1
  refine wp_region_quiet_below (by kernel_rfl) (by kernel_rfl) ?_
  repeat (go_big_quiet_step (first | exact cV _ _ | exact cW _ _))
  refine wpQuiet_nil ?_
  intro _ hw
  obtain ⟨⟨dq,osq⟩,hw⟩:=hw
  subst hw
  have hbq:=bTrans hwb (below_regrown R dq osq)
  have h0:=hbq
  clear cV cW hwb
  go_wp2_with fail
  refine region_at fun W hW=>?_
  have hwc:Below w.heap.size w W:=by rw [hW.out];exact hbq
  have k0:=cell_regrown (show W.cell? ⟨w.heap.size,0,none⟩=some (.int .i64 id) by rw [hW.out];exact g0 _ _)
  have k1:=cell_regrown (show W.cell? ⟨w.heap.size,1,none⟩=some (.int .i64 3) by rw [hW.out];exact g1 _ _)
  have k2:=cell_regrown (show W.cell? ⟨w.heap.size,2,none⟩=some (.string fr) by rw [hW.out];exact g2 _ _)
  have k3:=cell_regrown (show W.cell? ⟨w.heap.size,3,none⟩=some (.string to) by rw [hW.out];exact g3 _ _)
  have k4:=cell_regrown (show W.cell? ⟨w.heap.size,4,none⟩=some (.int .i64 t) by rw [hW.out];exact g4 _ _)
  have k5:=cell_regrown (show W.cell? ⟨w.heap.size,5,none⟩=some (.int .i64 x) by rw [hW.out];exact g5 _ _)
  have k6:=cell_regrown (show W.cell? ⟨w.heap.size,6,none⟩=some (.int .i64 y) by rw [hW.out];exact g6 _ _)
  have k7:=cell_regrown (show W.cell? ⟨w.heap.size,7,none⟩=some (.int .i64 wt) by rw [hW.out];exact g7 _ _)
  have tR:=(HT.out).below hwc
  have cV:∀ d os,Calls Tryz.prog 96 #[vPose t x y] (Go.Sort.grow (redrawn W d) os) fun e w2=>e=.returned (.string (fmtPose t x y))∧∃ p:Regrown,w2=Go.Sort.grow (redrawn W p.d) p.os:=fun d os=>Calls.regrown_of (impl_FormatPose_c t x y _ (tR.below (below_regrown W d os)))
  have cW:∀ d os,Calls Tryz.prog 45 #[.int .i64 wt] (Go.Sort.grow (redrawn W d) os) fun e w2=>e=.returned (.string (itoaB wt))∧∃ p:Regrown,w2=Go.Sort.grow (redrawn W p.d) p.os:=fun d os=>Calls.regrown_of (impl_FormatInt_c wt _ (by omega) (by omega) (tR.below (below_regrown W d os)))
  clear hW g0 g1 g2 g3 g4 g5 g6 g7 tR h0 hbq
  refine wp_region_quiet_below (by kernel_rfl) (by kernel_rfl) ?_
  repeat (go_big_quiet_step (first | exact cV _ _ | exact cW _ _))
  refine wpQuiet_nil ?_
  intro _ hw
  obtain ⟨⟨dq,osq⟩,hw⟩:=hw
  subst hw
  have hbq9:=bTrans hwc (below_regrown W dq osq)
  clear k0 k1 k2 k3 k4 k5 k6 k7 cV cW
  go_wp2
  go_ret
  exact ⟨by rw [hfin.out];rfl,hbq9⟩
theorem impl_FormatFactor_4 (id:Int) (fr to:ByteArray) (t x y wt:Int) (w:World) (hv:vldFactor ⟨id,4,fr,to,⟨t,x,y⟩,wt⟩=true) (hT:Tab w) :
    Calls Tryz.prog 46 #[vFactor id 4 fr to t x y wt] w fun e w'=>e=.returned (.string (fmtFac ⟨id,4,fr,to,⟨t,x,y⟩,wt⟩))∧Below w.heap.size w w':=by
  have HT:=Lib.hid hT
  clear hT
  have HV:=Lib.hid hv
  obtain ⟨p1,p2,p3,p4,p5,p6,p7⟩:=vld_parts hv
  dsimp only at p1 p2 p3 p4 p5 p6 p7
  obtain ⟨i0,i1⟩:=inR_iff.1 p1
  obtain ⟨q0,q1⟩:=inR_iff.1 p2
  have zt:to.size≤8:=by rcases p7 with h | h <;> exact nm_size8 h
  have zp:(fmtPose t x y).size≤45:=fmtPose_size p3
  have hpd:Hid ((fmtPose t x y).data.toList=poseL t x y):=fmtPose_data p3
  have hpf:=p6 (by decide)
  have zf:fr.size≤8:=nm_size8 hpf
  have hfe:fr.toList.isEmpty=false:=nm_nonempty hpf
  obtain ⟨sf,ef,zsf,cf⟩:=cat ⟨#[32]⟩ fr 1 8 (by decide) (zf) (by omega)
  obtain ⟨s0,e0,z0,c0⟩:=cat ⟨#[108,111,111,112]⟩ ⟨#[32]⟩ 4 1 (by decide) (by decide) (by omega)
  obtain ⟨s1,e1,z1,c1⟩:=cat s0 (itoaB id) (4+1) 21 (z0) (itoaB_size (by omega) (by omega)) (by omega)
  obtain ⟨s2,e2,z2,c2⟩:=cat s1 sf ((4+1)+21) 9 (z1) (zsf) (by omega)
  obtain ⟨s3,e3,z3,c3⟩:=cat s2 ⟨#[32]⟩ (((4+1)+21)+9) 1 (z2) (by decide) (by omega)
  obtain ⟨s4,e4,z4,c4⟩:=cat s3 to ((((4+1)+21)+9)+1) 8 (z3) (zt) (by omega)
  obtain ⟨s5,e5,z5,c5⟩:=cat s4 ⟨#[32]⟩ (((((4+1)+21)+9)+1)+8) 1 (z4) (by decide) (by omega)
  obtain ⟨s6,e6,z6,c6⟩:=cat s5 (fmtPose t x y) ((((((4+1)+21)+9)+1)+8)+1) 45 (z5) (zp) (by omega)
  obtain ⟨s7,e7,z7,c7⟩:=cat s6 ⟨#[32]⟩ (((((((4+1)+21)+9)+1)+8)+1)+45) 1 (z6) (by decide) (by omega)
  obtain ⟨s8,e8,z8,c8⟩:=cat s7 (itoaB wt) ((((((((4+1)+21)+9)+1)+8)+1)+45)+1) 21 (z7) (itoaB_size (by omega) (by omega)) (by omega)
  have hfin:Hid (fmtFac ⟨id,4,fr,to,⟨t,x,y⟩,wt⟩=s8):=by
    simp only [Hid,fmtFac,HV.out,if_true]
    rw [← e8.out,← e7.out,← e6.out,← e5.out,← e4.out,← e3.out,← e2.out,← e1.out,← e0.out]
    rw [← ef.out]
    apply bext
    simp [facL,kindL,frmL,itoaB,ByteArray.data_append,hpd.out]
  have zf9:(fr).size≤4194304:=by omega
  clear z0 z1 z2 z3 z4 z5 z6 z7 z8 hv p1 p2 p3 p4 p5 p6 p7 zp
  go_enter Tryz.func46,Tryz.ntmps46
  go_wp2_with (go_at_call 93;refine (impl_IsValidFactor_c _ _ _ _ _ _ _ _ _ zf9 (by omega)).mono ?_;rw [HV.out];rintro e w1 ⟨rfl,hb1⟩;obtain ⟨hc,hfz⟩:=bcell hb1)
  refine region_at fun R hR=>?_
  have hwb:Below w.heap.size w R:=by rw [hR.out];exact bTrans (bAlloc (Below.refl _ _) _) hb1
  have g0:=cell_regrown (show R.cell? ⟨w.heap.size,0,none⟩=some (.int .i64 id) by rw [hR.out];exact bCell hb1 (cells_a rfl))
  have g1:=cell_regrown (show R.cell? ⟨w.heap.size,1,none⟩=some (.int .i64 4) by rw [hR.out];exact bCell hb1 (cells_a rfl))
  have g2:=cell_regrown (show R.cell? ⟨w.heap.size,2,none⟩=some (.string fr) by rw [hR.out];exact bCell hb1 (cells_a rfl))
  have g3:=cell_regrown (show R.cell? ⟨w.heap.size,3,none⟩=some (.string to) by rw [hR.out];exact bCell hb1 (cells_a rfl))
  have g4:=cell_regrown (show R.cell? ⟨w.heap.size,4,none⟩=some (.int .i64 t) by rw [hR.out];exact bCell hb1 (cells_a rfl))
  have g5:=cell_regrown (show R.cell? ⟨w.heap.size,5,none⟩=some (.int .i64 x) by rw [hR.out];exact bCell hb1 (cells_a rfl))
  have g6:=cell_regrown (show R.cell? ⟨w.heap.size,6,none⟩=some (.int .i64 y) by rw [hR.out];exact bCell hb1 (cells_a rfl))
  have g7:=cell_regrown (show R.cell? ⟨w.heap.size,7,none⟩=some (.int .i64 wt) by rw [hR.out];exact bCell hb1 (cells_a rfl))
  have tR:=(HT.out).below hwb
  have cV:∀ d os,Calls Tryz.prog 95 #[.int .i64 4] (Go.Sort.grow (redrawn R d) os) fun e w2=>e=.returned (.string ⟨#[108,111,111,112]⟩)∧∃ p:Regrown,w2=Go.Sort.grow (redrawn R p.d) p.os:=fun d os=>Calls.regrown_of (kindWord_4 _)
  have cW:∀ d os,Calls Tryz.prog 45 #[.int .i64 id] (Go.Sort.grow (redrawn R d) os) fun e w2=>e=.returned (.string (itoaB id))∧∃ p:Regrown,w2=Go.Sort.grow (redrawn R p.d) p.os:=fun d os=>Calls.regrown_of (impl_FormatInt_c id _ (by omega) (by omega) (tR.below (below_regrown R d os)))
  clear hR hc hfz tR hb1
  refine wp_region_quiet_below (by kernel_rfl) (by kernel_rfl) ?_
  repeat (go_big_quiet_step (first | exact cV _ _ | exact cW _ _))
  refine wpQuiet_nil ?_
  intro _ hw
  obtain ⟨⟨dq,osq⟩,hw⟩:=hw
  subst hw
  have hbq:=bTrans hwb (below_regrown R dq osq)
  have h0:=hbq
  clear cV cW hwb
  go_wp2_with fail
  refine region_at fun W hW=>?_
  have hwc:Below w.heap.size w W:=by rw [hW.out];exact hbq
  have k0:=cell_regrown (show W.cell? ⟨w.heap.size,0,none⟩=some (.int .i64 id) by rw [hW.out];exact g0 _ _)
  have k1:=cell_regrown (show W.cell? ⟨w.heap.size,1,none⟩=some (.int .i64 4) by rw [hW.out];exact g1 _ _)
  have k2:=cell_regrown (show W.cell? ⟨w.heap.size,2,none⟩=some (.string fr) by rw [hW.out];exact g2 _ _)
  have k3:=cell_regrown (show W.cell? ⟨w.heap.size,3,none⟩=some (.string to) by rw [hW.out];exact g3 _ _)
  have k4:=cell_regrown (show W.cell? ⟨w.heap.size,4,none⟩=some (.int .i64 t) by rw [hW.out];exact g4 _ _)
  have k5:=cell_regrown (show W.cell? ⟨w.heap.size,5,none⟩=some (.int .i64 x) by rw [hW.out];exact g5 _ _)
  have k6:=cell_regrown (show W.cell? ⟨w.heap.size,6,none⟩=some (.int .i64 y) by rw [hW.out];exact g6 _ _)
  have k7:=cell_regrown (show W.cell? ⟨w.heap.size,7,none⟩=some (.int .i64 wt) by rw [hW.out];exact g7 _ _)
  have tR:=(HT.out).below hwc
  have cV:∀ d os,Calls Tryz.prog 96 #[vPose t x y] (Go.Sort.grow (redrawn W d) os) fun e w2=>e=.returned (.string (fmtPose t x y))∧∃ p:Regrown,w2=Go.Sort.grow (redrawn W p.d) p.os:=fun d os=>Calls.regrown_of (impl_FormatPose_c t x y _ (tR.below (below_regrown W d os)))
  have cW:∀ d os,Calls Tryz.prog 45 #[.int .i64 wt] (Go.Sort.grow (redrawn W d) os) fun e w2=>e=.returned (.string (itoaB wt))∧∃ p:Regrown,w2=Go.Sort.grow (redrawn W p.d) p.os:=fun d os=>Calls.regrown_of (impl_FormatInt_c wt _ (by omega) (by omega) (tR.below (below_regrown W d os)))
  clear hW g0 g1 g2 g3 g4 g5 g6 g7 tR h0 hbq
  refine wp_region_quiet_below (by kernel_rfl) (by kernel_rfl) ?_
  repeat (go_big_quiet_step (first | exact cV _ _ | exact cW _ _))
  refine wpQuiet_nil ?_
  intro _ hw
  obtain ⟨⟨dq,osq⟩,hw⟩:=hw
  subst hw
  have hbq9:=bTrans hwc (below_regrown W dq osq)
  clear k0 k1 k2 k3 k4 k5 k6 k7 cV cW
  go_wp2
  go_ret
  exact ⟨by rw [hfin.out];rfl,hbq9⟩
theorem impl_FormatFactor_b (id kind:Int) (fr to:ByteArray) (t x y wt:Int) (w:World) (hf:fr.size≤4194304) (ht:to.size≤4194304) (hT:Tab w) :
    Calls Tryz.prog 46 #[vFactor id kind fr to t x y wt] w fun e w'=>e=.returned (.string (fmtFac ⟨id,kind,fr,to,⟨t,x,y⟩,wt⟩))∧Below w.heap.size w w':=by
  cases hv:vldFactor ⟨id,kind,fr,to,⟨t,x,y⟩,wt⟩
  · have hfin:Hid (fmtFac ⟨id,kind,fr,to,⟨t,x,y⟩,wt⟩=⟨#[]⟩):=by simp [Hid,fmtFac,hv]
    have HV:=Lib.hid hv
    clear hv
    go_enter Tryz.func46,Tryz.ntmps46
    go_wp2_with (go_at_call 93;refine (impl_IsValidFactor_b _ _ _ _ _ _ _ _ _ hf ht).mono ?_;rw [HV.out];rintro e w1 ⟨rfl,hb1⟩;obtain ⟨hc,hfz⟩:=bcell hb1)
    go_ret
    exact ⟨by rw [hfin.out];rfl,bTrans (bAlloc (Below.refl _ _) _) hb1⟩
  · obtain ⟨_,_,_,hk,_⟩:=vld_parts hv
    dsimp only at hk
    obtain rfl | rfl | rfl | rfl:=hk
    · exact impl_FormatFactor_1 id fr to t x y wt w hv hT
    · exact impl_FormatFactor_2 id fr to t x y wt w hv hT
    · exact impl_FormatFactor_3 id fr to t x y wt w hv hT
    · exact impl_FormatFactor_4 id fr to t x y wt w hv hT
theorem impl_FormatFactor_c (id kind:Int) (fr to:ByteArray) (t x y wt:Int) (w:World) (hf:fr.size≤4194304) (ht:to.size≤4194304) (hT:Tab w) :
    Calls Tryz.prog 46 #[vFactor id kind fr to t x y wt] w fun e w'=>e=.returned (.string (fmtFac ⟨id,kind,fr,to,⟨t,x,y⟩,wt⟩))∧Below w.heap.size w w' :=
  impl_FormatFactor_b id kind fr to t x y wt w (Nat.le_trans hf (by decide)) (Nat.le_trans ht (by decide)) hT
end Go.Proofs.YtdfemnffpaopfaaGreatDoor
