/- Texts of this proof, one behind the other: FmtS1, FmtS2, FmtS3, FmtS4, FmtFS, FmtK. -/
import Derived.Test.YtdfemnffpaopfaaGreatDoorGmf17
import Derived.Test.YtdfemnffpaopfaaGreatDoorGmf18
namespace Go.Proofs.YtdfemnffpaopfaaGreatDoor
open Go.RowKit
set_option linter.unusedVariables false
set_option linter.unusedSimpArgs false
set_option maxHeartbeats 1000000
set_option maxRecDepth 100000
theorem spec_FormatFactor_1 (id:Int) (fr to:ByteArray) (t x y wt:Int) (w:World) (hv:vldFactor ⟨id,1,fr,to,⟨t,x,y⟩,wt⟩=true) :
    Calls Tryz.prog 121 #[vFactor id 1 fr to t x y wt] w fun e w'=>e=.returned (.string (fmtFac ⟨id,1,fr,to,⟨t,x,y⟩,wt⟩))∧Below w.heap.size w w':=by
  have HV:=Lib.hid hv
  obtain ⟨p1,p2,p3,p4,p5,p6,p7⟩:=vld_parts hv
  dsimp only at p1 p2 p3 p4 p5 p6 p7
  obtain ⟨i0,i1⟩:=inR_iff.1 p1
  obtain ⟨q0,q1⟩:=inR_iff.1 p2
  have zt:to.size≤8:=by rcases p7 with h | h <;> exact nm_size8 h
  have zp:(fmtPose t x y).size≤45:=fmtPose_size p3
  have hpd:Hid ((fmtPose t x y).data.toList=poseL t x y):=fmtPose_data p3
  obtain rfl:fr=⟨#[]⟩:=by
    have:=p5 rfl
    rw [ByteArray.toList_eq] at this
    exact bext this
  obtain ⟨s0,e0,z0,c0⟩:=cat ⟨#[112,114,105,111,114,32]⟩ (itoaB id) 6 21 (by decide) (itoaB_size (by omega) (by omega)) (by omega)
  obtain ⟨s1,e1,z1,c1⟩:=cat s0 ⟨#[32]⟩ (6+21) 1 (z0) (by decide) (by omega)
  obtain ⟨s2,e2,z2,c2⟩:=cat s1 to ((6+21)+1) 8 (z1) (zt) (by omega)
  obtain ⟨s3,e3,z3,c3⟩:=cat s2 ⟨#[32]⟩ (((6+21)+1)+8) 1 (z2) (by decide) (by omega)
  obtain ⟨s4,e4,z4,c4⟩:=cat s3 (fmtPose t x y) ((((6+21)+1)+8)+1) 45 (z3) (zp) (by omega)
  obtain ⟨s5,e5,z5,c5⟩:=cat s4 ⟨#[32]⟩ (((((6+21)+1)+8)+1)+45) 1 (z4) (by decide) (by omega)
  obtain ⟨s6,e6,z6,c6⟩:=cat s5 (itoaB wt) ((((((6+21)+1)+8)+1)+45)+1) 21 (z5) (itoaB_size (by omega) (by omega)) (by omega)
  have hfin:Hid (fmtFac ⟨id,1,⟨#[]⟩,to,⟨t,x,y⟩,wt⟩=s6):=by
    simp only [Hid,fmtFac,HV.out,if_true]
    rw [← e6.out,← e5.out,← e4.out,← e3.out,← e2.out,← e1.out,← e0.out]
    apply bext
    simp [facL,kindL,frmL,itoaB,ByteArray.data_append,hpd.out]
  have zf9:((⟨#[]⟩:ByteArray)).size≤4194304:=by decide
  clear z0 z1 z2 z3 z4 z5 z6 hv p1 p2 p3 p4 p5 p6 p7 zp
  go_enter Tryz.func121,Tryz.ntmps121
  go_wp2_with (go_at_call 150;refine (spec_IsValidFactor_c _ _ _ _ _ _ _ _ _ zf9 (by omega)).mono ?_;rw [HV.out];rintro e w1 ⟨rfl,hb1⟩;obtain ⟨hc,hfz⟩:=bcell hb1)
  refine region_at fun R hR=>?_
  have hwb:Below w.heap.size w R:=by rw [hR.out];exact bTrans (bAlloc (Below.refl _ _) _) hb1
  have g0:R.cell? ⟨w.heap.size,0,none⟩=some (.int .i64 id):=by rw [hR.out];exact bCell hb1 (cells_a rfl)
  have g1:R.cell? ⟨w.heap.size,1,none⟩=some (.int .i64 1):=by rw [hR.out];exact bCell hb1 (cells_a rfl)
  have g2:R.cell? ⟨w.heap.size,2,none⟩=some (.string ⟨#[]⟩):=by rw [hR.out];exact bCell hb1 (cells_a rfl)
  have g3:R.cell? ⟨w.heap.size,3,none⟩=some (.string to):=by rw [hR.out];exact bCell hb1 (cells_a rfl)
  have g4:R.cell? ⟨w.heap.size,4,none⟩=some (.int .i64 t):=by rw [hR.out];exact bCell hb1 (cells_a rfl)
  have g5:R.cell? ⟨w.heap.size,5,none⟩=some (.int .i64 x):=by rw [hR.out];exact bCell hb1 (cells_a rfl)
  have g6:R.cell? ⟨w.heap.size,6,none⟩=some (.int .i64 y):=by rw [hR.out];exact bCell hb1 (cells_a rfl)
  have g7:R.cell? ⟨w.heap.size,7,none⟩=some (.int .i64 wt):=by rw [hR.out];exact bCell hb1 (cells_a rfl)
  clear hR hc hfz hb1
  refine wp_region_noPanic ?_
  refine wp_region_held_drew (S:=fun w'=>w'.cell? ⟨w.heap.size,0,none⟩=some (.int .i64 id)∧w'.cell? ⟨w.heap.size,1,none⟩=some (.int .i64 1)∧w'.cell? ⟨w.heap.size,2,none⟩=some (.string ⟨#[]⟩)∧w'.cell? ⟨w.heap.size,3,none⟩=some (.string to)∧w'.cell? ⟨w.heap.size,4,none⟩=some (.int .i64 t)∧w'.cell? ⟨w.heap.size,5,none⟩=some (.int .i64 x)∧w'.cell? ⟨w.heap.size,6,none⟩=some (.int .i64 y)∧w'.cell? ⟨w.heap.size,7,none⟩=some (.int .i64 wt)) (by kernel_rfl) (by (try dsimp only);(first | go_keep | (obtain ⟨k0,k1,k2,k3,k4,k5,k6,k7⟩:=hHeld;exact ⟨bCell hbq k0,bCell hbq k1,bCell hbq k2,bCell hbq k3,bCell hbq k4,bCell hbq k5,bCell hbq k6,bCell hbq k7⟩))) (fun hHeld=>?_)
  iterate 14 (all_goals (first
    | (refine wpAnyH_done (by decide +kernel) ?_ _;refine NoPanic.normal ?_;have hend:=trivial)
    | (refine wpAnyH_take (i:=1) (v:=?_) rfl (by kernel_rfl) (by decide +kernel) (by decide +kernel) (fun _ _ _ h=>h) (Or.inl ⟨by rfl,?_⟩) (by assumption) ?_;rotate_left;(focus (intro w hSw;(try dsimp only at hSw);go_simp;try (with_reducible rfl)));(try simp only [Act.put,List.setIfInBounds_toArray,List.set_cons_zero,List.set_cons_succ,List.getElem_toArray,List.getElem_cons_zero,List.getElem_cons_succ]))
    | (refine wpAnyH_take (i:=2) (v:=?_) rfl (by kernel_rfl) (by decide +kernel) (by decide +kernel) (fun _ _ _ h=>h) (Or.inl ⟨by rfl,?_⟩) (by assumption) ?_;rotate_left;(focus (intro w hSw;(try dsimp only at hSw);go_simp;try (with_reducible rfl)));(try simp only [Act.put,List.setIfInBounds_toArray,List.set_cons_zero,List.set_cons_succ,List.getElem_toArray,List.getElem_cons_zero,List.getElem_cons_succ]))
    | (refine wpAnyH_take (i:=5) (v:=?_) rfl (by kernel_rfl) (by decide +kernel) (by decide +kernel) (fun _ _ _ h=>h) (Or.inl ⟨by rfl,?_⟩) (by assumption) ?_;rotate_left;(focus (intro w hSw;(try dsimp only at hSw);go_simp;try (with_reducible rfl)));(try simp only [Act.put,List.setIfInBounds_toArray,List.set_cons_zero,List.set_cons_succ,List.getElem_toArray,List.getElem_cons_zero,List.getElem_cons_succ]))
    | (refine wpAnyH_take (i:=6) (v:=?_) rfl (by kernel_rfl) (by decide +kernel) (by decide +kernel) (fun _ _ _ h=>h) (Or.inl ⟨by rfl,?_⟩) (by assumption) ?_;rotate_left;(focus (intro w hSw;(try dsimp only at hSw);go_simp;try (with_reducible rfl)));(try simp only [Act.put,List.setIfInBounds_toArray,List.set_cons_zero,List.set_cons_succ,List.getElem_toArray,List.getElem_cons_zero,List.getElem_cons_succ]))
    | (refine wpAnyH_take (i:=3) (v:=?_) rfl (by kernel_rfl) (by decide +kernel) (by decide +kernel) (fun _ _ _ h=>h) (Or.inl ⟨by rfl,?_⟩) (by assumption) ?_;rotate_left;(focus (intro w hSw;(try dsimp only at hSw);go_simp;try (with_reducible rfl)));(try simp only [Act.put,List.setIfInBounds_toArray,List.set_cons_zero,List.set_cons_succ,List.getElem_toArray,List.getElem_cons_zero,List.getElem_cons_succ]))
    | (refine wpAnyH_take (i:=8) (v:=?_) rfl (by kernel_rfl) (by decide +kernel) (by decide +kernel) (fun _ _ _ h=>h) (Or.inl ⟨by rfl,?_⟩) (by assumption) ?_;rotate_left;(focus (intro w hSw;(try dsimp only at hSw);go_simp;try (with_reducible rfl)));(try simp only [Act.put,List.setIfInBounds_toArray,List.set_cons_zero,List.set_cons_succ,List.getElem_toArray,List.getElem_cons_zero,List.getElem_cons_succ]))
    | (refine wpAnyH_take (i:=9) (v:=?_) rfl (by kernel_rfl) (by decide +kernel) (by decide +kernel) (fun _ _ _ h=>h) (Or.inl ⟨by rfl,?_⟩) (by assumption) ?_;rotate_left;(focus (intro w hSw;(try dsimp only at hSw);go_simp;try (with_reducible rfl)));(try simp only [Act.put,List.setIfInBounds_toArray,List.set_cons_zero,List.set_cons_succ,List.getElem_toArray,List.getElem_cons_zero,List.getElem_cons_succ]))
    | (refine wpAnyH_take (i:=10) (v:=?_) rfl (by kernel_rfl) (by decide +kernel) (by decide +kernel) (fun _ _ _ h=>h) (Or.inl ⟨by rfl,?_⟩) (by assumption) ?_;rotate_left;(focus (intro w hSw;(try dsimp only at hSw);go_simp;try (with_reducible rfl)));(try simp only [Act.put,List.setIfInBounds_toArray,List.set_cons_zero,List.set_cons_succ,List.getElem_toArray,List.getElem_cons_zero,List.getElem_cons_succ]))
    | (refine wpAnyH_ready (rs:=[0,4,7]) (by decide +kernel) (by simp) ?_;refine (AllReadyH.cons rfl (fun K hK=>?_) (AllReadyH.cons rfl (fun K hK=>?_) (AllReadyH.cons rfl (fun K hK=>?_) AllReadyH.nil)));all_goals (go_simp;(try (go_at_call 81;refine (spec_FormatInt_c _ _ (by omega) (by omega)).mono ?_;rintro e wq ⟨rfl,hbq⟩;first | (have hcc:=bCell hbq (cells_d (k:=1) rfl)) | (have hcc:=bCell hbq (cells_a (k:=1) rfl)) | skip));refine hK.out _ _ ?_ (fun hHeld=>?_);(focus (first | go_keep | (obtain ⟨k0,k1,k2,k3,k4,k5,k6,k7⟩:=hHeld;exact ⟨bCell hbq k0,bCell hbq k1,bCell hbq k2,bCell hbq k3,bCell hbq k4,bCell hbq k5,bCell hbq k6,bCell hbq k7⟩)));clear hK K;(try simp only [Act.put,List.setIfInBounds_toArray,List.set_cons_zero,List.set_cons_succ,List.getElem_toArray,List.getElem_cons_zero,List.getElem_cons_succ])))
    | (refine wpAnyH_ready (rs:=[0,4]) (by decide +kernel) (by simp) ?_;refine (AllReadyH.cons rfl (fun K hK=>?_) (AllReadyH.cons rfl (fun K hK=>?_) AllReadyH.nil));all_goals (go_simp;(try (go_at_call 81;refine (spec_FormatInt_c _ _ (by omega) (by omega)).mono ?_;rintro e wq ⟨rfl,hbq⟩;first | (have hcc:=bCell hbq (cells_d (k:=1) rfl)) | (have hcc:=bCell hbq (cells_a (k:=1) rfl)) | skip));refine hK.out _ _ ?_ (fun hHeld=>?_);(focus (first | go_keep | (obtain ⟨k0,k1,k2,k3,k4,k5,k6,k7⟩:=hHeld;exact ⟨bCell hbq k0,bCell hbq k1,bCell hbq k2,bCell hbq k3,bCell hbq k4,bCell hbq k5,bCell hbq k6,bCell hbq k7⟩)));clear hK K;(try simp only [Act.put,List.setIfInBounds_toArray,List.set_cons_zero,List.set_cons_succ,List.getElem_toArray,List.getElem_cons_zero,List.getElem_cons_succ])))
    | (refine wpAnyH_ready (rs:=[0,7]) (by decide +kernel) (by simp) ?_;refine (AllReadyH.cons rfl (fun K hK=>?_) (AllReadyH.cons rfl (fun K hK=>?_) AllReadyH.nil));all_goals (go_simp;(try (go_at_call 81;refine (spec_FormatInt_c _ _ (by omega) (by omega)).mono ?_;rintro e wq ⟨rfl,hbq⟩;first | (have hcc:=bCell hbq (cells_d (k:=1) rfl)) | (have hcc:=bCell hbq (cells_a (k:=1) rfl)) | skip));refine hK.out _ _ ?_ (fun hHeld=>?_);(focus (first | go_keep | (obtain ⟨k0,k1,k2,k3,k4,k5,k6,k7⟩:=hHeld;exact ⟨bCell hbq k0,bCell hbq k1,bCell hbq k2,bCell hbq k3,bCell hbq k4,bCell hbq k5,bCell hbq k6,bCell hbq k7⟩)));clear hK K;(try simp only [Act.put,List.setIfInBounds_toArray,List.set_cons_zero,List.set_cons_succ,List.getElem_toArray,List.getElem_cons_zero,List.getElem_cons_succ])))
    | (refine wpAnyH_ready (rs:=[4,7]) (by decide +kernel) (by simp) ?_;refine (AllReadyH.cons rfl (fun K hK=>?_) (AllReadyH.cons rfl (fun K hK=>?_) AllReadyH.nil));all_goals (go_simp;(try (go_at_call 81;refine (spec_FormatInt_c _ _ (by omega) (by omega)).mono ?_;rintro e wq ⟨rfl,hbq⟩;first | (have hcc:=bCell hbq (cells_d (k:=1) rfl)) | (have hcc:=bCell hbq (cells_a (k:=1) rfl)) | skip));refine hK.out _ _ ?_ (fun hHeld=>?_);(focus (first | go_keep | (obtain ⟨k0,k1,k2,k3,k4,k5,k6,k7⟩:=hHeld;exact ⟨bCell hbq k0,bCell hbq k1,bCell hbq k2,bCell hbq k3,bCell hbq k4,bCell hbq k5,bCell hbq k6,bCell hbq k7⟩)));clear hK K;(try simp only [Act.put,List.setIfInBounds_toArray,List.set_cons_zero,List.set_cons_succ,List.getElem_toArray,List.getElem_cons_zero,List.getElem_cons_succ])))
    | (refine wpAnyH_ready (rs:=[0]) (by decide +kernel) (by simp) ?_;refine (AllReadyH.cons rfl (fun K hK=>?_) AllReadyH.nil);all_goals (go_simp;(try (go_at_call 81;refine (spec_FormatInt_c _ _ (by omega) (by omega)).mono ?_;rintro e wq ⟨rfl,hbq⟩;first | (have hcc:=bCell hbq (cells_d (k:=1) rfl)) | (have hcc:=bCell hbq (cells_a (k:=1) rfl)) | skip));refine hK.out _ _ ?_ (fun hHeld=>?_);(focus (first | go_keep | (obtain ⟨k0,k1,k2,k3,k4,k5,k6,k7⟩:=hHeld;exact ⟨bCell hbq k0,bCell hbq k1,bCell hbq k2,bCell hbq k3,bCell hbq k4,bCell hbq k5,bCell hbq k6,bCell hbq k7⟩)));clear hK K;(try simp only [Act.put,List.setIfInBounds_toArray,List.set_cons_zero,List.set_cons_succ,List.getElem_toArray,List.getElem_cons_zero,List.getElem_cons_succ])))
    | (refine wpAnyH_ready (rs:=[4]) (by decide +kernel) (by simp) ?_;refine (AllReadyH.cons rfl (fun K hK=>?_) AllReadyH.nil);all_goals (go_simp;(try (go_at_call 81;refine (spec_FormatInt_c _ _ (by omega) (by omega)).mono ?_;rintro e wq ⟨rfl,hbq⟩;first | (have hcc:=bCell hbq (cells_d (k:=1) rfl)) | (have hcc:=bCell hbq (cells_a (k:=1) rfl)) | skip));refine hK.out _ _ ?_ (fun hHeld=>?_);(focus (first | go_keep | (obtain ⟨k0,k1,k2,k3,k4,k5,k6,k7⟩:=hHeld;exact ⟨bCell hbq k0,bCell hbq k1,bCell hbq k2,bCell hbq k3,bCell hbq k4,bCell hbq k5,bCell hbq k6,bCell hbq k7⟩)));clear hK K;(try simp only [Act.put,List.setIfInBounds_toArray,List.set_cons_zero,List.set_cons_succ,List.getElem_toArray,List.getElem_cons_zero,List.getElem_cons_succ])))
    | (refine wpAnyH_ready (rs:=[7]) (by decide +kernel) (by simp) ?_;refine (AllReadyH.cons rfl (fun K hK=>?_) AllReadyH.nil);all_goals (go_simp;(try (go_at_call 81;refine (spec_FormatInt_c _ _ (by omega) (by omega)).mono ?_;rintro e wq ⟨rfl,hbq⟩;first | (have hcc:=bCell hbq (cells_d (k:=1) rfl)) | (have hcc:=bCell hbq (cells_a (k:=1) rfl)) | skip));refine hK.out _ _ ?_ (fun hHeld=>?_);(focus (first | go_keep | (obtain ⟨k0,k1,k2,k3,k4,k5,k6,k7⟩:=hHeld;exact ⟨bCell hbq k0,bCell hbq k1,bCell hbq k2,bCell hbq k3,bCell hbq k4,bCell hbq k5,bCell hbq k6,bCell hbq k7⟩)));clear hK K;(try simp only [Act.put,List.setIfInBounds_toArray,List.set_cons_zero,List.set_cons_succ,List.getElem_toArray,List.getElem_cons_zero,List.getElem_cons_succ])))
    | skip))
  all_goals
    obtain ⟨k0,k1,k2,k3,k4,k5,k6,k7⟩:=hHeld
    go_wp2_with fail
    refine region_at fun W hW=>?_
    have hwc:Below w.heap.size w W:=by rw [hW.out];repeat (first | with_reducible exact Below.refl _ _ | with_reducible exact hwb | with_reducible refine bAlloc ?_ _ | with_reducible refine bDrew ?_ | with_reducible refine bTrans ?_ (by with_reducible assumption))
    clear g0 g1 g2 g3 g4 g5 g6 g7
    have g0:=cell_regrown (show W.cell? ⟨w.heap.size,0,none⟩=some (.int .i64 id) by rw [hW.out];exact k0)
    have g1:=cell_regrown (show W.cell? ⟨w.heap.size,1,none⟩=some (.int .i64 1) by rw [hW.out];exact k1)
    have g2:=cell_regrown (show W.cell? ⟨w.heap.size,2,none⟩=some (.string ⟨#[]⟩) by rw [hW.out];exact k2)
    have g3:=cell_regrown (show W.cell? ⟨w.heap.size,3,none⟩=some (.string to) by rw [hW.out];exact k3)
    have g4:=cell_regrown (show W.cell? ⟨w.heap.size,4,none⟩=some (.int .i64 t) by rw [hW.out];exact k4)
    have g5:=cell_regrown (show W.cell? ⟨w.heap.size,5,none⟩=some (.int .i64 x) by rw [hW.out];exact k5)
    have g6:=cell_regrown (show W.cell? ⟨w.heap.size,6,none⟩=some (.int .i64 y) by rw [hW.out];exact k6)
    have g7:=cell_regrown (show W.cell? ⟨w.heap.size,7,none⟩=some (.int .i64 wt) by rw [hW.out];exact k7)
    have cV:∀ d os,Calls Tryz.prog 163 #[vPose t x y] (Go.Sort.grow (redrawn W d) os) fun e w2=>e=.returned (.string (fmtPose t x y))∧∃ p:Regrown,w2=Go.Sort.grow (redrawn W p.d) p.os:=fun d os=>Calls.regrown_of (spec_FormatPose_c t x y _)
    have cW:∀ d os,Calls Tryz.prog 81 #[.int .i64 wt] (Go.Sort.grow (redrawn W d) os) fun e w2=>e=.returned (.string (itoaB wt))∧∃ p:Regrown,w2=Go.Sort.grow (redrawn W p.d) p.os:=fun d os=>Calls.regrown_of (spec_FormatInt_c wt _ (by omega) (by omega))
    clear hW k0 k1 k2 k3 k4 k5 k6 k7
    refine wp_region_quiet_below (by kernel_rfl) (by kernel_rfl) ?_
    repeat (go_big_quiet_step (first | exact cV _ _ | exact cW _ _))
    refine wpQuiet_nil ?_
    intro _ hw
    obtain ⟨⟨dq,osq⟩,hw⟩:=hw
    subst hw
    have hbq9:=bTrans hwc (below_regrown W dq osq)
    clear g0 g1 g2 g3 g4 g5 g6 g7 cV cW
    go_wp2
    go_ret
    exact ⟨by rw [hfin.out];rfl,hbq9⟩
theorem spec_FormatFactor_2 (id:Int) (fr to:ByteArray) (t x y wt:Int) (w:World) (hv:vldFactor ⟨id,2,fr,to,⟨t,x,y⟩,wt⟩=true) :
    Calls Tryz.prog 121 #[vFactor id 2 fr to t x y wt] w fun e w'=>e=.returned (.string (fmtFac ⟨id,2,fr,to,⟨t,x,y⟩,wt⟩))∧Below w.heap.size w w':=by
  have HV:=Lib.hid hv
  obtain ⟨p1,p2,p3,p4,p5,p6,p7⟩:=vld_parts hv
  dsimp only at p1 p2 p3 p4 p5 p6 p7
  obtain ⟨i0,i1⟩:=inR_iff.1 p1
  obtain ⟨q0,q1⟩:=inR_iff.1 p2
  have zt:to.size≤8:=by rcases p7 with h | h <;> exact nm_size8 h
  have zp:(fmtPose t x y).size≤45:=fmtPose_size p3
  have hpd:Hid ((fmtPose t x y).data.toList=poseL t x y):=fmtPose_data p3
  have hpf:=p6 (by decide)
  have zf:fr.size≤8:=nm_size8 hpf
  have hfe:fr.toList.isEmpty=false:=nm_nonempty hpf
  obtain ⟨s0,e0,z0,c0⟩:=cat ⟨#[111,100,111,109,101,116,114,121,32]⟩ (itoaB id) 9 21 (by decide) (itoaB_size (by omega) (by omega)) (by omega)
  obtain ⟨s1,e1,z1,c1⟩:=cat s0 ⟨#[32]⟩ (9+21) 1 (z0) (by decide) (by omega)
  obtain ⟨s2,e2,z2,c2⟩:=cat s1 fr ((9+21)+1) 8 (z1) (zf) (by omega)
  obtain ⟨s3,e3,z3,c3⟩:=cat s2 ⟨#[32]⟩ (((9+21)+1)+8) 1 (z2) (by decide) (by omega)
  obtain ⟨s4,e4,z4,c4⟩:=cat s3 to ((((9+21)+1)+8)+1) 8 (z3) (zt) (by omega)
  obtain ⟨s5,e5,z5,c5⟩:=cat s4 ⟨#[32]⟩ (((((9+21)+1)+8)+1)+8) 1 (z4) (by decide) (by omega)
  obtain ⟨s6,e6,z6,c6⟩:=cat s5 (fmtPose t x y) ((((((9+21)+1)+8)+1)+8)+1) 45 (z5) (zp) (by omega)
  obtain ⟨s7,e7,z7,c7⟩:=cat s6 ⟨#[32]⟩ (((((((9+21)+1)+8)+1)+8)+1)+45) 1 (z6) (by decide) (by omega)
  obtain ⟨s8,e8,z8,c8⟩:=cat s7 (itoaB wt) ((((((((9+21)+1)+8)+1)+8)+1)+45)+1) 21 (z7) (itoaB_size (by omega) (by omega)) (by omega)
  have hfin:Hid (fmtFac ⟨id,2,fr,to,⟨t,x,y⟩,wt⟩=s8):=by
    simp only [Hid,fmtFac,HV.out,if_true]
    rw [← e8.out,← e7.out,← e6.out,← e5.out,← e4.out,← e3.out,← e2.out,← e1.out,← e0.out]
    apply bext
    simp [facL,kindL,frmL,itoaB,ByteArray.data_append,hpd.out]
  have zf9:(fr).size≤4194304:=by omega
  clear z0 z1 z2 z3 z4 z5 z6 z7 z8 hv p1 p2 p3 p4 p5 p6 p7 zp
  go_enter Tryz.func121,Tryz.ntmps121
  go_wp2_with (go_at_call 150;refine (spec_IsValidFactor_c _ _ _ _ _ _ _ _ _ zf9 (by omega)).mono ?_;rw [HV.out];rintro e w1 ⟨rfl,hb1⟩;obtain ⟨hc,hfz⟩:=bcell hb1)
  refine region_at fun R hR=>?_
  have hwb:Below w.heap.size w R:=by rw [hR.out];exact bTrans (bAlloc (Below.refl _ _) _) hb1
  have g0:R.cell? ⟨w.heap.size,0,none⟩=some (.int .i64 id):=by rw [hR.out];exact bCell hb1 (cells_a rfl)
  have g1:R.cell? ⟨w.heap.size,1,none⟩=some (.int .i64 2):=by rw [hR.out];exact bCell hb1 (cells_a rfl)
  have g2:R.cell? ⟨w.heap.size,2,none⟩=some (.string fr):=by rw [hR.out];exact bCell hb1 (cells_a rfl)
  have g3:R.cell? ⟨w.heap.size,3,none⟩=some (.string to):=by rw [hR.out];exact bCell hb1 (cells_a rfl)
  have g4:R.cell? ⟨w.heap.size,4,none⟩=some (.int .i64 t):=by rw [hR.out];exact bCell hb1 (cells_a rfl)
  have g5:R.cell? ⟨w.heap.size,5,none⟩=some (.int .i64 x):=by rw [hR.out];exact bCell hb1 (cells_a rfl)
  have g6:R.cell? ⟨w.heap.size,6,none⟩=some (.int .i64 y):=by rw [hR.out];exact bCell hb1 (cells_a rfl)
  have g7:R.cell? ⟨w.heap.size,7,none⟩=some (.int .i64 wt):=by rw [hR.out];exact bCell hb1 (cells_a rfl)
  clear hR hc hfz hb1
  refine wp_region_noPanic ?_
  refine wp_region_held_drew (S:=fun w'=>w'.cell? ⟨w.heap.size,0,none⟩=some (.int .i64 id)∧w'.cell? ⟨w.heap.size,1,none⟩=some (.int .i64 2)∧w'.cell? ⟨w.heap.size,2,none⟩=some (.string fr)∧w'.cell? ⟨w.heap.size,3,none⟩=some (.string to)∧w'.cell? ⟨w.heap.size,4,none⟩=some (.int .i64 t)∧w'.cell? ⟨w.heap.size,5,none⟩=some (.int .i64 x)∧w'.cell? ⟨w.heap.size,6,none⟩=some (.int .i64 y)∧w'.cell? ⟨w.heap.size,7,none⟩=some (.int .i64 wt)) (by kernel_rfl) (by (try dsimp only);(first | go_keep | (obtain ⟨k0,k1,k2,k3,k4,k5,k6,k7⟩:=hHeld;exact ⟨bCell hbq k0,bCell hbq k1,bCell hbq k2,bCell hbq k3,bCell hbq k4,bCell hbq k5,bCell hbq k6,bCell hbq k7⟩))) (fun hHeld=>?_)
  iterate 14 (all_goals (first
    | (refine wpAnyH_done (by decide +kernel) ?_ _;refine NoPanic.normal ?_;have hend:=trivial)
    | (refine wpAnyH_take (i:=1) (v:=?_) rfl (by kernel_rfl) (by decide +kernel) (by decide +kernel) (fun _ _ _ h=>h) (Or.inl ⟨by rfl,?_⟩) (by assumption) ?_;rotate_left;(focus (intro w hSw;(try dsimp only at hSw);go_simp;try (with_reducible rfl)));(try simp only [Act.put,List.setIfInBounds_toArray,List.set_cons_zero,List.set_cons_succ,List.getElem_toArray,List.getElem_cons_zero,List.getElem_cons_succ]))
    | (refine wpAnyH_take (i:=2) (v:=?_) rfl (by kernel_rfl) (by decide +kernel) (by decide +kernel) (fun _ _ _ h=>h) (Or.inl ⟨by rfl,?_⟩) (by assumption) ?_;rotate_left;(focus (intro w hSw;(try dsimp only at hSw);go_simp;try (with_reducible rfl)));(try simp only [Act.put,List.setIfInBounds_toArray,List.set_cons_zero,List.set_cons_succ,List.getElem_toArray,List.getElem_cons_zero,List.getElem_cons_succ]))
    | (refine wpAnyH_take (i:=5) (v:=?_) rfl (by kernel_rfl) (by decide +kernel) (by decide +kernel) (fun _ _ _ h=>h) (Or.inl ⟨by rfl,?_⟩) (by assumption) ?_;rotate_left;(focus (intro w hSw;(try dsimp only at hSw);go_simp;try (with_reducible rfl)));(try simp only [Act.put,List.setIfInBounds_toArray,List.set_cons_zero,List.set_cons_succ,List.getElem_toArray,List.getElem_cons_zero,List.getElem_cons_succ]))
    | (refine wpAnyH_take (i:=6) (v:=?_) rfl (by kernel_rfl) (by decide +kernel) (by decide +kernel) (fun _ _ _ h=>h) (Or.inl ⟨by rfl,?_⟩) (by assumption) ?_;rotate_left;(focus (intro w hSw;(try dsimp only at hSw);go_simp;try (with_reducible rfl)));(try simp only [Act.put,List.setIfInBounds_toArray,List.set_cons_zero,List.set_cons_succ,List.getElem_toArray,List.getElem_cons_zero,List.getElem_cons_succ]))
    | (refine wpAnyH_take (i:=3) (v:=?_) rfl (by kernel_rfl) (by decide +kernel) (by decide +kernel) (fun _ _ _ h=>h) (Or.inl ⟨by rfl,?_⟩) (by assumption) ?_;rotate_left;(focus (intro w hSw;(try dsimp only at hSw);go_simp;try (with_reducible rfl)));(try simp only [Act.put,List.setIfInBounds_toArray,List.set_cons_zero,List.set_cons_succ,List.getElem_toArray,List.getElem_cons_zero,List.getElem_cons_succ]))
    | (refine wpAnyH_take (i:=8) (v:=?_) rfl (by kernel_rfl) (by decide +kernel) (by decide +kernel) (fun _ _ _ h=>h) (Or.inl ⟨by rfl,?_⟩) (by assumption) ?_;rotate_left;(focus (intro w hSw;(try dsimp only at hSw);go_simp;try (with_reducible rfl)));(try simp only [Act.put,List.setIfInBounds_toArray,List.set_cons_zero,List.set_cons_succ,List.getElem_toArray,List.getElem_cons_zero,List.getElem_cons_succ]))
    | (refine wpAnyH_take (i:=9) (v:=?_) rfl (by kernel_rfl) (by decide +kernel) (by decide +kernel) (fun _ _ _ h=>h) (Or.inl ⟨by rfl,?_⟩) (by assumption) ?_;rotate_left;(focus (intro w hSw;(try dsimp only at hSw);go_simp;try (with_reducible rfl)));(try simp only [Act.put,List.setIfInBounds_toArray,List.set_cons_zero,List.set_cons_succ,List.getElem_toArray,List.getElem_cons_zero,List.getElem_cons_succ]))
    | (refine wpAnyH_take (i:=10) (v:=?_) rfl (by kernel_rfl) (by decide +kernel) (by decide +kernel) (fun _ _ _ h=>h) (Or.inl ⟨by rfl,?_⟩) (by assumption) ?_;rotate_left;(focus (intro w hSw;(try dsimp only at hSw);go_simp;try (with_reducible rfl)));(try simp only [Act.put,List.setIfInBounds_toArray,List.set_cons_zero,List.set_cons_succ,List.getElem_toArray,List.getElem_cons_zero,List.getElem_cons_succ]))
    | (refine wpAnyH_ready (rs:=[0,4,7]) (by decide +kernel) (by simp) ?_;refine (AllReadyH.cons rfl (fun K hK=>?_) (AllReadyH.cons rfl (fun K hK=>?_) (AllReadyH.cons rfl (fun K hK=>?_) AllReadyH.nil)));all_goals (go_simp;(try (go_at_call 81;refine (spec_FormatInt_c _ _ (by omega) (by omega)).mono ?_;rintro e wq ⟨rfl,hbq⟩;first | (have hcc:=bCell hbq (cells_d (k:=2) rfl)) | (have hcc:=bCell hbq (cells_a (k:=2) rfl)) | skip));refine hK.out _ _ ?_ (fun hHeld=>?_);(focus (first | go_keep | (obtain ⟨k0,k1,k2,k3,k4,k5,k6,k7⟩:=hHeld;exact ⟨bCell hbq k0,bCell hbq k1,bCell hbq k2,bCell hbq k3,bCell hbq k4,bCell hbq k5,bCell hbq k6,bCell hbq k7⟩)));clear hK K;(try simp only [Act.put,List.setIfInBounds_toArray,List.set_cons_zero,List.set_cons_succ,List.getElem_toArray,List.getElem_cons_zero,List.getElem_cons_succ])))
    | (refine wpAnyH_ready (rs:=[0,4]) (by decide +kernel) (by simp) ?_;refine (AllReadyH.cons rfl (fun K hK=>?_) (AllReadyH.cons rfl (fun K hK=>?_) AllReadyH.nil));all_goals (go_simp;(try (go_at_call 81;refine (spec_FormatInt_c _ _ (by omega) (by omega)).mono ?_;rintro e wq ⟨rfl,hbq⟩;first | (have hcc:=bCell hbq (cells_d (k:=2) rfl)) | (have hcc:=bCell hbq (cells_a (k:=2) rfl)) | skip));refine hK.out _ _ ?_ (fun hHeld=>?_);(focus (first | go_keep | (obtain ⟨k0,k1,k2,k3,k4,k5,k6,k7⟩:=hHeld;exact ⟨bCell hbq k0,bCell hbq k1,bCell hbq k2,bCell hbq k3,bCell hbq k4,bCell hbq k5,bCell hbq k6,bCell hbq k7⟩)));clear hK K;(try simp only [Act.put,List.setIfInBounds_toArray,List.set_cons_zero,List.set_cons_succ,List.getElem_toArray,List.getElem_cons_zero,List.getElem_cons_succ])))
    | (refine wpAnyH_ready (rs:=[0,7]) (by decide +kernel) (by simp) ?_;refine (AllReadyH.cons rfl (fun K hK=>?_) (AllReadyH.cons rfl (fun K hK=>?_) AllReadyH.nil));all_goals (go_simp;(try (go_at_call 81;refine (spec_FormatInt_c _ _ (by omega) (by omega)).mono ?_;rintro e wq ⟨rfl,hbq⟩;first | (have hcc:=bCell hbq (cells_d (k:=2) rfl)) | (have hcc:=bCell hbq (cells_a (k:=2) rfl)) | skip));refine hK.out _ _ ?_ (fun hHeld=>?_);(focus (first | go_keep | (obtain ⟨k0,k1,k2,k3,k4,k5,k6,k7⟩:=hHeld;exact ⟨bCell hbq k0,bCell hbq k1,bCell hbq k2,bCell hbq k3,bCell hbq k4,bCell hbq k5,bCell hbq k6,bCell hbq k7⟩)));clear hK K;(try simp only [Act.put,List.setIfInBounds_toArray,List.set_cons_zero,List.set_cons_succ,List.getElem_toArray,List.getElem_cons_zero,List.getElem_cons_succ])))
    | (refine wpAnyH_ready (rs:=[4,7]) (by decide +kernel) (by simp) ?_;refine (AllReadyH.cons rfl (fun K hK=>?_) (AllReadyH.cons rfl (fun K hK=>?_) AllReadyH.nil));all_goals (go_simp;(try (go_at_call 81;refine (spec_FormatInt_c _ _ (by omega) (by omega)).mono ?_;rintro e wq ⟨rfl,hbq⟩;first | (have hcc:=bCell hbq (cells_d (k:=2) rfl)) | (have hcc:=bCell hbq (cells_a (k:=2) rfl)) | skip));refine hK.out _ _ ?_ (fun hHeld=>?_);(focus (first | go_keep | (obtain ⟨k0,k1,k2,k3,k4,k5,k6,k7⟩:=hHeld;exact ⟨bCell hbq k0,bCell hbq k1,bCell hbq k2,bCell hbq k3,bCell hbq k4,bCell hbq k5,bCell hbq k6,bCell hbq k7⟩)));clear hK K;(try simp only [Act.put,List.setIfInBounds_toArray,List.set_cons_zero,List.set_cons_succ,List.getElem_toArray,List.getElem_cons_zero,List.getElem_cons_succ])))
    | (refine wpAnyH_ready (rs:=[0]) (by decide +kernel) (by simp) ?_;refine (AllReadyH.cons rfl (fun K hK=>?_) AllReadyH.nil);all_goals (go_simp;(try (go_at_call 81;refine (spec_FormatInt_c _ _ (by omega) (by omega)).mono ?_;rintro e wq ⟨rfl,hbq⟩;first | (have hcc:=bCell hbq (cells_d (k:=2) rfl)) | (have hcc:=bCell hbq (cells_a (k:=2) rfl)) | skip));refine hK.out _ _ ?_ (fun hHeld=>?_);(focus (first | go_keep | (obtain ⟨k0,k1,k2,k3,k4,k5,k6,k7⟩:=hHeld;exact ⟨bCell hbq k0,bCell hbq k1,bCell hbq k2,bCell hbq k3,bCell hbq k4,bCell hbq k5,bCell hbq k6,bCell hbq k7⟩)));clear hK K;(try simp only [Act.put,List.setIfInBounds_toArray,List.set_cons_zero,List.set_cons_succ,List.getElem_toArray,List.getElem_cons_zero,List.getElem_cons_succ])))
    | (refine wpAnyH_ready (rs:=[4]) (by decide +kernel) (by simp) ?_;refine (AllReadyH.cons rfl (fun K hK=>?_) AllReadyH.nil);all_goals (go_simp;(try (go_at_call 81;refine (spec_FormatInt_c _ _ (by omega) (by omega)).mono ?_;rintro e wq ⟨rfl,hbq⟩;first | (have hcc:=bCell hbq (cells_d (k:=2) rfl)) | (have hcc:=bCell hbq (cells_a (k:=2) rfl)) | skip));refine hK.out _ _ ?_ (fun hHeld=>?_);(focus (first | go_keep | (obtain ⟨k0,k1,k2,k3,k4,k5,k6,k7⟩:=hHeld;exact ⟨bCell hbq k0,bCell hbq k1,bCell hbq k2,bCell hbq k3,bCell hbq k4,bCell hbq k5,bCell hbq k6,bCell hbq k7⟩)));clear hK K;(try simp only [Act.put,List.setIfInBounds_toArray,List.set_cons_zero,List.set_cons_succ,List.getElem_toArray,List.getElem_cons_zero,List.getElem_cons_succ])))
    | (refine wpAnyH_ready (rs:=[7]) (by decide +kernel) (by simp) ?_;refine (AllReadyH.cons rfl (fun K hK=>?_) AllReadyH.nil);all_goals (go_simp;(try (go_at_call 81;refine (spec_FormatInt_c _ _ (by omega) (by omega)).mono ?_;rintro e wq ⟨rfl,hbq⟩;first | (have hcc:=bCell hbq (cells_d (k:=2) rfl)) | (have hcc:=bCell hbq (cells_a (k:=2) rfl)) | skip));refine hK.out _ _ ?_ (fun hHeld=>?_);(focus (first | go_keep | (obtain ⟨k0,k1,k2,k3,k4,k5,k6,k7⟩:=hHeld;exact ⟨bCell hbq k0,bCell hbq k1,bCell hbq k2,bCell hbq k3,bCell hbq k4,bCell hbq k5,bCell hbq k6,bCell hbq k7⟩)));clear hK K;(try simp only [Act.put,List.setIfInBounds_toArray,List.set_cons_zero,List.set_cons_succ,List.getElem_toArray,List.getElem_cons_zero,List.getElem_cons_succ])))
    | skip))
  all_goals
    obtain ⟨k0,k1,k2,k3,k4,k5,k6,k7⟩:=hHeld
    go_wp2_with fail
    refine region_at fun W hW=>?_
    have hwc:Below w.heap.size w W:=by rw [hW.out];repeat (first | with_reducible exact Below.refl _ _ | with_reducible exact hwb | with_reducible refine bAlloc ?_ _ | with_reducible refine bDrew ?_ | with_reducible refine bTrans ?_ (by with_reducible assumption))
    clear g0 g1 g2 g3 g4 g5 g6 g7
    have g0:=cell_regrown (show W.cell? ⟨w.heap.size,0,none⟩=some (.int .i64 id) by rw [hW.out];exact k0)
    have g1:=cell_regrown (show W.cell? ⟨w.heap.size,1,none⟩=some (.int .i64 2) by rw [hW.out];exact k1)
    have g2:=cell_regrown (show W.cell? ⟨w.heap.size,2,none⟩=some (.string fr) by rw [hW.out];exact k2)
    have g3:=cell_regrown (show W.cell? ⟨w.heap.size,3,none⟩=some (.string to) by rw [hW.out];exact k3)
    have g4:=cell_regrown (show W.cell? ⟨w.heap.size,4,none⟩=some (.int .i64 t) by rw [hW.out];exact k4)
    have g5:=cell_regrown (show W.cell? ⟨w.heap.size,5,none⟩=some (.int .i64 x) by rw [hW.out];exact k5)
    have g6:=cell_regrown (show W.cell? ⟨w.heap.size,6,none⟩=some (.int .i64 y) by rw [hW.out];exact k6)
    have g7:=cell_regrown (show W.cell? ⟨w.heap.size,7,none⟩=some (.int .i64 wt) by rw [hW.out];exact k7)
    have cV:∀ d os,Calls Tryz.prog 163 #[vPose t x y] (Go.Sort.grow (redrawn W d) os) fun e w2=>e=.returned (.string (fmtPose t x y))∧∃ p:Regrown,w2=Go.Sort.grow (redrawn W p.d) p.os:=fun d os=>Calls.regrown_of (spec_FormatPose_c t x y _)
    have cW:∀ d os,Calls Tryz.prog 81 #[.int .i64 wt] (Go.Sort.grow (redrawn W d) os) fun e w2=>e=.returned (.string (itoaB wt))∧∃ p:Regrown,w2=Go.Sort.grow (redrawn W p.d) p.os:=fun d os=>Calls.regrown_of (spec_FormatInt_c wt _ (by omega) (by omega))
    clear hW k0 k1 k2 k3 k4 k5 k6 k7
    refine wp_region_quiet_below (by kernel_rfl) (by kernel_rfl) ?_
    repeat (go_big_quiet_step (first | exact cV _ _ | exact cW _ _))
    refine wpQuiet_nil ?_
    intro _ hw
    obtain ⟨⟨dq,osq⟩,hw⟩:=hw
    subst hw
    have hbq9:=bTrans hwc (below_regrown W dq osq)
    clear g0 g1 g2 g3 g4 g5 g6 g7 cV cW
    go_wp2
    go_ret
    exact ⟨by rw [hfin.out];rfl,hbq9⟩
theorem spec_FormatFactor_3 (id:Int) (fr to:ByteArray) (t x y wt:Int) (w:World) (hv:vldFactor ⟨id,3,fr,to,⟨t,x,y⟩,wt⟩=true) :
    Calls Tryz.prog 121 #[vFactor id 3 fr to t x y wt] w fun e w'=>e=.returned (.string (fmtFac ⟨id,3,fr,to,⟨t,x,y⟩,wt⟩))∧Below w.heap.size w w':=by
  have HV:=Lib.hid hv
  obtain ⟨p1,p2,p3,p4,p5,p6,p7⟩:=vld_parts hv
  dsimp only at p1 p2 p3 p4 p5 p6 p7
  obtain ⟨i0,i1⟩:=inR_iff.1 p1
  obtain ⟨q0,q1⟩:=inR_iff.1 p2
  have zt:to.size≤8:=by rcases p7 with h | h <;> exact nm_size8 h
  have zp:(fmtPose t x y).size≤45:=fmtPose_size p3
  have hpd:Hid ((fmtPose t x y).data.toList=poseL t x y):=fmtPose_data p3
  have hpf:=p6 (by decide)
  have zf:fr.size≤8:=nm_size8 hpf
  have hfe:fr.toList.isEmpty=false:=nm_nonempty hpf
  obtain ⟨s0,e0,z0,c0⟩:=cat ⟨#[108,97,110,100,109,97,114,107,32]⟩ (itoaB id) 9 21 (by decide) (itoaB_size (by omega) (by omega)) (by omega)
  obtain ⟨s1,e1,z1,c1⟩:=cat s0 ⟨#[32]⟩ (9+21) 1 (z0) (by decide) (by omega)
  obtain ⟨s2,e2,z2,c2⟩:=cat s1 fr ((9+21)+1) 8 (z1) (zf) (by omega)
  obtain ⟨s3,e3,z3,c3⟩:=cat s2 ⟨#[32]⟩ (((9+21)+1)+8) 1 (z2) (by decide) (by omega)
  obtain ⟨s4,e4,z4,c4⟩:=cat s3 to ((((9+21)+1)+8)+1) 8 (z3) (zt) (by omega)
  obtain ⟨s5,e5,z5,c5⟩:=cat s4 ⟨#[32]⟩ (((((9+21)+1)+8)+1)+8) 1 (z4) (by decide) (by omega)
  obtain ⟨s6,e6,z6,c6⟩:=cat s5 (fmtPose t x y) ((((((9+21)+1)+8)+1)+8)+1) 45 (z5) (zp) (by omega)
  obtain ⟨s7,e7,z7,c7⟩:=cat s6 ⟨#[32]⟩ (((((((9+21)+1)+8)+1)+8)+1)+45) 1 (z6) (by decide) (by omega)
  obtain ⟨s8,e8,z8,c8⟩:=cat s7 (itoaB wt) ((((((((9+21)+1)+8)+1)+8)+1)+45)+1) 21 (z7) (itoaB_size (by omega) (by omega)) (by omega)
  have hfin:Hid (fmtFac ⟨id,3,fr,to,⟨t,x,y⟩,wt⟩=s8):=by
    simp only [Hid,fmtFac,HV.out,if_true]
    rw [← e8.out,← e7.out,← e6.out,← e5.out,← e4.out,← e3.out,← e2.out,← e1.out,← e0.out]
    apply bext
    simp [facL,kindL,frmL,itoaB,ByteArray.data_append,hpd.out]
  have zf9:(fr).size≤4194304:=by omega
  clear z0 z1 z2 z3 z4 z5 z6 z7 z8 hv p1 p2 p3 p4 p5 p6 p7 zp
  go_enter Tryz.func121,Tryz.ntmps121
  go_wp2_with (go_at_call 150;refine (spec_IsValidFactor_c _ _ _ _ _ _ _ _ _ zf9 (by omega)).mono ?_;rw [HV.out];rintro e w1 ⟨rfl,hb1⟩;obtain ⟨hc,hfz⟩:=bcell hb1)
  refine region_at fun R hR=>?_
  have hwb:Below w.heap.size w R:=by rw [hR.out];exact bTrans (bAlloc (Below.refl _ _) _) hb1
  have g0:R.cell? ⟨w.heap.size,0,none⟩=some (.int .i64 id):=by rw [hR.out];exact bCell hb1 (cells_a rfl)
  have g1:R.cell? ⟨w.heap.size,1,none⟩=some (.int .i64 3):=by rw [hR.out];exact bCell hb1 (cells_a rfl)
  have g2:R.cell? ⟨w.heap.size,2,none⟩=some (.string fr):=by rw [hR.out];exact bCell hb1 (cells_a rfl)
  have g3:R.cell? ⟨w.heap.size,3,none⟩=some (.string to):=by rw [hR.out];exact bCell hb1 (cells_a rfl)
  have g4:R.cell? ⟨w.heap.size,4,none⟩=some (.int .i64 t):=by rw [hR.out];exact bCell hb1 (cells_a rfl)
  have g5:R.cell? ⟨w.heap.size,5,none⟩=some (.int .i64 x):=by rw [hR.out];exact bCell hb1 (cells_a rfl)
  have g6:R.cell? ⟨w.heap.size,6,none⟩=some (.int .i64 y):=by rw [hR.out];exact bCell hb1 (cells_a rfl)
  have g7:R.cell? ⟨w.heap.size,7,none⟩=some (.int .i64 wt):=by rw [hR.out];exact bCell hb1 (cells_a rfl)
  clear hR hc hfz hb1
  refine wp_region_noPanic ?_
  refine wp_region_held_drew (S:=fun w'=>w'.cell? ⟨w.heap.size,0,none⟩=some (.int .i64 id)∧w'.cell? ⟨w.heap.size,1,none⟩=some (.int .i64 3)∧w'.cell? ⟨w.heap.size,2,none⟩=some (.string fr)∧w'.cell? ⟨w.heap.size,3,none⟩=some (.string to)∧w'.cell? ⟨w.heap.size,4,none⟩=some (.int .i64 t)∧w'.cell? ⟨w.heap.size,5,none⟩=some (.int .i64 x)∧w'.cell? ⟨w.heap.size,6,none⟩=some (.int .i64 y)∧w'.cell? ⟨w.heap.size,7,none⟩=some (.int .i64 wt)) (by kernel_rfl) (by (try dsimp only);(first | go_keep | (obtain ⟨k0,k1,k2,k3,k4,k5,k6,k7⟩:=hHeld;exact ⟨bCell hbq k0,bCell hbq k1,bCell hbq k2,bCell hbq k3,bCell hbq k4,bCell hbq k5,bCell hbq k6,bCell hbq k7⟩))) (fun hHeld=>?_)
  iterate 14 (all_goals (first
    | (refine wpAnyH_done (by decide +kernel) ?_ _;refine NoPanic.normal ?_;have hend:=trivial)
    | (refine wpAnyH_take (i:=1) (v:=?_) rfl (by kernel_rfl) (by decide +kernel) (by decide +kernel) (fun _ _ _ h=>h) (Or.inl ⟨by rfl,?_⟩) (by assumption) ?_;rotate_left;(focus (intro w hSw;(try dsimp only at hSw);go_simp;try (with_reducible rfl)));(try simp only [Act.put,List.setIfInBounds_toArray,List.set_cons_zero,List.set_cons_succ,List.getElem_toArray,List.getElem_cons_zero,List.getElem_cons_succ]))
    | (refine wpAnyH_take (i:=2) (v:=?_) rfl (by kernel_rfl) (by decide +kernel) (by decide +kernel) (fun _ _ _ h=>h) (Or.inl ⟨by rfl,?_⟩) (by assumption) ?_;rotate_left;(focus (intro w hSw;(try dsimp only at hSw);go_simp;try (with_reducible rfl)));(try simp only [Act.put,List.setIfInBounds_toArray,List.set_cons_zero,List.set_cons_succ,List.getElem_toArray,List.getElem_cons_zero,List.getElem_cons_succ]))
    | (refine wpAnyH_take (i:=5) (v:=?_) rfl (by kernel_rfl) (by decide +kernel) (by decide +kernel) (fun _ _ _ h=>h) (Or.inl ⟨by rfl,?_⟩) (by assumption) ?_;rotate_left;(focus (intro w hSw;(try dsimp only at hSw);go_simp;try (with_reducible rfl)));(try simp only [Act.put,List.setIfInBounds_toArray,List.set_cons_zero,List.set_cons_succ,List.getElem_toArray,List.getElem_cons_zero,List.getElem_cons_succ]))
    | (refine wpAnyH_take (i:=6) (v:=?_) rfl (by kernel_rfl) (by decide +kernel) (by decide +kernel) (fun _ _ _ h=>h) (Or.inl ⟨by rfl,?_⟩) (by assumption) ?_;rotate_left;(focus (intro w hSw;(try dsimp only at hSw);go_simp;try (with_reducible rfl)));(try simp only [Act.put,List.setIfInBounds_toArray,List.set_cons_zero,List.set_cons_succ,List.getElem_toArray,List.getElem_cons_zero,List.getElem_cons_succ]))
    | (refine wpAnyH_take (i:=3) (v:=?_) rfl (by kernel_rfl) (by decide +kernel) (by decide +kernel) (fun _ _ _ h=>h) (Or.inl ⟨by rfl,?_⟩) (by assumption) ?_;rotate_left;(focus (intro w hSw;(try dsimp only at hSw);go_simp;try (with_reducible rfl)));(try simp only [Act.put,List.setIfInBounds_toArray,List.set_cons_zero,List.set_cons_succ,List.getElem_toArray,List.getElem_cons_zero,List.getElem_cons_succ]))
    | (refine wpAnyH_take (i:=8) (v:=?_) rfl (by kernel_rfl) (by decide +kernel) (by decide +kernel) (fun _ _ _ h=>h) (Or.inl ⟨by rfl,?_⟩) (by assumption) ?_;rotate_left;(focus (intro w hSw;(try dsimp only at hSw);go_simp;try (with_reducible rfl)));(try simp only [Act.put,List.setIfInBounds_toArray,List.set_cons_zero,List.set_cons_succ,List.getElem_toArray,List.getElem_cons_zero,List.getElem_cons_succ]))
    | (refine wpAnyH_take (i:=9) (v:=?_) rfl (by kernel_rfl) (by decide +kernel) (by decide +kernel) (fun _ _ _ h=>h) (Or.inl ⟨by rfl,?_⟩) (by assumption) ?_;rotate_left;(focus (intro w hSw;(try dsimp only at hSw);go_simp;try (with_reducible rfl)));(try simp only [Act.put,List.setIfInBounds_toArray,List.set_cons_zero,List.set_cons_succ,List.getElem_toArray,List.getElem_cons_zero,List.getElem_cons_succ]))
    | (refine wpAnyH_take (i:=10) (v:=?_) rfl (by kernel_rfl) (by decide +kernel) (by decide +kernel) (fun _ _ _ h=>h) (Or.inl ⟨by rfl,?_⟩) (by assumption) ?_;rotate_left;(focus (intro w hSw;(try dsimp only at hSw);go_simp;try (with_reducible rfl)));(try simp only [Act.put,List.setIfInBounds_toArray,List.set_cons_zero,List.set_cons_succ,List.getElem_toArray,List.getElem_cons_zero,List.getElem_cons_succ]))
    | (refine wpAnyH_ready (rs:=[0,4,7]) (by decide +kernel) (by simp) ?_;refine (AllReadyH.cons rfl (fun K hK=>?_) (AllReadyH.cons rfl (fun K hK=>?_) (AllReadyH.cons rfl (fun K hK=>?_) AllReadyH.nil)));all_goals (go_simp;(try (go_at_call 81;refine (spec_FormatInt_c _ _ (by omega) (by omega)).mono ?_;rintro e wq ⟨rfl,hbq⟩;first | (have hcc:=bCell hbq (cells_d (k:=3) rfl)) | (have hcc:=bCell hbq (cells_a (k:=3) rfl)) | skip));refine hK.out _ _ ?_ (fun hHeld=>?_);(focus (first | go_keep | (obtain ⟨k0,k1,k2,k3,k4,k5,k6,k7⟩:=hHeld;exact ⟨bCell hbq k0,bCell hbq k1,bCell hbq k2,bCell hbq k3,bCell hbq k4,bCell hbq k5,bCell hbq k6,bCell hbq k7⟩)));clear hK K;(try simp only [Act.put,List.setIfInBounds_toArray,List.set_cons_zero,List.set_cons_succ,List.getElem_toArray,List.getElem_cons_zero,List.getElem_cons_succ])))
    | (refine wpAnyH_ready (rs:=[0,4]) (by decide +kernel) (by simp) ?_;refine (AllReadyH.cons rfl (fun K hK=>?_) (AllReadyH.cons rfl (fun K hK=>?_) AllReadyH.nil));all_goals (go_simp;(try (go_at_call 81;refine (spec_FormatInt_c _ _ (by omega) (by omega)).mono ?_;rintro e wq ⟨rfl,hbq⟩;first | (have hcc:=bCell hbq (cells_d (k:=3) rfl)) | (have hcc:=bCell hbq (cells_a (k:=3) rfl)) | skip));refine hK.out _ _ ?_ (fun hHeld=>?_);(focus (first | go_keep | (obtain ⟨k0,k1,k2,k3,k4,k5,k6,k7⟩:=hHeld;exact ⟨bCell hbq k0,bCell hbq k1,bCell hbq k2,bCell hbq k3,bCell hbq k4,bCell hbq k5,bCell hbq k6,bCell hbq k7⟩)));clear hK K;(try simp only [Act.put,List.setIfInBounds_toArray,List.set_cons_zero,List.set_cons_succ,List.getElem_toArray,List.getElem_cons_zero,List.getElem_cons_succ])))
    | (refine wpAnyH_ready (rs:=[0,7]) (by decide +kernel) (by simp) ?_;refine (AllReadyH.cons rfl (fun K hK=>?_) (AllReadyH.cons rfl (fun K hK=>?_) AllReadyH.nil));all_goals (go_simp;(try (go_at_call 81;refine (spec_FormatInt_c _ _ (by omega) (by omega)).mono ?_;rintro e wq ⟨rfl,hbq⟩;first | (have hcc:=bCell hbq (cells_d (k:=3) rfl)) | (have hcc:=bCell hbq (cells_a (k:=3) rfl)) | skip));refine hK.out _ _ ?_ (fun hHeld=>?_);(focus (first | go_keep | (obtain ⟨k0,k1,k2,k3,k4,k5,k6,k7⟩:=hHeld;exact ⟨bCell hbq k0,bCell hbq k1,bCell hbq k2,bCell hbq k3,bCell hbq k4,bCell hbq k5,bCell hbq k6,bCell hbq k7⟩)));clear hK K;(try simp only [Act.put,List.setIfInBounds_toArray,List.set_cons_zero,List.set_cons_succ,List.getElem_toArray,List.getElem_cons_zero,List.getElem_cons_succ])))
    | (refine wpAnyH_ready (rs:=[4,7]) (by decide +kernel) (by simp) ?_;refine (AllReadyH.cons rfl (fun K hK=>?_) (AllReadyH.cons rfl (fun K hK=>?_) AllReadyH.nil));all_goals (go_simp;(try (go_at_call 81;refine (spec_FormatInt_c _ _ (by omega) (by omega)).mono ?_;rintro e wq ⟨rfl,hbq⟩;first | (have hcc:=bCell hbq (cells_d (k:=3) rfl)) | (have hcc:=bCell hbq (cells_a (k:=3) rfl)) | skip));refine hK.out _ _ ?_ (fun hHeld=>?_);(focus (first | go_keep | (obtain ⟨k0,k1,k2,k3,k4,k5,k6,k7⟩:=hHeld;exact ⟨bCell hbq k0,bCell hbq k1,bCell hbq k2,bCell hbq k3,bCell hbq k4,bCell hbq k5,bCell hbq k6,bCell hbq k7⟩)));clear hK K;(try simp only [Act.put,List.setIfInBounds_toArray,List.set_cons_zero,List.set_cons_succ,List.getElem_toArray,List.getElem_cons_zero,List.getElem_cons_succ])))
    | (refine wpAnyH_ready (rs:=[0]) (by decide +kernel) (by simp) ?_;refine (AllReadyH.cons rfl (fun K hK=>?_) AllReadyH.nil);all_goals (go_simp;(try (go_at_call 81;refine (spec_FormatInt_c _ _ (by omega) (by omega)).mono ?_;rintro e wq ⟨rfl,hbq⟩;first | (have hcc:=bCell hbq (cells_d (k:=3) rfl)) | (have hcc:=bCell hbq (cells_a (k:=3) rfl)) | skip));refine hK.out _ _ ?_ (fun hHeld=>?_);(focus (first | go_keep | (obtain ⟨k0,k1,k2,k3,k4,k5,k6,k7⟩:=hHeld;exact ⟨bCell hbq k0,bCell hbq k1,bCell hbq k2,bCell hbq k3,bCell hbq k4,bCell hbq k5,bCell hbq k6,bCell hbq k7⟩)));clear hK K;(try simp only [Act.put,List.setIfInBounds_toArray,List.set_cons_zero,List.set_cons_succ,List.getElem_toArray,List.getElem_cons_zero,List.getElem_cons_succ])))
    | (refine wpAnyH_ready (rs:=[4]) (by decide +kernel) (by simp) ?_;refine (AllReadyH.cons rfl (fun K hK=>?_) AllReadyH.nil);all_goals (go_simp;(try (go_at_call 81;refine (spec_FormatInt_c _ _ (by omega) (by omega)).mono ?_;rintro e wq ⟨rfl,hbq⟩;first | (have hcc:=bCell hbq (cells_d (k:=3) rfl)) | (have hcc:=bCell hbq (cells_a (k:=3) rfl)) | skip));refine hK.out _ _ ?_ (fun hHeld=>?_);(focus (first | go_keep | (obtain ⟨k0,k1,k2,k3,k4,k5,k6,k7⟩:=hHeld;exact ⟨bCell hbq k0,bCell hbq k1,bCell hbq k2,bCell hbq k3,bCell hbq k4,bCell hbq k5,bCell hbq k6,bCell hbq k7⟩)));clear hK K;(try simp only [Act.put,List.setIfInBounds_toArray,List.set_cons_zero,List.set_cons_succ,List.getElem_toArray,List.getElem_cons_zero,List.getElem_cons_succ])))
    | (refine wpAnyH_ready (rs:=[7]) (by decide +kernel) (by simp) ?_;refine (AllReadyH.cons rfl (fun K hK=>?_) AllReadyH.nil);all_goals (go_simp;(try (go_at_call 81;refine (spec_FormatInt_c _ _ (by omega) (by omega)).mono ?_;rintro e wq ⟨rfl,hbq⟩;first | (have hcc:=bCell hbq (cells_d (k:=3) rfl)) | (have hcc:=bCell hbq (cells_a (k:=3) rfl)) | skip));refine hK.out _ _ ?_ (fun hHeld=>?_);(focus (first | go_keep | (obtain ⟨k0,k1,k2,k3,k4,k5,k6,k7⟩:=hHeld;exact ⟨bCell hbq k0,bCell hbq k1,bCell hbq k2,bCell hbq k3,bCell hbq k4,bCell hbq k5,bCell hbq k6,bCell hbq k7⟩)));clear hK K;(try simp only [Act.put,List.setIfInBounds_toArray,List.set_cons_zero,List.set_cons_succ,List.getElem_toArray,List.getElem_cons_zero,List.getElem_cons_succ])))
    | skip))
  all_goals
    obtain ⟨k0,k1,k2,k3,k4,k5,k6,k7⟩:=hHeld
    go_wp2_with fail
    refine region_at fun W hW=>?_
    have hwc:Below w.heap.size w W:=by rw [hW.out];repeat (first | with_reducible exact Below.refl _ _ | with_reducible exact hwb | with_reducible refine bAlloc ?_ _ | with_reducible refine bDrew ?_ | with_reducible refine bTrans ?_ (by with_reducible assumption))
    clear g0 g1 g2 g3 g4 g5 g6 g7
    have g0:=cell_regrown (show W.cell? ⟨w.heap.size,0,none⟩=some (.int .i64 id) by rw [hW.out];exact k0)
    have g1:=cell_regrown (show W.cell? ⟨w.heap.size,1,none⟩=some (.int .i64 3) by rw [hW.out];exact k1)
    have g2:=cell_regrown (show W.cell? ⟨w.heap.size,2,none⟩=some (.string fr) by rw [hW.out];exact k2)
    have g3:=cell_regrown (show W.cell? ⟨w.heap.size,3,none⟩=some (.string to) by rw [hW.out];exact k3)
    have g4:=cell_regrown (show W.cell? ⟨w.heap.size,4,none⟩=some (.int .i64 t) by rw [hW.out];exact k4)
    have g5:=cell_regrown (show W.cell? ⟨w.heap.size,5,none⟩=some (.int .i64 x) by rw [hW.out];exact k5)
    have g6:=cell_regrown (show W.cell? ⟨w.heap.size,6,none⟩=some (.int .i64 y) by rw [hW.out];exact k6)
    have g7:=cell_regrown (show W.cell? ⟨w.heap.size,7,none⟩=some (.int .i64 wt) by rw [hW.out];exact k7)
    have cV:∀ d os,Calls Tryz.prog 163 #[vPose t x y] (Go.Sort.grow (redrawn W d) os) fun e w2=>e=.returned (.string (fmtPose t x y))∧∃ p:Regrown,w2=Go.Sort.grow (redrawn W p.d) p.os:=fun d os=>Calls.regrown_of (spec_FormatPose_c t x y _)
    have cW:∀ d os,Calls Tryz.prog 81 #[.int .i64 wt] (Go.Sort.grow (redrawn W d) os) fun e w2=>e=.returned (.string (itoaB wt))∧∃ p:Regrown,w2=Go.Sort.grow (redrawn W p.d) p.os:=fun d os=>Calls.regrown_of (spec_FormatInt_c wt _ (by omega) (by omega))
    clear hW k0 k1 k2 k3 k4 k5 k6 k7
    refine wp_region_quiet_below (by kernel_rfl) (by kernel_rfl) ?_
    repeat (go_big_quiet_step (first | exact cV _ _ | exact cW _ _))
    refine wpQuiet_nil ?_
    intro _ hw
    obtain ⟨⟨dq,osq⟩,hw⟩:=hw
    subst hw
    have hbq9:=bTrans hwc (below_regrown W dq osq)
    clear g0 g1 g2 g3 g4 g5 g6 g7 cV cW
    go_wp2
    go_ret
    exact ⟨by rw [hfin.out];rfl,hbq9⟩
theorem spec_FormatFactor_4 (id:Int) (fr to:ByteArray) (t x y wt:Int) (w:World) (hv:vldFactor ⟨id,4,fr,to,⟨t,x,y⟩,wt⟩=true) :
    Calls Tryz.prog 121 #[vFactor id 4 fr to t x y wt] w fun e w'=>e=.returned (.string (fmtFac ⟨id,4,fr,to,⟨t,x,y⟩,wt⟩))∧Below w.heap.size w w':=by
  have HV:=Lib.hid hv
  obtain ⟨p1,p2,p3,p4,p5,p6,p7⟩:=vld_parts hv
  dsimp only at p1 p2 p3 p4 p5 p6 p7
  obtain ⟨i0,i1⟩:=inR_iff.1 p1
  obtain ⟨q0,q1⟩:=inR_iff.1 p2
  have zt:to.size≤8:=by rcases p7 with h | h <;> exact nm_size8 h
  have zp:(fmtPose t x y).size≤45:=fmtPose_size p3
  have hpd:Hid ((fmtPose t x y).data.toList=poseL t x y):=fmtPose_data p3
  have hpf:=p6 (by decide)
  have zf:fr.size≤8:=nm_size8 hpf
  have hfe:fr.toList.isEmpty=false:=nm_nonempty hpf
  obtain ⟨s0,e0,z0,c0⟩:=cat ⟨#[108,111,111,112,32]⟩ (itoaB id) 5 21 (by decide) (itoaB_size (by omega) (by omega)) (by omega)
  obtain ⟨s1,e1,z1,c1⟩:=cat s0 ⟨#[32]⟩ (5+21) 1 (z0) (by decide) (by omega)
  obtain ⟨s2,e2,z2,c2⟩:=cat s1 fr ((5+21)+1) 8 (z1) (zf) (by omega)
  obtain ⟨s3,e3,z3,c3⟩:=cat s2 ⟨#[32]⟩ (((5+21)+1)+8) 1 (z2) (by decide) (by omega)
  obtain ⟨s4,e4,z4,c4⟩:=cat s3 to ((((5+21)+1)+8)+1) 8 (z3) (zt) (by omega)
  obtain ⟨s5,e5,z5,c5⟩:=cat s4 ⟨#[32]⟩ (((((5+21)+1)+8)+1)+8) 1 (z4) (by decide) (by omega)
  obtain ⟨s6,e6,z6,c6⟩:=cat s5 (fmtPose t x y) ((((((5+21)+1)+8)+1)+8)+1) 45 (z5) (zp) (by omega)
  obtain ⟨s7,e7,z7,c7⟩:=cat s6 ⟨#[32]⟩ (((((((5+21)+1)+8)+1)+8)+1)+45) 1 (z6) (by decide) (by omega)
  obtain ⟨s8,e8,z8,c8⟩:=cat s7 (itoaB wt) ((((((((5+21)+1)+8)+1)+8)+1)+45)+1) 21 (z7) (itoaB_size (by omega) (by omega)) (by omega)
  have hfin:Hid (fmtFac ⟨id,4,fr,to,⟨t,x,y⟩,wt⟩=s8):=by
    simp only [Hid,fmtFac,HV.out,if_true]
    rw [← e8.out,← e7.out,← e6.out,← e5.out,← e4.out,← e3.out,← e2.out,← e1.out,← e0.out]
    apply bext
    simp [facL,kindL,frmL,itoaB,ByteArray.data_append,hpd.out]
  have zf9:(fr).size≤4194304:=by omega
  clear z0 z1 z2 z3 z4 z5 z6 z7 z8 hv p1 p2 p3 p4 p5 p6 p7 zp
  go_enter Tryz.func121,Tryz.ntmps121
  go_wp2_with (go_at_call 150;refine (spec_IsValidFactor_c _ _ _ _ _ _ _ _ _ zf9 (by omega)).mono ?_;rw [HV.out];rintro e w1 ⟨rfl,hb1⟩;obtain ⟨hc,hfz⟩:=bcell hb1)
  refine region_at fun R hR=>?_
  have hwb:Below w.heap.size w R:=by rw [hR.out];exact bTrans (bAlloc (Below.refl _ _) _) hb1
  have g0:R.cell? ⟨w.heap.size,0,none⟩=some (.int .i64 id):=by rw [hR.out];exact bCell hb1 (cells_a rfl)
  have g1:R.cell? ⟨w.heap.size,1,none⟩=some (.int .i64 4):=by rw [hR.out];exact bCell hb1 (cells_a rfl)
  have g2:R.cell? ⟨w.heap.size,2,none⟩=some (.string fr):=by rw [hR.out];exact bCell hb1 (cells_a rfl)
  have g3:R.cell? ⟨w.heap.size,3,none⟩=some (.string to):=by rw [hR.out];exact bCell hb1 (cells_a rfl)
  have g4:R.cell? ⟨w.heap.size,4,none⟩=some (.int .i64 t):=by rw [hR.out];exact bCell hb1 (cells_a rfl)
  have g5:R.cell? ⟨w.heap.size,5,none⟩=some (.int .i64 x):=by rw [hR.out];exact bCell hb1 (cells_a rfl)
  have g6:R.cell? ⟨w.heap.size,6,none⟩=some (.int .i64 y):=by rw [hR.out];exact bCell hb1 (cells_a rfl)
  have g7:R.cell? ⟨w.heap.size,7,none⟩=some (.int .i64 wt):=by rw [hR.out];exact bCell hb1 (cells_a rfl)
  clear hR hc hfz hb1
  refine wp_region_noPanic ?_
  refine wp_region_held_drew (S:=fun w'=>w'.cell? ⟨w.heap.size,0,none⟩=some (.int .i64 id)∧w'.cell? ⟨w.heap.size,1,none⟩=some (.int .i64 4)∧w'.cell? ⟨w.heap.size,2,none⟩=some (.string fr)∧w'.cell? ⟨w.heap.size,3,none⟩=some (.string to)∧w'.cell? ⟨w.heap.size,4,none⟩=some (.int .i64 t)∧w'.cell? ⟨w.heap.size,5,none⟩=some (.int .i64 x)∧w'.cell? ⟨w.heap.size,6,none⟩=some (.int .i64 y)∧w'.cell? ⟨w.heap.size,7,none⟩=some (.int .i64 wt)) (by kernel_rfl) (by (try dsimp only);(first | go_keep | (obtain ⟨k0,k1,k2,k3,k4,k5,k6,k7⟩:=hHeld;exact ⟨bCell hbq k0,bCell hbq k1,bCell hbq k2,bCell hbq k3,bCell hbq k4,bCell hbq k5,bCell hbq k6,bCell hbq k7⟩))) (fun hHeld=>?_)
  iterate 14 (all_goals (first
    | (refine wpAnyH_done (by decide +kernel) ?_ _;refine NoPanic.normal ?_;have hend:=trivial)
    | (refine wpAnyH_take (i:=1) (v:=?_) rfl (by kernel_rfl) (by decide +kernel) (by decide +kernel) (fun _ _ _ h=>h) (Or.inl ⟨by rfl,?_⟩) (by assumption) ?_;rotate_left;(focus (intro w hSw;(try dsimp only at hSw);go_simp;try (with_reducible rfl)));(try simp only [Act.put,List.setIfInBounds_toArray,List.set_cons_zero,List.set_cons_succ,List.getElem_toArray,List.getElem_cons_zero,List.getElem_cons_succ]))
    | (refine wpAnyH_take (i:=2) (v:=?_) rfl (by kernel_rfl) (by decide +kernel) (by decide +kernel) (fun _ _ _ h=>h) (Or.inl ⟨by rfl,?_⟩) (by assumption) ?_;rotate_left;(focus (intro w hSw;(try dsimp only at hSw);go_simp;try (with_reducible rfl)));(try simp only [Act.put,List.setIfInBounds_toArray,List.set_cons_zero,List.set_cons_succ,List.getElem_toArray,List.getElem_cons_zero,List.getElem_cons_succ]))
    | (refine wpAnyH_take (i:=5) (v:=?_) rfl (by kernel_rfl) (by decide +kernel) (by decide +kernel) (fun _ _ _ h=>h) (Or.inl ⟨by rfl,?_⟩) (by assumption) ?_;rotate_left;(focus (intro w hSw;(try dsimp only at hSw);go_simp;try (with_reducible rfl)));(try simp only [Act.put,List.setIfInBounds_toArray,List.set_cons_zero,List.set_cons_succ,List.getElem_toArray,List.getElem_cons_zero,List.getElem_cons_succ]))
    | (refine wpAnyH_take (i:=6) (v:=?_) rfl (by kernel_rfl) (by decide +kernel) (by decide +kernel) (fun _ _ _ h=>h) (Or.inl ⟨by rfl,?_⟩) (by assumption) ?_;rotate_left;(focus (intro w hSw;(try dsimp only at hSw);go_simp;try (with_reducible rfl)));(try simp only [Act.put,List.setIfInBounds_toArray,List.set_cons_zero,List.set_cons_succ,List.getElem_toArray,List.getElem_cons_zero,List.getElem_cons_succ]))
    | (refine wpAnyH_take (i:=3) (v:=?_) rfl (by kernel_rfl) (by decide +kernel) (by decide +kernel) (fun _ _ _ h=>h) (Or.inl ⟨by rfl,?_⟩) (by assumption) ?_;rotate_left;(focus (intro w hSw;(try dsimp only at hSw);go_simp;try (with_reducible rfl)));(try simp only [Act.put,List.setIfInBounds_toArray,List.set_cons_zero,List.set_cons_succ,List.getElem_toArray,List.getElem_cons_zero,List.getElem_cons_succ]))
    | (refine wpAnyH_take (i:=8) (v:=?_) rfl (by kernel_rfl) (by decide +kernel) (by decide +kernel) (fun _ _ _ h=>h) (Or.inl ⟨by rfl,?_⟩) (by assumption) ?_;rotate_left;(focus (intro w hSw;(try dsimp only at hSw);go_simp;try (with_reducible rfl)));(try simp only [Act.put,List.setIfInBounds_toArray,List.set_cons_zero,List.set_cons_succ,List.getElem_toArray,List.getElem_cons_zero,List.getElem_cons_succ]))
    | (refine wpAnyH_take (i:=9) (v:=?_) rfl (by kernel_rfl) (by decide +kernel) (by decide +kernel) (fun _ _ _ h=>h) (Or.inl ⟨by rfl,?_⟩) (by assumption) ?_;rotate_left;(focus (intro w hSw;(try dsimp only at hSw);go_simp;try (with_reducible rfl)));(try simp only [Act.put,List.setIfInBounds_toArray,List.set_cons_zero,List.set_cons_succ,List.getElem_toArray,List.getElem_cons_zero,List.getElem_cons_succ]))
    | (refine wpAnyH_take (i:=10) (v:=?_) rfl (by kernel_rfl) (by decide +kernel) (by decide +kernel) (fun _ _ _ h=>h) (Or.inl ⟨by rfl,?_⟩) (by assumption) ?_;rotate_left;(focus (intro w hSw;(try dsimp only at hSw);go_simp;try (with_reducible rfl)));(try simp only [Act.put,List.setIfInBounds_toArray,List.set_cons_zero,List.set_cons_succ,List.getElem_toArray,List.getElem_cons_zero,List.getElem_cons_succ]))
    | (refine wpAnyH_ready (rs:=[0,4,7]) (by decide +kernel) (by simp) ?_;refine (AllReadyH.cons rfl (fun K hK=>?_) (AllReadyH.cons rfl (fun K hK=>?_) (AllReadyH.cons rfl (fun K hK=>?_) AllReadyH.nil)));all_goals (go_simp;(try (go_at_call 81;refine (spec_FormatInt_c _ _ (by omega) (by omega)).mono ?_;rintro e wq ⟨rfl,hbq⟩;first | (have hcc:=bCell hbq (cells_d (k:=4) rfl)) | (have hcc:=bCell hbq (cells_a (k:=4) rfl)) | skip));refine hK.out _ _ ?_ (fun hHeld=>?_);(focus (first | go_keep | (obtain ⟨k0,k1,k2,k3,k4,k5,k6,k7⟩:=hHeld;exact ⟨bCell hbq k0,bCell hbq k1,bCell hbq k2,bCell hbq k3,bCell hbq k4,bCell hbq k5,bCell hbq k6,bCell hbq k7⟩)));clear hK K;(try simp only [Act.put,List.setIfInBounds_toArray,List.set_cons_zero,List.set_cons_succ,List.getElem_toArray,List.getElem_cons_zero,List.getElem_cons_succ])))
    | (refine wpAnyH_ready (rs:=[0,4]) (by decide +kernel) (by simp) ?_;refine (AllReadyH.cons rfl (fun K hK=>?_) (AllReadyH.cons rfl (fun K hK=>?_) AllReadyH.nil));all_goals (go_simp;(try (go_at_call 81;refine (spec_FormatInt_c _ _ (by omega) (by omega)).mono ?_;rintro e wq ⟨rfl,hbq⟩;first | (have hcc:=bCell hbq (cells_d (k:=4) rfl)) | (have hcc:=bCell hbq (cells_a (k:=4) rfl)) | skip));refine hK.out _ _ ?_ (fun hHeld=>?_);(focus (first | go_keep | (obtain ⟨k0,k1,k2,k3,k4,k5,k6,k7⟩:=hHeld;exact ⟨bCell hbq k0,bCell hbq k1,bCell hbq k2,bCell hbq k3,bCell hbq k4,bCell hbq k5,bCell hbq k6,bCell hbq k7⟩)));clear hK K;(try simp only [Act.put,List.setIfInBounds_toArray,List.set_cons_zero,List.set_cons_succ,List.getElem_toArray,List.getElem_cons_zero,List.getElem_cons_succ])))
    | (refine wpAnyH_ready (rs:=[0,7]) (by decide +kernel) (by simp) ?_;refine (AllReadyH.cons rfl (fun K hK=>?_) (AllReadyH.cons rfl (fun K hK=>?_) AllReadyH.nil));all_goals (go_simp;(try (go_at_call 81;refine (spec_FormatInt_c _ _ (by omega) (by omega)).mono ?_;rintro e wq ⟨rfl,hbq⟩;first | (have hcc:=bCell hbq (cells_d (k:=4) rfl)) | (have hcc:=bCell hbq (cells_a (k:=4) rfl)) | skip));refine hK.out _ _ ?_ (fun hHeld=>?_);(focus (first | go_keep | (obtain ⟨k0,k1,k2,k3,k4,k5,k6,k7⟩:=hHeld;exact ⟨bCell hbq k0,bCell hbq k1,bCell hbq k2,bCell hbq k3,bCell hbq k4,bCell hbq k5,bCell hbq k6,bCell hbq k7⟩)));clear hK K;(try simp only [Act.put,List.setIfInBounds_toArray,List.set_cons_zero,List.set_cons_succ,List.getElem_toArray,List.getElem_cons_zero,List.getElem_cons_succ])))
    | (refine wpAnyH_ready (rs:=[4,7]) (by decide +kernel) (by simp) ?_;refine (AllReadyH.cons rfl (fun K hK=>?_) (AllReadyH.cons rfl (fun K hK=>?_) AllReadyH.nil));all_goals (go_simp;(try (go_at_call 81;refine (spec_FormatInt_c _ _ (by omega) (by omega)).mono ?_;rintro e wq ⟨rfl,hbq⟩;first | (have hcc:=bCell hbq (cells_d (k:=4) rfl)) | (have hcc:=bCell hbq (cells_a (k:=4) rfl)) | skip));refine hK.out _ _ ?_ (fun hHeld=>?_);(focus (first | go_keep | (obtain ⟨k0,k1,k2,k3,k4,k5,k6,k7⟩:=hHeld;exact ⟨bCell hbq k0,bCell hbq k1,bCell hbq k2,bCell hbq k3,bCell hbq k4,bCell hbq k5,bCell hbq k6,bCell hbq k7⟩)));clear hK K;(try simp only [Act.put,List.setIfInBounds_toArray,List.set_cons_zero,List.set_cons_succ,List.getElem_toArray,List.getElem_cons_zero,List.getElem_cons_succ])))
    | (refine wpAnyH_ready (rs:=[0]) (by decide +kernel) (by simp) ?_;refine (AllReadyH.cons rfl (fun K hK=>?_) AllReadyH.nil);all_goals (go_simp;(try (go_at_call 81;refine (spec_FormatInt_c _ _ (by omega) (by omega)).mono ?_;rintro e wq ⟨rfl,hbq⟩;first | (have hcc:=bCell hbq (cells_d (k:=4) rfl)) | (have hcc:=bCell hbq (cells_a (k:=4) rfl)) | skip));refine hK.out _ _ ?_ (fun hHeld=>?_);(focus (first | go_keep | (obtain ⟨k0,k1,k2,k3,k4,k5,k6,k7⟩:=hHeld;exact ⟨bCell hbq k0,bCell hbq k1,bCell hbq k2,bCell hbq k3,bCell hbq k4,bCell hbq k5,bCell hbq k6,bCell hbq k7⟩)));clear hK K;(try simp only [Act.put,List.setIfInBounds_toArray,List.set_cons_zero,List.set_cons_succ,List.getElem_toArray,List.getElem_cons_zero,List.getElem_cons_succ])))
    | (refine wpAnyH_ready (rs:=[4]) (by decide +kernel) (by simp) ?_;refine (AllReadyH.cons rfl (fun K hK=>?_) AllReadyH.nil);all_goals (go_simp;(try (go_at_call 81;refine (spec_FormatInt_c _ _ (by omega) (by omega)).mono ?_;rintro e wq ⟨rfl,hbq⟩;first | (have hcc:=bCell hbq (cells_d (k:=4) rfl)) | (have hcc:=bCell hbq (cells_a (k:=4) rfl)) | skip));refine hK.out _ _ ?_ (fun hHeld=>?_);(focus (first | go_keep | (obtain ⟨k0,k1,k2,k3,k4,k5,k6,k7⟩:=hHeld;exact ⟨bCell hbq k0,bCell hbq k1,bCell hbq k2,bCell hbq k3,bCell hbq k4,bCell hbq k5,bCell hbq k6,bCell hbq k7⟩)));clear hK K;(try simp only [Act.put,List.setIfInBounds_toArray,List.set_cons_zero,List.set_cons_succ,List.getElem_toArray,List.getElem_cons_zero,List.getElem_cons_succ])))
    | (refine wpAnyH_ready (rs:=[7]) (by decide +kernel) (by simp) ?_;refine (AllReadyH.cons rfl (fun K hK=>?_) AllReadyH.nil);all_goals (go_simp;(try (go_at_call 81;refine (spec_FormatInt_c _ _ (by omega) (by omega)).mono ?_;rintro e wq ⟨rfl,hbq⟩;first | (have hcc:=bCell hbq (cells_d (k:=4) rfl)) | (have hcc:=bCell hbq (cells_a (k:=4) rfl)) | skip));refine hK.out _ _ ?_ (fun hHeld=>?_);(focus (first | go_keep | (obtain ⟨k0,k1,k2,k3,k4,k5,k6,k7⟩:=hHeld;exact ⟨bCell hbq k0,bCell hbq k1,bCell hbq k2,bCell hbq k3,bCell hbq k4,bCell hbq k5,bCell hbq k6,bCell hbq k7⟩)));clear hK K;(try simp only [Act.put,List.setIfInBounds_toArray,List.set_cons_zero,List.set_cons_succ,List.getElem_toArray,List.getElem_cons_zero,List.getElem_cons_succ])))
    | skip))
  all_goals
    obtain ⟨k0,k1,k2,k3,k4,k5,k6,k7⟩:=hHeld
    go_wp2_with fail
    refine region_at fun W hW=>?_
    have hwc:Below w.heap.size w W:=by rw [hW.out];repeat (first | with_reducible exact Below.refl _ _ | with_reducible exact hwb | with_reducible refine bAlloc ?_ _ | with_reducible refine bDrew ?_ | with_reducible refine bTrans ?_ (by with_reducible assumption))
    clear g0 g1 g2 g3 g4 g5 g6 g7
    have g0:=cell_regrown (show W.cell? ⟨w.heap.size,0,none⟩=some (.int .i64 id) by rw [hW.out];exact k0)
    have g1:=cell_regrown (show W.cell? ⟨w.heap.size,1,none⟩=some (.int .i64 4) by rw [hW.out];exact k1)
    have g2:=cell_regrown (show W.cell? ⟨w.heap.size,2,none⟩=some (.string fr) by rw [hW.out];exact k2)
    have g3:=cell_regrown (show W.cell? ⟨w.heap.size,3,none⟩=some (.string to) by rw [hW.out];exact k3)
    have g4:=cell_regrown (show W.cell? ⟨w.heap.size,4,none⟩=some (.int .i64 t) by rw [hW.out];exact k4)
    have g5:=cell_regrown (show W.cell? ⟨w.heap.size,5,none⟩=some (.int .i64 x) by rw [hW.out];exact k5)
    have g6:=cell_regrown (show W.cell? ⟨w.heap.size,6,none⟩=some (.int .i64 y) by rw [hW.out];exact k6)
    have g7:=cell_regrown (show W.cell? ⟨w.heap.size,7,none⟩=some (.int .i64 wt) by rw [hW.out];exact k7)
    have cV:∀ d os,Calls Tryz.prog 163 #[vPose t x y] (Go.Sort.grow (redrawn W d) os) fun e w2=>e=.returned (.string (fmtPose t x y))∧∃ p:Regrown,w2=Go.Sort.grow (redrawn W p.d) p.os:=fun d os=>Calls.regrown_of (spec_FormatPose_c t x y _)
    have cW:∀ d os,Calls Tryz.prog 81 #[.int .i64 wt] (Go.Sort.grow (redrawn W d) os) fun e w2=>e=.returned (.string (itoaB wt))∧∃ p:Regrown,w2=Go.Sort.grow (redrawn W p.d) p.os:=fun d os=>Calls.regrown_of (spec_FormatInt_c wt _ (by omega) (by omega))
    clear hW k0 k1 k2 k3 k4 k5 k6 k7
    refine wp_region_quiet_below (by kernel_rfl) (by kernel_rfl) ?_
    repeat (go_big_quiet_step (first | exact cV _ _ | exact cW _ _))
    refine wpQuiet_nil ?_
    intro _ hw
    obtain ⟨⟨dq,osq⟩,hw⟩:=hw
    subst hw
    have hbq9:=bTrans hwc (below_regrown W dq osq)
    clear g0 g1 g2 g3 g4 g5 g6 g7 cV cW
    go_wp2
    go_ret
    exact ⟨by rw [hfin.out];rfl,hbq9⟩
theorem spec_FormatFactor_b (id kind:Int) (fr to:ByteArray) (t x y wt:Int) (w:World) (hf:fr.size≤4194304) (ht:to.size≤4194304) :
    Calls Tryz.prog 121 #[vFactor id kind fr to t x y wt] w fun e w'=>e=.returned (.string (fmtFac ⟨id,kind,fr,to,⟨t,x,y⟩,wt⟩))∧Below w.heap.size w w':=by
  cases hv:vldFactor ⟨id,kind,fr,to,⟨t,x,y⟩,wt⟩
  · have hfin:Hid (fmtFac ⟨id,kind,fr,to,⟨t,x,y⟩,wt⟩=⟨#[]⟩):=by simp [Hid,fmtFac,hv]
    have HV:=Lib.hid hv
    clear hv
    go_enter Tryz.func121,Tryz.ntmps121
    go_wp2_with (go_at_call 150;refine (spec_IsValidFactor_b _ _ _ _ _ _ _ _ _ hf ht).mono ?_;rw [HV.out];rintro e w1 ⟨rfl,hb1⟩;obtain ⟨hc,hfz⟩:=bcell hb1)
    go_ret
    exact ⟨by rw [hfin.out];rfl,bTrans (bAlloc (Below.refl _ _) _) hb1⟩
  · obtain ⟨_,_,_,hk,_⟩:=vld_parts hv
    dsimp only at hk
    obtain rfl | rfl | rfl | rfl:=hk
    · exact spec_FormatFactor_1 id fr to t x y wt w hv
    · exact spec_FormatFactor_2 id fr to t x y wt w hv
    · exact spec_FormatFactor_3 id fr to t x y wt w hv
    · exact spec_FormatFactor_4 id fr to t x y wt w hv
theorem spec_FormatFactor_c (id kind:Int) (fr to:ByteArray) (t x y wt:Int) (w:World) (hf:fr.size≤4194304) (ht:to.size≤4194304) :
    Calls Tryz.prog 121 #[vFactor id kind fr to t x y wt] w fun e w'=>e=.returned (.string (fmtFac ⟨id,kind,fr,to,⟨t,x,y⟩,wt⟩))∧Below w.heap.size w w' :=
  spec_FormatFactor_b id kind fr to t x y wt w (Nat.le_trans hf (by decide)) (Nat.le_trans ht (by decide))
theorem kindWord_1 (w:World):Calls Tryz.prog 95 #[.int .i64 1] w fun e w'=>e=.returned (.string ⟨#[112,114,105,111,114]⟩)∧Below w.heap.size w w':=by
  go_enter Tryz.func95,Tryz.ntmps95
  go_wp2
  all_goals (go_ret;exact ⟨rfl,Below.refl _ _⟩)
theorem kindWord_2 (w:World):Calls Tryz.prog 95 #[.int .i64 2] w fun e w'=>e=.returned (.string ⟨#[111,100,111,109,101,116,114,121]⟩)∧Below w.heap.size w w':=by
  go_enter Tryz.func95,Tryz.ntmps95
  go_wp2
  all_goals (go_ret;exact ⟨rfl,Below.refl _ _⟩)
theorem kindWord_3 (w:World):Calls Tryz.prog 95 #[.int .i64 3] w fun e w'=>e=.returned (.string ⟨#[108,97,110,100,109,97,114,107]⟩)∧Below w.heap.size w w':=by
  go_enter Tryz.func95,Tryz.ntmps95
  go_wp2
  all_goals (go_ret;exact ⟨rfl,Below.refl _ _⟩)
theorem kindWord_4 (w:World):Calls Tryz.prog 95 #[.int .i64 4] w fun e w'=>e=.returned (.string ⟨#[108,111,111,112]⟩)∧Below w.heap.size w w':=by
  go_enter Tryz.func95,Tryz.ntmps95
  go_wp2
  all_goals (go_ret;exact ⟨rfl,Below.refl _ _⟩)
end Go.Proofs.YtdfemnffpaopfaaGreatDoor
