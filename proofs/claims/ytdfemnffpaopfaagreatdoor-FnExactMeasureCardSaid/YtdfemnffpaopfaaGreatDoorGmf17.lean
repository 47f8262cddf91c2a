/- Texts of this proof, one behind the other: FmtPI, FmtP0, FmtP1, FmtP2, FmtP3, FmtPS. -/
import Derived.Test.YtdfemnffpaopfaaGreatDoorGmf16
namespace Go.Proofs.YtdfemnffpaopfaaGreatDoor
open Go.RowKit
set_option linter.unusedVariables false
set_option linter.unusedSimpArgs false
set_option maxHeartbeats 1000000
set_option maxRecDepth 100000
theorem impl_FormatPose_0 (x y:Int) (w:World) (hv:vldPose 0 x y=true) (hT:Tab w):Calls Tryz.prog 96 #[vPose 0 x y] w fun e w'=>e=.returned (.string (fmtPose 0 x y))∧Below w.heap.size w w':=by
  have HV:=Lib.hid hv
  have HT:=Lib.hid hT
  clear hT
  obtain ⟨x0,x1,y0,y1⟩:-1000000≤x∧x≤1000000∧-1000000≤y∧y≤1000000:=by
    simp [vldPose,inR] at hv;omega
  obtain ⟨s2,e2,z2,c2⟩:=cat (itoaB x) ⟨#[44]⟩ 21 1 (itoaB_size (by omega) (by omega)) (Nat.le_refl _) (by omega)
  obtain ⟨s3,e3,z3,c3⟩:=cat s2 (itoaB y) _ 21 z2 (itoaB_size (by omega) (by omega)) (by omega)
  obtain ⟨s4,e4,z4,c4⟩:=cat s3 ⟨#[44]⟩ _ 1 z3 (Nat.le_refl _) (by omega)
  obtain ⟨s5,e5,z5,c5⟩:=cat s4 ⟨#[turnB 0]⟩ _ 1 z4 (Nat.le_refl _) (by omega)
  have hfin:Hid (fmtPose 0 x y=s5):=by
    simp only [Hid,fmtPose,HV.out,if_true]
    rw [← e5.out,← e4.out,← e3.out,← e2.out]
    apply bext
    simp [poseL,itoaB,ByteArray.data_append]
  have ht:(turnB 0)=101:=rfl
  rw [ht] at c5
  clear z2 z3 z4 z5 ht hv
  go_enter Tryz.func96,Tryz.ntmps96
  go_wp2_with (go_at_call 143;refine (impl_IsValidPose_c _ _ _ _).mono ?_;rw [HV.out];rintro e w1 ⟨rfl,hb1⟩;obtain ⟨hc,hfz⟩:=bcell hb1)
  refine region_at fun R hR=>?_
  have hwb:Below w.heap.size w R:=by rw [hR.out];exact bTrans (bAlloc (Below.refl _ _) _) hb1
  have g0:=cell_regrown (show R.cell? ⟨w.heap.size,0,none⟩=some (.int .i64 0) by rw [hR.out];exact bCell hb1 (cells_a rfl))
  have g1:=cell_regrown (show R.cell? ⟨w.heap.size,1,none⟩=some (.int .i64 x) by rw [hR.out];exact bCell hb1 (cells_a rfl))
  have g2:=cell_regrown (show R.cell? ⟨w.heap.size,2,none⟩=some (.int .i64 y) by rw [hR.out];exact bCell hb1 (cells_a rfl))
  have tR:=(HT.out).below hwb
  have cV:∀ d os,Calls Tryz.prog 45 #[.int .i64 x] (Go.Sort.grow (redrawn R d) os) fun e w2=>e=.returned (.string (itoaB x))∧∃ p:Regrown,w2=Go.Sort.grow (redrawn R p.d) p.os:=fun d os=>Calls.regrown_of (impl_FormatInt_c x _ (by omega) (by omega) (tR.below (below_regrown R d os)))
  have cW:∀ d os,Calls Tryz.prog 45 #[.int .i64 y] (Go.Sort.grow (redrawn R d) os) fun e w2=>e=.returned (.string (itoaB y))∧∃ p:Regrown,w2=Go.Sort.grow (redrawn R p.d) p.os:=fun d os=>Calls.regrown_of (impl_FormatInt_c y _ (by omega) (by omega) (tR.below (below_regrown R d os)))
  have hx:(ByteArray.mk #[101,110,119,115]).extract 0 1=⟨#[101]⟩:=by apply bext;rfl
  clear hR hc hfz tR hb1
  refine wp_region_quiet_below (by kernel_rfl) (by kernel_rfl) ?_
  repeat (go_big_quiet_step (first | exact cV _ _ | exact cW _ _))
  refine wpQuiet_nil ?_
  intro _ hw
  obtain ⟨⟨dq,osq⟩,hw⟩:=hw
  subst hw
  have hbq:=bTrans hwb (below_regrown R dq osq)
  clear g0 g1 g2 cV cW
  go_wp2
  go_ret
  exact ⟨by rw [hfin.out];rfl,hbq⟩
theorem impl_FormatPose_1 (x y:Int) (w:World) (hv:vldPose 1 x y=true) (hT:Tab w):Calls Tryz.prog 96 #[vPose 1 x y] w fun e w'=>e=.returned (.string (fmtPose 1 x y))∧Below w.heap.size w w':=by
  have HV:=Lib.hid hv
  have HT:=Lib.hid hT
  clear hT
  obtain ⟨x0,x1,y0,y1⟩:-1000000≤x∧x≤1000000∧-1000000≤y∧y≤1000000:=by
    simp [vldPose,inR] at hv;omega
  obtain ⟨s2,e2,z2,c2⟩:=cat (itoaB x) ⟨#[44]⟩ 21 1 (itoaB_size (by omega) (by omega)) (Nat.le_refl _) (by omega)
  obtain ⟨s3,e3,z3,c3⟩:=cat s2 (itoaB y) _ 21 z2 (itoaB_size (by omega) (by omega)) (by omega)
  obtain ⟨s4,e4,z4,c4⟩:=cat s3 ⟨#[44]⟩ _ 1 z3 (Nat.le_refl _) (by omega)
  obtain ⟨s5,e5,z5,c5⟩:=cat s4 ⟨#[turnB 1]⟩ _ 1 z4 (Nat.le_refl _) (by omega)
  have hfin:Hid (fmtPose 1 x y=s5):=by
    simp only [Hid,fmtPose,HV.out,if_true]
    rw [← e5.out,← e4.out,← e3.out,← e2.out]
    apply bext
    simp [poseL,itoaB,ByteArray.data_append]
  have ht:(turnB 1)=110:=rfl
  rw [ht] at c5
  clear z2 z3 z4 z5 ht hv
  go_enter Tryz.func96,Tryz.ntmps96
  go_wp2_with (go_at_call 143;refine (impl_IsValidPose_c _ _ _ _).mono ?_;rw [HV.out];rintro e w1 ⟨rfl,hb1⟩;obtain ⟨hc,hfz⟩:=bcell hb1)
  refine region_at fun R hR=>?_
  have hwb:Below w.heap.size w R:=by rw [hR.out];exact bTrans (bAlloc (Below.refl _ _) _) hb1
  have g0:=cell_regrown (show R.cell? ⟨w.heap.size,0,none⟩=some (.int .i64 1) by rw [hR.out];exact bCell hb1 (cells_a rfl))
  have g1:=cell_regrown (show R.cell? ⟨w.heap.size,1,none⟩=some (.int .i64 x) by rw [hR.out];exact bCell hb1 (cells_a rfl))
  have g2:=cell_regrown (show R.cell? ⟨w.heap.size,2,none⟩=some (.int .i64 y) by rw [hR.out];exact bCell hb1 (cells_a rfl))
  have tR:=(HT.out).below hwb
  have cV:∀ d os,Calls Tryz.prog 45 #[.int .i64 x] (Go.Sort.grow (redrawn R d) os) fun e w2=>e=.returned (.string (itoaB x))∧∃ p:Regrown,w2=Go.Sort.grow (redrawn R p.d) p.os:=fun d os=>Calls.regrown_of (impl_FormatInt_c x _ (by omega) (by omega) (tR.below (below_regrown R d os)))
  have cW:∀ d os,Calls Tryz.prog 45 #[.int .i64 y] (Go.Sort.grow (redrawn R d) os) fun e w2=>e=.returned (.string (itoaB y))∧∃ p:Regrown,w2=Go.Sort.grow (redrawn R p.d) p.os:=fun d os=>Calls.regrown_of (impl_FormatInt_c y _ (by omega) (by omega) (tR.below (below_regrown R d os)))
  have hx:(ByteArray.mk #[101,110,119,115]).extract 1 2=⟨#[110]⟩:=by apply bext;rfl
  clear hR hc hfz tR hb1
  refine wp_region_quiet_below (by kernel_rfl) (by kernel_rfl) ?_
  repeat (go_big_quiet_step (first | exact cV _ _ | exact cW _ _))
  refine wpQuiet_nil ?_
  intro _ hw
  obtain ⟨⟨dq,osq⟩,hw⟩:=hw
  subst hw
  have hbq:=bTrans hwb (below_regrown R dq osq)
  clear g0 g1 g2 cV cW
  go_wp2
  go_ret
  exact ⟨by rw [hfin.out];rfl,hbq⟩
theorem impl_FormatPose_2 (x y:Int) (w:World) (hv:vldPose 2 x y=true) (hT:Tab w):Calls Tryz.prog 96 #[vPose 2 x y] w fun e w'=>e=.returned (.string (fmtPose 2 x y))∧Below w.heap.size w w':=by
  have HV:=Lib.hid hv
  have HT:=Lib.hid hT
  clear hT
  obtain ⟨x0,x1,y0,y1⟩:-1000000≤x∧x≤1000000∧-1000000≤y∧y≤1000000:=by
    simp [vldPose,inR] at hv;omega
  obtain ⟨s2,e2,z2,c2⟩:=cat (itoaB x) ⟨#[44]⟩ 21 1 (itoaB_size (by omega) (by omega)) (Nat.le_refl _) (by omega)
  obtain ⟨s3,e3,z3,c3⟩:=cat s2 (itoaB y) _ 21 z2 (itoaB_size (by omega) (by omega)) (by omega)
  obtain ⟨s4,e4,z4,c4⟩:=cat s3 ⟨#[44]⟩ _ 1 z3 (Nat.le_refl _) (by omega)
  obtain ⟨s5,e5,z5,c5⟩:=cat s4 ⟨#[turnB 2]⟩ _ 1 z4 (Nat.le_refl _) (by omega)
  have hfin:Hid (fmtPose 2 x y=s5):=by
    simp only [Hid,fmtPose,HV.out,if_true]
    rw [← e5.out,← e4.out,← e3.out,← e2.out]
    apply bext
    simp [poseL,itoaB,ByteArray.data_append]
  have ht:(turnB 2)=119:=rfl
  rw [ht] at c5
  clear z2 z3 z4 z5 ht hv
  go_enter Tryz.func96,Tryz.ntmps96
  go_wp2_with (go_at_call 143;refine (impl_IsValidPose_c _ _ _ _).mono ?_;rw [HV.out];rintro e w1 ⟨rfl,hb1⟩;obtain ⟨hc,hfz⟩:=bcell hb1)
  refine region_at fun R hR=>?_
  have hwb:Below w.heap.size w R:=by rw [hR.out];exact bTrans (bAlloc (Below.refl _ _) _) hb1
  have g0:=cell_regrown (show R.cell? ⟨w.heap.size,0,none⟩=some (.int .i64 2) by rw [hR.out];exact bCell hb1 (cells_a rfl))
  have g1:=cell_regrown (show R.cell? ⟨w.heap.size,1,none⟩=some (.int .i64 x) by rw [hR.out];exact bCell hb1 (cells_a rfl))
  have g2:=cell_regrown (show R.cell? ⟨w.heap.size,2,none⟩=some (.int .i64 y) by rw [hR.out];exact bCell hb1 (cells_a rfl))
  have tR:=(HT.out).below hwb
  have cV:∀ d os,Calls Tryz.prog 45 #[.int .i64 x] (Go.Sort.grow (redrawn R d) os) fun e w2=>e=.returned (.string (itoaB x))∧∃ p:Regrown,w2=Go.Sort.grow (redrawn R p.d) p.os:=fun d os=>Calls.regrown_of (impl_FormatInt_c x _ (by omega) (by omega) (tR.below (below_regrown R d os)))
  have cW:∀ d os,Calls Tryz.prog 45 #[.int .i64 y] (Go.Sort.grow (redrawn R d) os) fun e w2=>e=.returned (.string (itoaB y))∧∃ p:Regrown,w2=Go.Sort.grow (redrawn R p.d) p.os:=fun d os=>Calls.regrown_of (impl_FormatInt_c y _ (by omega) (by omega) (tR.below (below_regrown R d os)))
  have hx:(ByteArray.mk #[101,110,119,115]).extract 2 3=⟨#[119]⟩:=by apply bext;rfl
  clear hR hc hfz tR hb1
  refine wp_region_quiet_below (by kernel_rfl) (by kernel_rfl) ?_
  repeat (go_big_quiet_step (first | exact cV _ _ | exact cW _ _))
  refine wpQuiet_nil ?_
  intro _ hw
  obtain ⟨⟨dq,osq⟩,hw⟩:=hw
  subst hw
  have hbq:=bTrans hwb (below_regrown R dq osq)
  clear g0 g1 g2 cV cW
  go_wp2
  go_ret
  exact ⟨by rw [hfin.out];rfl,hbq⟩
theorem impl_FormatPose_3 (x y:Int) (w:World) (hv:vldPose 3 x y=true) (hT:Tab w):Calls Tryz.prog 96 #[vPose 3 x y] w fun e w'=>e=.returned (.string (fmtPose 3 x y))∧Below w.heap.size w w':=by
  have HV:=Lib.hid hv
  have HT:=Lib.hid hT
  clear hT
  obtain ⟨x0,x1,y0,y1⟩:-1000000≤x∧x≤1000000∧-1000000≤y∧y≤1000000:=by
    simp [vldPose,inR] at hv;omega
  obtain ⟨s2,e2,z2,c2⟩:=cat (itoaB x) ⟨#[44]⟩ 21 1 (itoaB_size (by omega) (by omega)) (Nat.le_refl _) (by omega)
  obtain ⟨s3,e3,z3,c3⟩:=cat s2 (itoaB y) _ 21 z2 (itoaB_size (by omega) (by omega)) (by omega)
  obtain ⟨s4,e4,z4,c4⟩:=cat s3 ⟨#[44]⟩ _ 1 z3 (Nat.le_refl _) (by omega)
  obtain ⟨s5,e5,z5,c5⟩:=cat s4 ⟨#[turnB 3]⟩ _ 1 z4 (Nat.le_refl _) (by omega)
  have hfin:Hid (fmtPose 3 x y=s5):=by
    simp only [Hid,fmtPose,HV.out,if_true]
    rw [← e5.out,← e4.out,← e3.out,← e2.out]
    apply bext
    simp [poseL,itoaB,ByteArray.data_append]
  have ht:(turnB 3)=115:=rfl
  rw [ht] at c5
  clear z2 z3 z4 z5 ht hv
  go_enter Tryz.func96,Tryz.ntmps96
  go_wp2_with (go_at_call 143;refine (impl_IsValidPose_c _ _ _ _).mono ?_;rw [HV.out];rintro e w1 ⟨rfl,hb1⟩;obtain ⟨hc,hfz⟩:=bcell hb1)
  refine region_at fun R hR=>?_
  have hwb:Below w.heap.size w R:=by rw [hR.out];exact bTrans (bAlloc (Below.refl _ _) _) hb1
  have g0:=cell_regrown (show R.cell? ⟨w.heap.size,0,none⟩=some (.int .i64 3) by rw [hR.out];exact bCell hb1 (cells_a rfl))
  have g1:=cell_regrown (show R.cell? ⟨w.heap.size,1,none⟩=some (.int .i64 x) by rw [hR.out];exact bCell hb1 (cells_a rfl))
  have g2:=cell_regrown (show R.cell? ⟨w.heap.size,2,none⟩=some (.int .i64 y) by rw [hR.out];exact bCell hb1 (cells_a rfl))
  have tR:=(HT.out).below hwb
  have cV:∀ d os,Calls Tryz.prog 45 #[.int .i64 x] (Go.Sort.grow (redrawn R d) os) fun e w2=>e=.returned (.string (itoaB x))∧∃ p:Regrown,w2=Go.Sort.grow (redrawn R p.d) p.os:=fun d os=>Calls.regrown_of (impl_FormatInt_c x _ (by omega) (by omega) (tR.below (below_regrown R d os)))
  have cW:∀ d os,Calls Tryz.prog 45 #[.int .i64 y] (Go.Sort.grow (redrawn R d) os) fun e w2=>e=.returned (.string (itoaB y))∧∃ p:Regrown,w2=Go.Sort.grow (redrawn R p.d) p.os:=fun d os=>Calls.regrown_of (impl_FormatInt_c y _ (by omega) (by omega) (tR.below (below_regrown R d os)))
  have hx:(ByteArray.mk #[101,110,119,115]).extract 3 4=⟨#[115]⟩:=by apply bext;rfl
  clear hR hc hfz tR hb1
  refine wp_region_quiet_below (by kernel_rfl) (by kernel_rfl) ?_
  repeat (go_big_quiet_step (first | exact cV _ _ | exact cW _ _))
  refine wpQuiet_nil ?_
  intro _ hw
  obtain ⟨⟨dq,osq⟩,hw⟩:=hw
  subst hw
  have hbq:=bTrans hwb (below_regrown R dq osq)
  clear g0 g1 g2 cV cW
  go_wp2
  go_ret
  exact ⟨by rw [hfin.out];rfl,hbq⟩
theorem impl_FormatPose_c (t x y:Int) (w:World) (hT:Tab w):Calls Tryz.prog 96 #[vPose t x y] w fun e w'=>e=.returned (.string (fmtPose t x y))∧Below w.heap.size w w':=by
  cases hv:vldPose t x y
  · have hfin:Hid (fmtPose t x y=⟨#[]⟩):=by simp [Hid,fmtPose,hv]
    have HV:=Lib.hid hv
    clear hv
    go_enter Tryz.func96,Tryz.ntmps96
    go_wp2_with (go_at_call 143;refine (impl_IsValidPose_c _ _ _ _).mono ?_;rw [HV.out];rintro e w1 ⟨rfl,hb1⟩;obtain ⟨hc,hfz⟩:=bcell hb1)
    go_ret
    exact ⟨by rw [hfin.out];rfl,bTrans (bAlloc (Below.refl _ _) _) hb1⟩
  · obtain ⟨t0,t1⟩:0≤t∧t≤3:=by
      simp [vldPose,inR] at hv;omega
    obtain rfl | rfl | rfl | rfl:t=0∨t=1∨t=2∨t=3:=by omega
    · exact impl_FormatPose_0 x y w hv hT
    · exact impl_FormatPose_1 x y w hv hT
    · exact impl_FormatPose_2 x y w hv hT
    · exact impl_FormatPose_3 x y w hv hT
theorem spec_FormatPose_0 (x y:Int) (w:World) (hv:vldPose 0 x y=true):Calls Tryz.prog 163 #[vPose 0 x y] w fun e w'=>e=.returned (.string (fmtPose 0 x y))∧Below w.heap.size w w':=by
  have HV:=Lib.hid hv
  obtain ⟨x0,x1,y0,y1⟩:-1000000≤x∧x≤1000000∧-1000000≤y∧y≤1000000:=by
    simp [vldPose,inR] at hv;omega
  obtain ⟨s2,e2,z2,c2⟩:=cat (itoaB x) ⟨#[44]⟩ 21 1 (itoaB_size (by omega) (by omega)) (Nat.le_refl _) (by omega)
  obtain ⟨s3,e3,z3,c3⟩:=cat s2 (itoaB y) _ 21 z2 (itoaB_size (by omega) (by omega)) (by omega)
  obtain ⟨s4,e4,z4,c4⟩:=cat s3 ⟨#[44]⟩ _ 1 z3 (Nat.le_refl _) (by omega)
  obtain ⟨s5,e5,z5,c5⟩:=cat s4 ⟨#[turnB 0]⟩ _ 1 z4 (Nat.le_refl _) (by omega)
  have hfin:Hid (fmtPose 0 x y=s5):=by
    simp only [Hid,fmtPose,HV.out,if_true]
    rw [← e5.out,← e4.out,← e3.out,← e2.out]
    apply bext
    simp [poseL,itoaB,ByteArray.data_append]
  have ht:(turnB 0)=101:=rfl
  rw [ht] at c5
  clear z2 z3 z4 z5 ht hv
  go_enter Tryz.func163,Tryz.ntmps163
  go_wp2_with (go_at_call 172;refine (spec_IsValidPose_c _ _ _ _).mono ?_;rw [HV.out];rintro e w1 ⟨rfl,hb1⟩;obtain ⟨hc,hfz⟩:=bcell hb1)
  refine region_at fun R hR=>?_
  have hwb:Below w.heap.size w R:=by rw [hR.out];exact bTrans (bAlloc (Below.refl _ _) _) hb1
  have g0:R.cell? ⟨w.heap.size,0,none⟩=some (.int .i64 0):=by rw [hR.out];exact bCell hb1 (cells_a rfl)
  have g1:R.cell? ⟨w.heap.size,1,none⟩=some (.int .i64 x):=by rw [hR.out];exact bCell hb1 (cells_a rfl)
  have g2:R.cell? ⟨w.heap.size,2,none⟩=some (.int .i64 y):=by rw [hR.out];exact bCell hb1 (cells_a rfl)
  clear hR hc hfz
  refine wp_region_noPanic ?_
  refine wp_region_held_drew (S:=fun w'=>w'.cell? ⟨w.heap.size,0,none⟩=some (.int .i64 0)∧w'.cell? ⟨w.heap.size,1,none⟩=some (.int .i64 x)∧w'.cell? ⟨w.heap.size,2,none⟩=some (.int .i64 y)) (by kernel_rfl) (by (try dsimp only);(first | go_keep | (obtain ⟨s0,s1,s2⟩:=hHeld;exact ⟨bCell hbq s0,bCell hbq s1,bCell hbq s2⟩))) (fun hHeld=>?_)
  iterate 18 (all_goals (first
    | (refine wpAnyH_done (by decide +kernel) ?_ _;refine NoPanic.normal ?_;have hend:=trivial)
    | (refine wpAnyH_take (i:=0) (v:=?_) rfl (by kernel_rfl) (by decide +kernel) (by decide +kernel) (fun _ _ _ h=>h) (Or.inl ⟨by rfl,?_⟩) (by assumption) ?_;rotate_left;(focus (intro w hSw;(try dsimp only at hSw);go_simp;try (with_reducible rfl)));(try simp only [Act.put,List.setIfInBounds_toArray,List.set_cons_zero,List.set_cons_succ,List.getElem_toArray,List.getElem_cons_zero,List.getElem_cons_succ]))
    | (refine wpAnyH_take (i:=1) (v:=?_) rfl (by kernel_rfl) (by decide +kernel) (by decide +kernel) (fun _ _ _ h=>h) (Or.inl ⟨by rfl,?_⟩) (by assumption) ?_;rotate_left;(focus (intro w hSw;(try dsimp only at hSw);go_simp;try (with_reducible rfl)));(try simp only [Act.put,List.setIfInBounds_toArray,List.set_cons_zero,List.set_cons_succ,List.getElem_toArray,List.getElem_cons_zero,List.getElem_cons_succ]))
    | (refine wpAnyH_take (i:=4) (v:=?_) rfl (by kernel_rfl) (by decide +kernel) (by decide +kernel) (fun _ _ _ h=>h) (Or.inl ⟨by rfl,?_⟩) (by assumption) ?_;rotate_left;(focus (intro w hSw;(try dsimp only at hSw);go_simp;try (with_reducible rfl)));(try simp only [Act.put,List.setIfInBounds_toArray,List.set_cons_zero,List.set_cons_succ,List.getElem_toArray,List.getElem_cons_zero,List.getElem_cons_succ]))
    | (refine wpAnyH_take (i:=5) (v:=?_) rfl (by kernel_rfl) (by decide +kernel) (by decide +kernel) (fun _ _ _ h=>h) (Or.inl ⟨by rfl,?_⟩) (by assumption) ?_;rotate_left;(focus (intro w hSw;(try dsimp only at hSw);go_simp;try (with_reducible rfl)));(try simp only [Act.put,List.setIfInBounds_toArray,List.set_cons_zero,List.set_cons_succ,List.getElem_toArray,List.getElem_cons_zero,List.getElem_cons_succ]))
    | (refine wpAnyH_take (i:=10) (v:=?_) rfl (by kernel_rfl) (by decide +kernel) (by decide +kernel) (fun _ _ _ h=>h) (Or.inl ⟨by rfl,?_⟩) (by assumption) ?_;rotate_left;(focus (intro w hSw;(try dsimp only at hSw);go_simp;try (with_reducible rfl)));(try simp only [Act.put,List.setIfInBounds_toArray,List.set_cons_zero,List.set_cons_succ,List.getElem_toArray,List.getElem_cons_zero,List.getElem_cons_succ]))
    | (refine wpAnyH_take (i:=11) (v:=?_) rfl (by kernel_rfl) (by decide +kernel) (by decide +kernel) (fun _ _ _ h=>h) (Or.inl ⟨by rfl,?_⟩) (by assumption) ?_;rotate_left;(focus (intro w hSw;(try dsimp only at hSw);go_simp;try (with_reducible rfl)));(try simp only [Act.put,List.setIfInBounds_toArray,List.set_cons_zero,List.set_cons_succ,List.getElem_toArray,List.getElem_cons_zero,List.getElem_cons_succ]))
    | (refine wpAnyH_take (i:=3) (v:=?_) rfl (by kernel_rfl) (by decide +kernel) (by decide +kernel) (fun _ _ _ h=>h) (Or.inl ⟨by rfl,?_⟩) (by assumption) ?_;rotate_left;(focus (intro w hSw;(try dsimp only at hSw);go_simp;try (with_reducible rfl)));(try simp only [Act.put,List.setIfInBounds_toArray,List.set_cons_zero,List.set_cons_succ,List.getElem_toArray,List.getElem_cons_zero,List.getElem_cons_succ]))
    | (refine wpAnyH_take (i:=7) (v:=?_) rfl (by kernel_rfl) (by decide +kernel) (by decide +kernel) (fun _ _ _ h=>h) (Or.inl ⟨by rfl,?_⟩) (by assumption) ?_;rotate_left;(focus (intro w hSw;(try dsimp only at hSw);go_simp;try (with_reducible rfl)));(try simp only [Act.put,List.setIfInBounds_toArray,List.set_cons_zero,List.set_cons_succ,List.getElem_toArray,List.getElem_cons_zero,List.getElem_cons_succ]))
    | (refine wpAnyH_take (i:=8) (v:=?_) rfl (by kernel_rfl) (by decide +kernel) (by decide +kernel) (fun _ _ _ h=>h) (Or.inl ⟨by rfl,?_⟩) (by assumption) ?_;rotate_left;(focus (intro w hSw;(try dsimp only at hSw);go_simp;try (with_reducible rfl)));(try simp only [Act.put,List.setIfInBounds_toArray,List.set_cons_zero,List.set_cons_succ,List.getElem_toArray,List.getElem_cons_zero,List.getElem_cons_succ]))
    | (refine wpAnyH_take (i:=12) (v:=?_) rfl (by kernel_rfl) (by decide +kernel) (by decide +kernel) (fun _ _ _ h=>h) (Or.inl ⟨by rfl,?_⟩) (by assumption) ?_;rotate_left;(focus (intro w hSw;(try dsimp only at hSw);go_simp;try (with_reducible rfl)));(try simp only [Act.put,List.setIfInBounds_toArray,List.set_cons_zero,List.set_cons_succ,List.getElem_toArray,List.getElem_cons_zero,List.getElem_cons_succ]))
    | (refine wpAnyH_take (i:=14) (v:=?_) rfl (by kernel_rfl) (by decide +kernel) (by decide +kernel) (fun _ _ _ h=>h) (Or.inl ⟨by rfl,?_⟩) (by assumption) ?_;rotate_left;(focus (intro w hSw;(try dsimp only at hSw);go_simp;try (with_reducible rfl)));(try simp only [Act.put,List.setIfInBounds_toArray,List.set_cons_zero,List.set_cons_succ,List.getElem_toArray,List.getElem_cons_zero,List.getElem_cons_succ]))
    | (refine wpAnyH_take (i:=15) (v:=?_) rfl (by kernel_rfl) (by decide +kernel) (by decide +kernel) (fun _ _ _ h=>h) (Or.inl ⟨by rfl,?_⟩) (by assumption) ?_;rotate_left;(focus (intro w hSw;(try dsimp only at hSw);go_simp;try (with_reducible rfl)));(try simp only [Act.put,List.setIfInBounds_toArray,List.set_cons_zero,List.set_cons_succ,List.getElem_toArray,List.getElem_cons_zero,List.getElem_cons_succ]))
    | (refine wpAnyH_ready (rs:=[2,6,9,13]) (by decide +kernel) (by simp) ?_;refine (AllReadyH.cons rfl (fun K hK=>?_) (AllReadyH.cons rfl (fun K hK=>?_) (AllReadyH.cons rfl (fun K hK=>?_) (AllReadyH.cons rfl (fun K hK=>?_) AllReadyH.nil))));all_goals (go_simp;(try (go_at_call 81;refine (spec_FormatInt_c _ _ (by omega) (by omega)).mono ?_;rintro e wq ⟨rfl,hbq⟩;first | (have hcc:=bCell hbq hcc) | (have hcc:=bCell hbq (cells_d (k:=0) rfl)) | (have hcc:=bCell hbq (cells_a (k:=0) rfl)) | skip));refine hK.out _ _ ?_ (fun hHeld=>?_);(focus (first | go_keep | (obtain ⟨s0,s1,s2⟩:=hHeld;exact ⟨bCell hbq s0,bCell hbq s1,bCell hbq s2⟩)));clear hK K;(try simp only [Act.put,List.setIfInBounds_toArray,List.set_cons_zero,List.set_cons_succ,List.getElem_toArray,List.getElem_cons_zero,List.getElem_cons_succ])))
    | (refine wpAnyH_ready (rs:=[2,6,9]) (by decide +kernel) (by simp) ?_;refine (AllReadyH.cons rfl (fun K hK=>?_) (AllReadyH.cons rfl (fun K hK=>?_) (AllReadyH.cons rfl (fun K hK=>?_) AllReadyH.nil)));all_goals (go_simp;(try (go_at_call 81;refine (spec_FormatInt_c _ _ (by omega) (by omega)).mono ?_;rintro e wq ⟨rfl,hbq⟩;first | (have hcc:=bCell hbq hcc) | (have hcc:=bCell hbq (cells_d (k:=0) rfl)) | (have hcc:=bCell hbq (cells_a (k:=0) rfl)) | skip));refine hK.out _ _ ?_ (fun hHeld=>?_);(focus (first | go_keep | (obtain ⟨s0,s1,s2⟩:=hHeld;exact ⟨bCell hbq s0,bCell hbq s1,bCell hbq s2⟩)));clear hK K;(try simp only [Act.put,List.setIfInBounds_toArray,List.set_cons_zero,List.set_cons_succ,List.getElem_toArray,List.getElem_cons_zero,List.getElem_cons_succ])))
    | (refine wpAnyH_ready (rs:=[2,6,13]) (by decide +kernel) (by simp) ?_;refine (AllReadyH.cons rfl (fun K hK=>?_) (AllReadyH.cons rfl (fun K hK=>?_) (AllReadyH.cons rfl (fun K hK=>?_) AllReadyH.nil)));all_goals (go_simp;(try (go_at_call 81;refine (spec_FormatInt_c _ _ (by omega) (by omega)).mono ?_;rintro e wq ⟨rfl,hbq⟩;first | (have hcc:=bCell hbq hcc) | (have hcc:=bCell hbq (cells_d (k:=0) rfl)) | (have hcc:=bCell hbq (cells_a (k:=0) rfl)) | skip));refine hK.out _ _ ?_ (fun hHeld=>?_);(focus (first | go_keep | (obtain ⟨s0,s1,s2⟩:=hHeld;exact ⟨bCell hbq s0,bCell hbq s1,bCell hbq s2⟩)));clear hK K;(try simp only [Act.put,List.setIfInBounds_toArray,List.set_cons_zero,List.set_cons_succ,List.getElem_toArray,List.getElem_cons_zero,List.getElem_cons_succ])))
    | (refine wpAnyH_ready (rs:=[2,9,13]) (by decide +kernel) (by simp) ?_;refine (AllReadyH.cons rfl (fun K hK=>?_) (AllReadyH.cons rfl (fun K hK=>?_) (AllReadyH.cons rfl (fun K hK=>?_) AllReadyH.nil)));all_goals (go_simp;(try (go_at_call 81;refine (spec_FormatInt_c _ _ (by omega) (by omega)).mono ?_;rintro e wq ⟨rfl,hbq⟩;first | (have hcc:=bCell hbq hcc) | (have hcc:=bCell hbq (cells_d (k:=0) rfl)) | (have hcc:=bCell hbq (cells_a (k:=0) rfl)) | skip));refine hK.out _ _ ?_ (fun hHeld=>?_);(focus (first | go_keep | (obtain ⟨s0,s1,s2⟩:=hHeld;exact ⟨bCell hbq s0,bCell hbq s1,bCell hbq s2⟩)));clear hK K;(try simp only [Act.put,List.setIfInBounds_toArray,List.set_cons_zero,List.set_cons_succ,List.getElem_toArray,List.getElem_cons_zero,List.getElem_cons_succ])))
    | (refine wpAnyH_ready (rs:=[6,9,13]) (by decide +kernel) (by simp) ?_;refine (AllReadyH.cons rfl (fun K hK=>?_) (AllReadyH.cons rfl (fun K hK=>?_) (AllReadyH.cons rfl (fun K hK=>?_) AllReadyH.nil)));all_goals (go_simp;(try (go_at_call 81;refine (spec_FormatInt_c _ _ (by omega) (by omega)).mono ?_;rintro e wq ⟨rfl,hbq⟩;first | (have hcc:=bCell hbq hcc) | (have hcc:=bCell hbq (cells_d (k:=0) rfl)) | (have hcc:=bCell hbq (cells_a (k:=0) rfl)) | skip));refine hK.out _ _ ?_ (fun hHeld=>?_);(focus (first | go_keep | (obtain ⟨s0,s1,s2⟩:=hHeld;exact ⟨bCell hbq s0,bCell hbq s1,bCell hbq s2⟩)));clear hK K;(try simp only [Act.put,List.setIfInBounds_toArray,List.set_cons_zero,List.set_cons_succ,List.getElem_toArray,List.getElem_cons_zero,List.getElem_cons_succ])))
    | (refine wpAnyH_ready (rs:=[2,6]) (by decide +kernel) (by simp) ?_;refine (AllReadyH.cons rfl (fun K hK=>?_) (AllReadyH.cons rfl (fun K hK=>?_) AllReadyH.nil));all_goals (go_simp;(try (go_at_call 81;refine (spec_FormatInt_c _ _ (by omega) (by omega)).mono ?_;rintro e wq ⟨rfl,hbq⟩;first | (have hcc:=bCell hbq hcc) | (have hcc:=bCell hbq (cells_d (k:=0) rfl)) | (have hcc:=bCell hbq (cells_a (k:=0) rfl)) | skip));refine hK.out _ _ ?_ (fun hHeld=>?_);(focus (first | go_keep | (obtain ⟨s0,s1,s2⟩:=hHeld;exact ⟨bCell hbq s0,bCell hbq s1,bCell hbq s2⟩)));clear hK K;(try simp only [Act.put,List.setIfInBounds_toArray,List.set_cons_zero,List.set_cons_succ,List.getElem_toArray,List.getElem_cons_zero,List.getElem_cons_succ])))
    | (refine wpAnyH_ready (rs:=[2,9]) (by decide +kernel) (by simp) ?_;refine (AllReadyH.cons rfl (fun K hK=>?_) (AllReadyH.cons rfl (fun K hK=>?_) AllReadyH.nil));all_goals (go_simp;(try (go_at_call 81;refine (spec_FormatInt_c _ _ (by omega) (by omega)).mono ?_;rintro e wq ⟨rfl,hbq⟩;first | (have hcc:=bCell hbq hcc) | (have hcc:=bCell hbq (cells_d (k:=0) rfl)) | (have hcc:=bCell hbq (cells_a (k:=0) rfl)) | skip));refine hK.out _ _ ?_ (fun hHeld=>?_);(focus (first | go_keep | (obtain ⟨s0,s1,s2⟩:=hHeld;exact ⟨bCell hbq s0,bCell hbq s1,bCell hbq s2⟩)));clear hK K;(try simp only [Act.put,List.setIfInBounds_toArray,List.set_cons_zero,List.set_cons_succ,List.getElem_toArray,List.getElem_cons_zero,List.getElem_cons_succ])))
    | (refine wpAnyH_ready (rs:=[2,13]) (by decide +kernel) (by simp) ?_;refine (AllReadyH.cons rfl (fun K hK=>?_) (AllReadyH.cons rfl (fun K hK=>?_) AllReadyH.nil));all_goals (go_simp;(try (go_at_call 81;refine (spec_FormatInt_c _ _ (by omega) (by omega)).mono ?_;rintro e wq ⟨rfl,hbq⟩;first | (have hcc:=bCell hbq hcc) | (have hcc:=bCell hbq (cells_d (k:=0) rfl)) | (have hcc:=bCell hbq (cells_a (k:=0) rfl)) | skip));refine hK.out _ _ ?_ (fun hHeld=>?_);(focus (first | go_keep | (obtain ⟨s0,s1,s2⟩:=hHeld;exact ⟨bCell hbq s0,bCell hbq s1,bCell hbq s2⟩)));clear hK K;(try simp only [Act.put,List.setIfInBounds_toArray,List.set_cons_zero,List.set_cons_succ,List.getElem_toArray,List.getElem_cons_zero,List.getElem_cons_succ])))
    | (refine wpAnyH_ready (rs:=[6,9]) (by decide +kernel) (by simp) ?_;refine (AllReadyH.cons rfl (fun K hK=>?_) (AllReadyH.cons rfl (fun K hK=>?_) AllReadyH.nil));all_goals (go_simp;(try (go_at_call 81;refine (spec_FormatInt_c _ _ (by omega) (by omega)).mono ?_;rintro e wq ⟨rfl,hbq⟩;first | (have hcc:=bCell hbq hcc) | (have hcc:=bCell hbq (cells_d (k:=0) rfl)) | (have hcc:=bCell hbq (cells_a (k:=0) rfl)) | skip));refine hK.out _ _ ?_ (fun hHeld=>?_);(focus (first | go_keep | (obtain ⟨s0,s1,s2⟩:=hHeld;exact ⟨bCell hbq s0,bCell hbq s1,bCell hbq s2⟩)));clear hK K;(try simp only [Act.put,List.setIfInBounds_toArray,List.set_cons_zero,List.set_cons_succ,List.getElem_toArray,List.getElem_cons_zero,List.getElem_cons_succ])))
    | (refine wpAnyH_ready (rs:=[6,13]) (by decide +kernel) (by simp) ?_;refine (AllReadyH.cons rfl (fun K hK=>?_) (AllReadyH.cons rfl (fun K hK=>?_) AllReadyH.nil));all_goals (go_simp;(try (go_at_call 81;refine (spec_FormatInt_c _ _ (by omega) (by omega)).mono ?_;rintro e wq ⟨rfl,hbq⟩;first | (have hcc:=bCell hbq hcc) | (have hcc:=bCell hbq (cells_d (k:=0) rfl)) | (have hcc:=bCell hbq (cells_a (k:=0) rfl)) | skip));refine hK.out _ _ ?_ (fun hHeld=>?_);(focus (first | go_keep | (obtain ⟨s0,s1,s2⟩:=hHeld;exact ⟨bCell hbq s0,bCell hbq s1,bCell hbq s2⟩)));clear hK K;(try simp only [Act.put,List.setIfInBounds_toArray,List.set_cons_zero,List.set_cons_succ,List.getElem_toArray,List.getElem_cons_zero,List.getElem_cons_succ])))
    | (refine wpAnyH_ready (rs:=[9,13]) (by decide +kernel) (by simp) ?_;refine (AllReadyH.cons rfl (fun K hK=>?_) (AllReadyH.cons rfl (fun K hK=>?_) AllReadyH.nil));all_goals (go_simp;(try (go_at_call 81;refine (spec_FormatInt_c _ _ (by omega) (by omega)).mono ?_;rintro e wq ⟨rfl,hbq⟩;first | (have hcc:=bCell hbq hcc) | (have hcc:=bCell hbq (cells_d (k:=0) rfl)) | (have hcc:=bCell hbq (cells_a (k:=0) rfl)) | skip));refine hK.out _ _ ?_ (fun hHeld=>?_);(focus (first | go_keep | (obtain ⟨s0,s1,s2⟩:=hHeld;exact ⟨bCell hbq s0,bCell hbq s1,bCell hbq s2⟩)));clear hK K;(try simp only [Act.put,List.setIfInBounds_toArray,List.set_cons_zero,List.set_cons_succ,List.getElem_toArray,List.getElem_cons_zero,List.getElem_cons_succ])))
    | (refine wpAnyH_ready (rs:=[2]) (by decide +kernel) (by simp) ?_;refine (AllReadyH.cons rfl (fun K hK=>?_) AllReadyH.nil);all_goals (go_simp;(try (go_at_call 81;refine (spec_FormatInt_c _ _ (by omega) (by omega)).mono ?_;rintro e wq ⟨rfl,hbq⟩;first | (have hcc:=bCell hbq hcc) | (have hcc:=bCell hbq (cells_d (k:=0) rfl)) | (have hcc:=bCell hbq (cells_a (k:=0) rfl)) | skip));refine hK.out _ _ ?_ (fun hHeld=>?_);(focus (first | go_keep | (obtain ⟨s0,s1,s2⟩:=hHeld;exact ⟨bCell hbq s0,bCell hbq s1,bCell hbq s2⟩)));clear hK K;(try simp only [Act.put,List.setIfInBounds_toArray,List.set_cons_zero,List.set_cons_succ,List.getElem_toArray,List.getElem_cons_zero,List.getElem_cons_succ])))
    | (refine wpAnyH_ready (rs:=[6]) (by decide +kernel) (by simp) ?_;refine (AllReadyH.cons rfl (fun K hK=>?_) AllReadyH.nil);all_goals (go_simp;(try (go_at_call 81;refine (spec_FormatInt_c _ _ (by omega) (by omega)).mono ?_;rintro e wq ⟨rfl,hbq⟩;first | (have hcc:=bCell hbq hcc) | (have hcc:=bCell hbq (cells_d (k:=0) rfl)) | (have hcc:=bCell hbq (cells_a (k:=0) rfl)) | skip));refine hK.out _ _ ?_ (fun hHeld=>?_);(focus (first | go_keep | (obtain ⟨s0,s1,s2⟩:=hHeld;exact ⟨bCell hbq s0,bCell hbq s1,bCell hbq s2⟩)));clear hK K;(try simp only [Act.put,List.setIfInBounds_toArray,List.set_cons_zero,List.set_cons_succ,List.getElem_toArray,List.getElem_cons_zero,List.getElem_cons_succ])))
    | (refine wpAnyH_ready (rs:=[9]) (by decide +kernel) (by simp) ?_;refine (AllReadyH.cons rfl (fun K hK=>?_) AllReadyH.nil);all_goals (go_simp;(try (go_at_call 81;refine (spec_FormatInt_c _ _ (by omega) (by omega)).mono ?_;rintro e wq ⟨rfl,hbq⟩;first | (have hcc:=bCell hbq hcc) | (have hcc:=bCell hbq (cells_d (k:=0) rfl)) | (have hcc:=bCell hbq (cells_a (k:=0) rfl)) | skip));refine hK.out _ _ ?_ (fun hHeld=>?_);(focus (first | go_keep | (obtain ⟨s0,s1,s2⟩:=hHeld;exact ⟨bCell hbq s0,bCell hbq s1,bCell hbq s2⟩)));clear hK K;(try simp only [Act.put,List.setIfInBounds_toArray,List.set_cons_zero,List.set_cons_succ,List.getElem_toArray,List.getElem_cons_zero,List.getElem_cons_succ])))
    | (refine wpAnyH_ready (rs:=[13]) (by decide +kernel) (by simp) ?_;refine (AllReadyH.cons rfl (fun K hK=>?_) AllReadyH.nil);all_goals (go_simp;(try (go_at_call 81;refine (spec_FormatInt_c _ _ (by omega) (by omega)).mono ?_;rintro e wq ⟨rfl,hbq⟩;first | (have hcc:=bCell hbq hcc) | (have hcc:=bCell hbq (cells_d (k:=0) rfl)) | (have hcc:=bCell hbq (cells_a (k:=0) rfl)) | skip));refine hK.out _ _ ?_ (fun hHeld=>?_);(focus (first | go_keep | (obtain ⟨s0,s1,s2⟩:=hHeld;exact ⟨bCell hbq s0,bCell hbq s1,bCell hbq s2⟩)));clear hK K;(try simp only [Act.put,List.setIfInBounds_toArray,List.set_cons_zero,List.set_cons_succ,List.getElem_toArray,List.getElem_cons_zero,List.getElem_cons_succ])))
    | skip))
  all_goals
    go_wp2
    go_ret
    exact ⟨by rw [hfin.out];rfl,by repeat (first | with_reducible exact Below.refl _ _ | with_reducible exact hwb | with_reducible refine bAlloc ?_ _ | with_reducible refine bDrew ?_ | with_reducible refine bTrans ?_ (by with_reducible assumption))⟩
theorem spec_FormatPose_1 (x y:Int) (w:World) (hv:vldPose 1 x y=true):Calls Tryz.prog 163 #[vPose 1 x y] w fun e w'=>e=.returned (.string (fmtPose 1 x y))∧Below w.heap.size w w':=by
  have HV:=Lib.hid hv
  obtain ⟨x0,x1,y0,y1⟩:-1000000≤x∧x≤1000000∧-1000000≤y∧y≤1000000:=by
    simp [vldPose,inR] at hv;omega
  obtain ⟨s2,e2,z2,c2⟩:=cat (itoaB x) ⟨#[44]⟩ 21 1 (itoaB_size (by omega) (by omega)) (Nat.le_refl _) (by omega)
  obtain ⟨s3,e3,z3,c3⟩:=cat s2 (itoaB y) _ 21 z2 (itoaB_size (by omega) (by omega)) (by omega)
  obtain ⟨s4,e4,z4,c4⟩:=cat s3 ⟨#[44]⟩ _ 1 z3 (Nat.le_refl _) (by omega)
  obtain ⟨s5,e5,z5,c5⟩:=cat s4 ⟨#[turnB 1]⟩ _ 1 z4 (Nat.le_refl _) (by omega)
  have hfin:Hid (fmtPose 1 x y=s5):=by
    simp only [Hid,fmtPose,HV.out,if_true]
    rw [← e5.out,← e4.out,← e3.out,← e2.out]
    apply bext
    simp [poseL,itoaB,ByteArray.data_append]
  have ht:(turnB 1)=110:=rfl
  rw [ht] at c5
  clear z2 z3 z4 z5 ht hv
  go_enter Tryz.func163,Tryz.ntmps163
  go_wp2_with (go_at_call 172;refine (spec_IsValidPose_c _ _ _ _).mono ?_;rw [HV.out];rintro e w1 ⟨rfl,hb1⟩;obtain ⟨hc,hfz⟩:=bcell hb1)
  refine region_at fun R hR=>?_
  have hwb:Below w.heap.size w R:=by rw [hR.out];exact bTrans (bAlloc (Below.refl _ _) _) hb1
  have g0:R.cell? ⟨w.heap.size,0,none⟩=some (.int .i64 1):=by rw [hR.out];exact bCell hb1 (cells_a rfl)
  have g1:R.cell? ⟨w.heap.size,1,none⟩=some (.int .i64 x):=by rw [hR.out];exact bCell hb1 (cells_a rfl)
  have g2:R.cell? ⟨w.heap.size,2,none⟩=some (.int .i64 y):=by rw [hR.out];exact bCell hb1 (cells_a rfl)
  clear hR hc hfz
  refine wp_region_noPanic ?_
  refine wp_region_held_drew (S:=fun w'=>w'.cell? ⟨w.heap.size,0,none⟩=some (.int .i64 1)∧w'.cell? ⟨w.heap.size,1,none⟩=some (.int .i64 x)∧w'.cell? ⟨w.heap.size,2,none⟩=some (.int .i64 y)) (by kernel_rfl) (by (try dsimp only);(first | go_keep | (obtain ⟨s0,s1,s2⟩:=hHeld;exact ⟨bCell hbq s0,bCell hbq s1,bCell hbq s2⟩))) (fun hHeld=>?_)
  iterate 18 (all_goals (first
    | (refine wpAnyH_done (by decide +kernel) ?_ _;refine NoPanic.normal ?_;have hend:=trivial)
    | (refine wpAnyH_take (i:=0) (v:=?_) rfl (by kernel_rfl) (by decide +kernel) (by decide +kernel) (fun _ _ _ h=>h) (Or.inl ⟨by rfl,?_⟩) (by assumption) ?_;rotate_left;(focus (intro w hSw;(try dsimp only at hSw);go_simp;try (with_reducible rfl)));(try simp only [Act.put,List.setIfInBounds_toArray,List.set_cons_zero,List.set_cons_succ,List.getElem_toArray,List.getElem_cons_zero,List.getElem_cons_succ]))
    | (refine wpAnyH_take (i:=1) (v:=?_) rfl (by kernel_rfl) (by decide +kernel) (by decide +kernel) (fun _ _ _ h=>h) (Or.inl ⟨by rfl,?_⟩) (by assumption) ?_;rotate_left;(focus (intro w hSw;(try dsimp only at hSw);go_simp;try (with_reducible rfl)));(try simp only [Act.put,List.setIfInBounds_toArray,List.set_cons_zero,List.set_cons_succ,List.getElem_toArray,List.getElem_cons_zero,List.getElem_cons_succ]))
    | (refine wpAnyH_take (i:=4) (v:=?_) rfl (by kernel_rfl) (by decide +kernel) (by decide +kernel) (fun _ _ _ h=>h) (Or.inl ⟨by rfl,?_⟩) (by assumption) ?_;rotate_left;(focus (intro w hSw;(try dsimp only at hSw);go_simp;try (with_reducible rfl)));(try simp only [Act.put,List.setIfInBounds_toArray,List.set_cons_zero,List.set_cons_succ,List.getElem_toArray,List.getElem_cons_zero,List.getElem_cons_succ]))
    | (refine wpAnyH_take (i:=5) (v:=?_) rfl (by kernel_rfl) (by decide +kernel) (by decide +kernel) (fun _ _ _ h=>h) (Or.inl ⟨by rfl,?_⟩) (by assumption) ?_;rotate_left;(focus (intro w hSw;(try dsimp only at hSw);go_simp;try (with_reducible rfl)));(try simp only [Act.put,List.setIfInBounds_toArray,List.set_cons_zero,List.set_cons_succ,List.getElem_toArray,List.getElem_cons_zero,List.getElem_cons_succ]))
    | (refine wpAnyH_take (i:=10) (v:=?_) rfl (by kernel_rfl) (by decide +kernel) (by decide +kernel) (fun _ _ _ h=>h) (Or.inl ⟨by rfl,?_⟩) (by assumption) ?_;rotate_left;(focus (intro w hSw;(try dsimp only at hSw);go_simp;try (with_reducible rfl)));(try simp only [Act.put,List.setIfInBounds_toArray,List.set_cons_zero,List.set_cons_succ,List.getElem_toArray,List.getElem_cons_zero,List.getElem_cons_succ]))
    | (refine wpAnyH_take (i:=11) (v:=?_) rfl (by kernel_rfl) (by decide +kernel) (by decide +kernel) (fun _ _ _ h=>h) (Or.inl ⟨by rfl,?_⟩) (by assumption) ?_;rotate_left;(focus (intro w hSw;(try dsimp only at hSw);go_simp;try (with_reducible rfl)));(try simp only [Act.put,List.setIfInBounds_toArray,List.set_cons_zero,List.set_cons_succ,List.getElem_toArray,List.getElem_cons_zero,List.getElem_cons_succ]))
    | (refine wpAnyH_take (i:=3) (v:=?_) rfl (by kernel_rfl) (by decide +kernel) (by decide +kernel) (fun _ _ _ h=>h) (Or.inl ⟨by rfl,?_⟩) (by assumption) ?_;rotate_left;(focus (intro w hSw;(try dsimp only at hSw);go_simp;try (with_reducible rfl)));(try simp only [Act.put,List.setIfInBounds_toArray,List.set_cons_zero,List.set_cons_succ,List.getElem_toArray,List.getElem_cons_zero,List.getElem_cons_succ]))
    | (refine wpAnyH_take (i:=7) (v:=?_) rfl (by kernel_rfl) (by decide +kernel) (by decide +kernel) (fun _ _ _ h=>h) (Or.inl ⟨by rfl,?_⟩) (by assumption) ?_;rotate_left;(focus (intro w hSw;(try dsimp only at hSw);go_simp;try (with_reducible rfl)));(try simp only [Act.put,List.setIfInBounds_toArray,List.set_cons_zero,List.set_cons_succ,List.getElem_toArray,List.getElem_cons_zero,List.getElem_cons_succ]))
    | (refine wpAnyH_take (i:=8) (v:=?_) rfl (by kernel_rfl) (by decide +kernel) (by decide +kernel) (fun _ _ _ h=>h) (Or.inl ⟨by rfl,?_⟩) (by assumption) ?_;rotate_left;(focus (intro w hSw;(try dsimp only at hSw);go_simp;try (with_reducible rfl)));(try simp only [Act.put,List.setIfInBounds_toArray,List.set_cons_zero,List.set_cons_succ,List.getElem_toArray,List.getElem_cons_zero,List.getElem_cons_succ]))
    | (refine wpAnyH_take (i:=12) (v:=?_) rfl (by kernel_rfl) (by decide +kernel) (by decide +kernel) (fun _ _ _ h=>h) (Or.inl ⟨by rfl,?_⟩) (by assumption) ?_;rotate_left;(focus (intro w hSw;(try dsimp only at hSw);go_simp;try (with_reducible rfl)));(try simp only [Act.put,List.setIfInBounds_toArray,List.set_cons_zero,List.set_cons_succ,List.getElem_toArray,List.getElem_cons_zero,List.getElem_cons_succ]))
    | (refine wpAnyH_take (i:=14) (v:=?_) rfl (by kernel_rfl) (by decide +kernel) (by decide +kernel) (fun _ _ _ h=>h) (Or.inl ⟨by rfl,?_⟩) (by assumption) ?_;rotate_left;(focus (intro w hSw;(try dsimp only at hSw);go_simp;try (with_reducible rfl)));(try simp only [Act.put,List.setIfInBounds_toArray,List.set_cons_zero,List.set_cons_succ,List.getElem_toArray,List.getElem_cons_zero,List.getElem_cons_succ]))
    | (refine wpAnyH_take (i:=15) (v:=?_) rfl (by kernel_rfl) (by decide +kernel) (by decide +kernel) (fun _ _ _ h=>h) (Or.inl ⟨by rfl,?_⟩) (by assumption) ?_;rotate_left;(focus (intro w hSw;(try dsimp only at hSw);go_simp;try (with_reducible rfl)));(try simp only [Act.put,List.setIfInBounds_toArray,List.set_cons_zero,List.set_cons_succ,List.getElem_toArray,List.getElem_cons_zero,List.getElem_cons_succ]))
    | (refine wpAnyH_ready (rs:=[2,6,9,13]) (by decide +kernel) (by simp) ?_;refine (AllReadyH.cons rfl (fun K hK=>?_) (AllReadyH.cons rfl (fun K hK=>?_) (AllReadyH.cons rfl (fun K hK=>?_) (AllReadyH.cons rfl (fun K hK=>?_) AllReadyH.nil))));all_goals (go_simp;(try (go_at_call 81;refine (spec_FormatInt_c _ _ (by omega) (by omega)).mono ?_;rintro e wq ⟨rfl,hbq⟩;first | (have hcc:=bCell hbq hcc) | (have hcc:=bCell hbq (cells_d (k:=1) rfl)) | (have hcc:=bCell hbq (cells_a (k:=1) rfl)) | skip));refine hK.out _ _ ?_ (fun hHeld=>?_);(focus (first | go_keep | (obtain ⟨s0,s1,s2⟩:=hHeld;exact ⟨bCell hbq s0,bCell hbq s1,bCell hbq s2⟩)));clear hK K;(try simp only [Act.put,List.setIfInBounds_toArray,List.set_cons_zero,List.set_cons_succ,List.getElem_toArray,List.getElem_cons_zero,List.getElem_cons_succ])))
    | (refine wpAnyH_ready (rs:=[2,6,9]) (by decide +kernel) (by simp) ?_;refine (AllReadyH.cons rfl (fun K hK=>?_) (AllReadyH.cons rfl (fun K hK=>?_) (AllReadyH.cons rfl (fun K hK=>?_) AllReadyH.nil)));all_goals (go_simp;(try (go_at_call 81;refine (spec_FormatInt_c _ _ (by omega) (by omega)).mono ?_;rintro e wq ⟨rfl,hbq⟩;first | (have hcc:=bCell hbq hcc) | (have hcc:=bCell hbq (cells_d (k:=1) rfl)) | (have hcc:=bCell hbq (cells_a (k:=1) rfl)) | skip));refine hK.out _ _ ?_ (fun hHeld=>?_);(focus (first | go_keep | (obtain ⟨s0,s1,s2⟩:=hHeld;exact ⟨bCell hbq s0,bCell hbq s1,bCell hbq s2⟩)));clear hK K;(try simp only [Act.put,List.setIfInBounds_toArray,List.set_cons_zero,List.set_cons_succ,List.getElem_toArray,List.getElem_cons_zero,List.getElem_cons_succ])))
    | (refine wpAnyH_ready (rs:=[2,6,13]) (by decide +kernel) (by simp) ?_;refine (AllReadyH.cons rfl (fun K hK=>?_) (AllReadyH.cons rfl (fun K hK=>?_) (AllReadyH.cons rfl (fun K hK=>?_) AllReadyH.nil)));all_goals (go_simp;(try (go_at_call 81;refine (spec_FormatInt_c _ _ (by omega) (by omega)).mono ?_;rintro e wq ⟨rfl,hbq⟩;first | (have hcc:=bCell hbq hcc) | (have hcc:=bCell hbq (cells_d (k:=1) rfl)) | (have hcc:=bCell hbq (cells_a (k:=1) rfl)) | skip));refine hK.out _ _ ?_ (fun hHeld=>?_);(focus (first | go_keep | (obtain ⟨s0,s1,s2⟩:=hHeld;exact ⟨bCell hbq s0,bCell hbq s1,bCell hbq s2⟩)));clear hK K;(try simp only [Act.put,List.setIfInBounds_toArray,List.set_cons_zero,List.set_cons_succ,List.getElem_toArray,List.getElem_cons_zero,List.getElem_cons_succ])))
    | (refine wpAnyH_ready (rs:=[2,9,13]) (by decide +kernel) (by simp) ?_;refine (AllReadyH.cons rfl (fun K hK=>?_) (AllReadyH.cons rfl (fun K hK=>?_) (AllReadyH.cons rfl (fun K hK=>?_) AllReadyH.nil)));all_goals (go_simp;(try (go_at_call 81;refine (spec_FormatInt_c _ _ (by omega) (by omega)).mono ?_;rintro e wq ⟨rfl,hbq⟩;first | (have hcc:=bCell hbq hcc) | (have hcc:=bCell hbq (cells_d (k:=1) rfl)) | (have hcc:=bCell hbq (cells_a (k:=1) rfl)) | skip));refine hK.out _ _ ?_ (fun hHeld=>?_);(focus (first | go_keep | (obtain ⟨s0,s1,s2⟩:=hHeld;exact ⟨bCell hbq s0,bCell hbq s1,bCell hbq s2⟩)));clear hK K;(try simp only [Act.put,List.setIfInBounds_toArray,List.set_cons_zero,List.set_cons_succ,List.getElem_toArray,List.getElem_cons_zero,List.getElem_cons_succ])))
    | (refine wpAnyH_ready (rs:=[6,9,13]) (by decide +kernel) (by simp) ?_;refine (AllReadyH.cons rfl (fun K hK=>?_) (AllReadyH.cons rfl (fun K hK=>?_) (AllReadyH.cons rfl (fun K hK=>?_) AllReadyH.nil)));all_goals (go_simp;(try (go_at_call 81;refine (spec_FormatInt_c _ _ (by omega) (by omega)).mono ?_;rintro e wq ⟨rfl,hbq⟩;first | (have hcc:=bCell hbq hcc) | (have hcc:=bCell hbq (cells_d (k:=1) rfl)) | (have hcc:=bCell hbq (cells_a (k:=1) rfl)) | skip));refine hK.out _ _ ?_ (fun hHeld=>?_);(focus (first | go_keep | (obtain ⟨s0,s1,s2⟩:=hHeld;exact ⟨bCell hbq s0,bCell hbq s1,bCell hbq s2⟩)));clear hK K;(try simp only [Act.put,List.setIfInBounds_toArray,List.set_cons_zero,List.set_cons_succ,List.getElem_toArray,List.getElem_cons_zero,List.getElem_cons_succ])))
    | (refine wpAnyH_ready (rs:=[2,6]) (by decide +kernel) (by simp) ?_;refine (AllReadyH.cons rfl (fun K hK=>?_) (AllReadyH.cons rfl (fun K hK=>?_) AllReadyH.nil));all_goals (go_simp;(try (go_at_call 81;refine (spec_FormatInt_c _ _ (by omega) (by omega)).mono ?_;rintro e wq ⟨rfl,hbq⟩;first | (have hcc:=bCell hbq hcc) | (have hcc:=bCell hbq (cells_d (k:=1) rfl)) | (have hcc:=bCell hbq (cells_a (k:=1) rfl)) | skip));refine hK.out _ _ ?_ (fun hHeld=>?_);(focus (first | go_keep | (obtain ⟨s0,s1,s2⟩:=hHeld;exact ⟨bCell hbq s0,bCell hbq s1,bCell hbq s2⟩)));clear hK K;(try simp only [Act.put,List.setIfInBounds_toArray,List.set_cons_zero,List.set_cons_succ,List.getElem_toArray,List.getElem_cons_zero,List.getElem_cons_succ])))
    | (refine wpAnyH_ready (rs:=[2,9]) (by decide +kernel) (by simp) ?_;refine (AllReadyH.cons rfl (fun K hK=>?_) (AllReadyH.cons rfl (fun K hK=>?_) AllReadyH.nil));all_goals (go_simp;(try (go_at_call 81;refine (spec_FormatInt_c _ _ (by omega) (by omega)).mono ?_;rintro e wq ⟨rfl,hbq⟩;first | (have hcc:=bCell hbq hcc) | (have hcc:=bCell hbq (cells_d (k:=1) rfl)) | (have hcc:=bCell hbq (cells_a (k:=1) rfl)) | skip));refine hK.out _ _ ?_ (fun hHeld=>?_);(focus (first | go_keep | (obtain ⟨s0,s1,s2⟩:=hHeld;exact ⟨bCell hbq s0,bCell hbq s1,bCell hbq s2⟩)));clear hK K;(try simp only [Act.put,List.setIfInBounds_toArray,List.set_cons_zero,List.set_cons_succ,List.getElem_toArray,List.getElem_cons_zero,List.getElem_cons_succ])))
    | (refine wpAnyH_ready (rs:=[2,13]) (by decide +kernel) (by simp) ?_;refine (AllReadyH.cons rfl (fun K hK=>?_) (AllReadyH.cons rfl (fun K hK=>?_) AllReadyH.nil));all_goals (go_simp;(try (go_at_call 81;refine (spec_FormatInt_c _ _ (by omega) (by omega)).mono ?_;rintro e wq ⟨rfl,hbq⟩;first | (have hcc:=bCell hbq hcc) | (have hcc:=bCell hbq (cells_d (k:=1) rfl)) | (have hcc:=bCell hbq (cells_a (k:=1) rfl)) | skip));refine hK.out _ _ ?_ (fun hHeld=>?_);(focus (first | go_keep | (obtain ⟨s0,s1,s2⟩:=hHeld;exact ⟨bCell hbq s0,bCell hbq s1,bCell hbq s2⟩)));clear hK K;(try simp only [Act.put,List.setIfInBounds_toArray,List.set_cons_zero,List.set_cons_succ,List.getElem_toArray,List.getElem_cons_zero,List.getElem_cons_succ])))
    | (refine wpAnyH_ready (rs:=[6,9]) (by decide +kernel) (by simp) ?_;refine (AllReadyH.cons rfl (fun K hK=>?_) (AllReadyH.cons rfl (fun K hK=>?_) AllReadyH.nil));all_goals (go_simp;(try (go_at_call 81;refine (spec_FormatInt_c _ _ (by omega) (by omega)).mono ?_;rintro e wq ⟨rfl,hbq⟩;first | (have hcc:=bCell hbq hcc) | (have hcc:=bCell hbq (cells_d (k:=1) rfl)) | (have hcc:=bCell hbq (cells_a (k:=1) rfl)) | skip));refine hK.out _ _ ?_ (fun hHeld=>?_);(focus (first | go_keep | (obtain ⟨s0,s1,s2⟩:=hHeld;exact ⟨bCell hbq s0,bCell hbq s1,bCell hbq s2⟩)));clear hK K;(try simp only [Act.put,List.setIfInBounds_toArray,List.set_cons_zero,List.set_cons_succ,List.getElem_toArray,List.getElem_cons_zero,List.getElem_cons_succ])))
    | (refine wpAnyH_ready (rs:=[6,13]) (by decide +kernel) (by simp) ?_;refine (AllReadyH.cons rfl (fun K hK=>?_) (AllReadyH.cons rfl (fun K hK=>?_) AllReadyH.nil));all_goals (go_simp;(try (go_at_call 81;refine (spec_FormatInt_c _ _ (by omega) (by omega)).mono ?_;rintro e wq ⟨rfl,hbq⟩;first | (have hcc:=bCell hbq hcc) | (have hcc:=bCell hbq (cells_d (k:=1) rfl)) | (have hcc:=bCell hbq (cells_a (k:=1) rfl)) | skip));refine hK.out _ _ ?_ (fun hHeld=>?_);(focus (first | go_keep | (obtain ⟨s0,s1,s2⟩:=hHeld;exact ⟨bCell hbq s0,bCell hbq s1,bCell hbq s2⟩)));clear hK K;(try simp only [Act.put,List.setIfInBounds_toArray,List.set_cons_zero,List.set_cons_succ,List.getElem_toArray,List.getElem_cons_zero,List.getElem_cons_succ])))
    | (refine wpAnyH_ready (rs:=[9,13]) (by decide +kernel) (by simp) ?_;refine (AllReadyH.cons rfl (fun K hK=>?_) (AllReadyH.cons rfl (fun K hK=>?_) AllReadyH.nil));all_goals (go_simp;(try (go_at_call 81;refine (spec_FormatInt_c _ _ (by omega) (by omega)).mono ?_;rintro e wq ⟨rfl,hbq⟩;first | (have hcc:=bCell hbq hcc) | (have hcc:=bCell hbq (cells_d (k:=1) rfl)) | (have hcc:=bCell hbq (cells_a (k:=1) rfl)) | skip));refine hK.out _ _ ?_ (fun hHeld=>?_);(focus (first | go_keep | (obtain ⟨s0,s1,s2⟩:=hHeld;exact ⟨bCell hbq s0,bCell hbq s1,bCell hbq s2⟩)));clear hK K;(try simp only [Act.put,List.setIfInBounds_toArray,List.set_cons_zero,List.set_cons_succ,List.getElem_toArray,List.getElem_cons_zero,List.getElem_cons_succ])))
    | (refine wpAnyH_ready (rs:=[2]) (by decide +kernel) (by simp) ?_;refine (AllReadyH.cons rfl (fun K hK=>?_) AllReadyH.nil);all_goals (go_simp;(try (go_at_call 81;refine (spec_FormatInt_c _ _ (by omega) (by omega)).mono ?_;rintro e wq ⟨rfl,hbq⟩;first | (have hcc:=bCell hbq hcc) | (have hcc:=bCell hbq (cells_d (k:=1) rfl)) | (have hcc:=bCell hbq (cells_a (k:=1) rfl)) | skip));refine hK.out _ _ ?_ (fun hHeld=>?_);(focus (first | go_keep | (obtain ⟨s0,s1,s2⟩:=hHeld;exact ⟨bCell hbq s0,bCell hbq s1,bCell hbq s2⟩)));clear hK K;(try simp only [Act.put,List.setIfInBounds_toArray,List.set_cons_zero,List.set_cons_succ,List.getElem_toArray,List.getElem_cons_zero,List.getElem_cons_succ])))
    | (refine wpAnyH_ready (rs:=[6]) (by decide +kernel) (by simp) ?_;refine (AllReadyH.cons rfl (fun K hK=>?_) AllReadyH.nil);all_goals (go_simp;(try (go_at_call 81;refine (spec_FormatInt_c _ _ (by omega) (by omega)).mono ?_;rintro e wq ⟨rfl,hbq⟩;first | (have hcc:=bCell hbq hcc) | (have hcc:=bCell hbq (cells_d (k:=1) rfl)) | (have hcc:=bCell hbq (cells_a (k:=1) rfl)) | skip));refine hK.out _ _ ?_ (fun hHeld=>?_);(focus (first | go_keep | (obtain ⟨s0,s1,s2⟩:=hHeld;exact ⟨bCell hbq s0,bCell hbq s1,bCell hbq s2⟩)));clear hK K;(try simp only [Act.put,List.setIfInBounds_toArray,List.set_cons_zero,List.set_cons_succ,List.getElem_toArray,List.getElem_cons_zero,List.getElem_cons_succ])))
    | (refine wpAnyH_ready (rs:=[9]) (by decide +kernel) (by simp) ?_;refine (AllReadyH.cons rfl (fun K hK=>?_) AllReadyH.nil);all_goals (go_simp;(try (go_at_call 81;refine (spec_FormatInt_c _ _ (by omega) (by omega)).mono ?_;rintro e wq ⟨rfl,hbq⟩;first | (have hcc:=bCell hbq hcc) | (have hcc:=bCell hbq (cells_d (k:=1) rfl)) | (have hcc:=bCell hbq (cells_a (k:=1) rfl)) | skip));refine hK.out _ _ ?_ (fun hHeld=>?_);(focus (first | go_keep | (obtain ⟨s0,s1,s2⟩:=hHeld;exact ⟨bCell hbq s0,bCell hbq s1,bCell hbq s2⟩)));clear hK K;(try simp only [Act.put,List.setIfInBounds_toArray,List.set_cons_zero,List.set_cons_succ,List.getElem_toArray,List.getElem_cons_zero,List.getElem_cons_succ])))
    | (refine wpAnyH_ready (rs:=[13]) (by decide +kernel) (by simp) ?_;refine (AllReadyH.cons rfl (fun K hK=>?_) AllReadyH.nil);all_goals (go_simp;(try (go_at_call 81;refine (spec_FormatInt_c _ _ (by omega) (by omega)).mono ?_;rintro e wq ⟨rfl,hbq⟩;first | (have hcc:=bCell hbq hcc) | (have hcc:=bCell hbq (cells_d (k:=1) rfl)) | (have hcc:=bCell hbq (cells_a (k:=1) rfl)) | skip));refine hK.out _ _ ?_ (fun hHeld=>?_);(focus (first | go_keep | (obtain ⟨s0,s1,s2⟩:=hHeld;exact ⟨bCell hbq s0,bCell hbq s1,bCell hbq s2⟩)));clear hK K;(try simp only [Act.put,List.setIfInBounds_toArray,List.set_cons_zero,List.set_cons_succ,List.getElem_toArray,List.getElem_cons_zero,List.getElem_cons_succ])))
    | skip))
  all_goals
    go_wp2
    go_ret
    exact ⟨by rw [hfin.out];rfl,by repeat (first | with_reducible exact Below.refl _ _ | with_reducible exact hwb | with_reducible refine bAlloc ?_ _ | with_reducible refine bDrew ?_ | with_reducible refine bTrans ?_ (by with_reducible assumption))⟩
theorem spec_FormatPose_2 (x y:Int) (w:World) (hv:vldPose 2 x y=true):Calls Tryz.prog 163 #[vPose 2 x y] w fun e w'=>e=.returned (.string (fmtPose 2 x y))∧Below w.heap.size w w':=by
  have HV:=Lib.hid hv
  obtain ⟨x0,x1,y0,y1⟩:-1000000≤x∧x≤1000000∧-1000000≤y∧y≤1000000:=by
    simp [vldPose,inR] at hv;omega
  obtain ⟨s2,e2,z2,c2⟩:=cat (itoaB x) ⟨#[44]⟩ 21 1 (itoaB_size (by omega) (by omega)) (Nat.le_refl _) (by omega)
  obtain ⟨s3,e3,z3,c3⟩:=cat s2 (itoaB y) _ 21 z2 (itoaB_size (by omega) (by omega)) (by omega)
  obtain ⟨s4,e4,z4,c4⟩:=cat s3 ⟨#[44]⟩ _ 1 z3 (Nat.le_refl _) (by omega)
  obtain ⟨s5,e5,z5,c5⟩:=cat s4 ⟨#[turnB 2]⟩ _ 1 z4 (Nat.le_refl _) (by omega)
  have hfin:Hid (fmtPose 2 x y=s5):=by
    simp only [Hid,fmtPose,HV.out,if_true]
    rw [← e5.out,← e4.out,← e3.out,← e2.out]
    apply bext
    simp [poseL,itoaB,ByteArray.data_append]
  have ht:(turnB 2)=119:=rfl
  rw [ht] at c5
  clear z2 z3 z4 z5 ht hv
  go_enter Tryz.func163,Tryz.ntmps163
  go_wp2_with (go_at_call 172;refine (spec_IsValidPose_c _ _ _ _).mono ?_;rw [HV.out];rintro e w1 ⟨rfl,hb1⟩;obtain ⟨hc,hfz⟩:=bcell hb1)
  refine region_at fun R hR=>?_
  have hwb:Below w.heap.size w R:=by rw [hR.out];exact bTrans (bAlloc (Below.refl _ _) _) hb1
  have g0:R.cell? ⟨w.heap.size,0,none⟩=some (.int .i64 2):=by rw [hR.out];exact bCell hb1 (cells_a rfl)
  have g1:R.cell? ⟨w.heap.size,1,none⟩=some (.int .i64 x):=by rw [hR.out];exact bCell hb1 (cells_a rfl)
  have g2:R.cell? ⟨w.heap.size,2,none⟩=some (.int .i64 y):=by rw [hR.out];exact bCell hb1 (cells_a rfl)
  clear hR hc hfz
  refine wp_region_noPanic ?_
  refine wp_region_held_drew (S:=fun w'=>w'.cell? ⟨w.heap.size,0,none⟩=some (.int .i64 2)∧w'.cell? ⟨w.heap.size,1,none⟩=some (.int .i64 x)∧w'.cell? ⟨w.heap.size,2,none⟩=some (.int .i64 y)) (by kernel_rfl) (by (try dsimp only);(first | go_keep | (obtain ⟨s0,s1,s2⟩:=hHeld;exact ⟨bCell hbq s0,bCell hbq s1,bCell hbq s2⟩))) (fun hHeld=>?_)
  iterate 18 (all_goals (first
    | (refine wpAnyH_done (by decide +kernel) ?_ _;refine NoPanic.normal ?_;have hend:=trivial)
    | (refine wpAnyH_take (i:=0) (v:=?_) rfl (by kernel_rfl) (by decide +kernel) (by decide +kernel) (fun _ _ _ h=>h) (Or.inl ⟨by rfl,?_⟩) (by assumption) ?_;rotate_left;(focus (intro w hSw;(try dsimp only at hSw);go_simp;try (with_reducible rfl)));(try simp only [Act.put,List.setIfInBounds_toArray,List.set_cons_zero,List.set_cons_succ,List.getElem_toArray,List.getElem_cons_zero,List.getElem_cons_succ]))
    | (refine wpAnyH_take (i:=1) (v:=?_) rfl (by kernel_rfl) (by decide +kernel) (by decide +kernel) (fun _ _ _ h=>h) (Or.inl ⟨by rfl,?_⟩) (by assumption) ?_;rotate_left;(focus (intro w hSw;(try dsimp only at hSw);go_simp;try (with_reducible rfl)));(try simp only [Act.put,List.setIfInBounds_toArray,List.set_cons_zero,List.set_cons_succ,List.getElem_toArray,List.getElem_cons_zero,List.getElem_cons_succ]))
    | (refine wpAnyH_take (i:=4) (v:=?_) rfl (by kernel_rfl) (by decide +kernel) (by decide +kernel) (fun _ _ _ h=>h) (Or.inl ⟨by rfl,?_⟩) (by assumption) ?_;rotate_left;(focus (intro w hSw;(try dsimp only at hSw);go_simp;try (with_reducible rfl)));(try simp only [Act.put,List.setIfInBounds_toArray,List.set_cons_zero,List.set_cons_succ,List.getElem_toArray,List.getElem_cons_zero,List.getElem_cons_succ]))
    | (refine wpAnyH_take (i:=5) (v:=?_) rfl (by kernel_rfl) (by decide +kernel) (by decide +kernel) (fun _ _ _ h=>h) (Or.inl ⟨by rfl,?_⟩) (by assumption) ?_;rotate_left;(focus (intro w hSw;(try dsimp only at hSw);go_simp;try (with_reducible rfl)));(try simp only [Act.put,List.setIfInBounds_toArray,List.set_cons_zero,List.set_cons_succ,List.getElem_toArray,List.getElem_cons_zero,List.getElem_cons_succ]))
    | (refine wpAnyH_take (i:=10) (v:=?_) rfl (by kernel_rfl) (by decide +kernel) (by decide +kernel) (fun _ _ _ h=>h) (Or.inl ⟨by rfl,?_⟩) (by assumption) ?_;rotate_left;(focus (intro w hSw;(try dsimp only at hSw);go_simp;try (with_reducible rfl)));(try simp only [Act.put,List.setIfInBounds_toArray,List.set_cons_zero,List.set_cons_succ,List.getElem_toArray,List.getElem_cons_zero,List.getElem_cons_succ]))
    | (refine wpAnyH_take (i:=11) (v:=?_) rfl (by kernel_rfl) (by decide +kernel) (by decide +kernel) (fun _ _ _ h=>h) (Or.inl ⟨by rfl,?_⟩) (by assumption) ?_;rotate_left;(focus (intro w hSw;(try dsimp only at hSw);go_simp;try (with_reducible rfl)));(try simp only [Act.put,List.setIfInBounds_toArray,List.set_cons_zero,List.set_cons_succ,List.getElem_toArray,List.getElem_cons_zero,List.getElem_cons_succ]))
    | (refine wpAnyH_take (i:=3) (v:=?_) rfl (by kernel_rfl) (by decide +kernel) (by decide +kernel) (fun _ _ _ h=>h) (Or.inl ⟨by rfl,?_⟩) (by assumption) ?_;rotate_left;(focus (intro w hSw;(try dsimp only at hSw);go_simp;try (with_reducible rfl)));(try simp only [Act.put,List.setIfInBounds_toArray,List.set_cons_zero,List.set_cons_succ,List.getElem_toArray,List.getElem_cons_zero,List.getElem_cons_succ]))
    | (refine wpAnyH_take (i:=7) (v:=?_) rfl (by kernel_rfl) (by decide +kernel) (by decide +kernel) (fun _ _ _ h=>h) (Or.inl ⟨by rfl,?_⟩) (by assumption) ?_;rotate_left;(focus (intro w hSw;(try dsimp only at hSw);go_simp;try (with_reducible rfl)));(try simp only [Act.put,List.setIfInBounds_toArray,List.set_cons_zero,List.set_cons_succ,List.getElem_toArray,List.getElem_cons_zero,List.getElem_cons_succ]))
    | (refine wpAnyH_take (i:=8) (v:=?_) rfl (by kernel_rfl) (by decide +kernel) (by decide +kernel) (fun _ _ _ h=>h) (Or.inl ⟨by rfl,?_⟩) (by assumption) ?_;rotate_left;(focus (intro w hSw;(try dsimp only at hSw);go_simp;try (with_reducible rfl)));(try simp only [Act.put,List.setIfInBounds_toArray,List.set_cons_zero,List.set_cons_succ,List.getElem_toArray,List.getElem_cons_zero,List.getElem_cons_succ]))
    | (refine wpAnyH_take (i:=12) (v:=?_) rfl (by kernel_rfl) (by decide +kernel) (by decide +kernel) (fun _ _ _ h=>h) (Or.inl ⟨by rfl,?_⟩) (by assumption) ?_;rotate_left;(focus (intro w hSw;(try dsimp only at hSw);go_simp;try (with_reducible rfl)));(try simp only [Act.put,List.setIfInBounds_toArray,List.set_cons_zero,List.set_cons_succ,List.getElem_toArray,List.getElem_cons_zero,List.getElem_cons_succ]))
    | (refine wpAnyH_take (i:=14) (v:=?_) rfl (by kernel_rfl) (by decide +kernel) (by decide +kernel) (fun _ _ _ h=>h) (Or.inl ⟨by rfl,?_⟩) (by assumption) ?_;rotate_left;(focus (intro w hSw;(try dsimp only at hSw);go_simp;try (with_reducible rfl)));(try simp only [Act.put,List.setIfInBounds_toArray,List.set_cons_zero,List.set_cons_succ,List.getElem_toArray,List.getElem_cons_zero,List.getElem_cons_succ]))
    | (refine wpAnyH_take (i:=15) (v:=?_) rfl (by kernel_rfl) (by decide +kernel) (by decide +kernel) (fun _ _ _ h=>h) (Or.inl ⟨by rfl,?_⟩) (by assumption) ?_;rotate_left;(focus (intro w hSw;(try dsimp only at hSw);go_simp;try (with_reducible rfl)));(try simp only [Act.put,List.setIfInBounds_toArray,List.set_cons_zero,List.set_cons_succ,List.getElem_toArray,List.getElem_cons_zero,List.getElem_cons_succ]))
    | (refine wpAnyH_ready (rs:=[2,6,9,13]) (by decide +kernel) (by simp) ?_;refine (AllReadyH.cons rfl (fun K hK=>?_) (AllReadyH.cons rfl (fun K hK=>?_) (AllReadyH.cons rfl (fun K hK=>?_) (AllReadyH.cons rfl (fun K hK=>?_) AllReadyH.nil))));all_goals (go_simp;(try (go_at_call 81;refine (spec_FormatInt_c _ _ (by omega) (by omega)).mono ?_;rintro e wq ⟨rfl,hbq⟩;first | (have hcc:=bCell hbq hcc) | (have hcc:=bCell hbq (cells_d (k:=2) rfl)) | (have hcc:=bCell hbq (cells_a (k:=2) rfl)) | skip));refine hK.out _ _ ?_ (fun hHeld=>?_);(focus (first | go_keep | (obtain ⟨s0,s1,s2⟩:=hHeld;exact ⟨bCell hbq s0,bCell hbq s1,bCell hbq s2⟩)));clear hK K;(try simp only [Act.put,List.setIfInBounds_toArray,List.set_cons_zero,List.set_cons_succ,List.getElem_toArray,List.getElem_cons_zero,List.getElem_cons_succ])))
    | (refine wpAnyH_ready (rs:=[2,6,9]) (by decide +kernel) (by simp) ?_;refine (AllReadyH.cons rfl (fun K hK=>?_) (AllReadyH.cons rfl (fun K hK=>?_) (AllReadyH.cons rfl (fun K hK=>?_) AllReadyH.nil)));all_goals (go_simp;(try (go_at_call 81;refine (spec_FormatInt_c _ _ (by omega) (by omega)).mono ?_;rintro e wq ⟨rfl,hbq⟩;first | (have hcc:=bCell hbq hcc) | (have hcc:=bCell hbq (cells_d (k:=2) rfl)) | (have hcc:=bCell hbq (cells_a (k:=2) rfl)) | skip));refine hK.out _ _ ?_ (fun hHeld=>?_);(focus (first | go_keep | (obtain ⟨s0,s1,s2⟩:=hHeld;exact ⟨bCell hbq s0,bCell hbq s1,bCell hbq s2⟩)));clear hK K;(try simp only [Act.put,List.setIfInBounds_toArray,List.set_cons_zero,List.set_cons_succ,List.getElem_toArray,List.getElem_cons_zero,List.getElem_cons_succ])))
    | (refine wpAnyH_ready (rs:=[2,6,13]) (by decide +kernel) (by simp) ?_;refine (AllReadyH.cons rfl (fun K hK=>?_) (AllReadyH.cons rfl (fun K hK=>?_) (AllReadyH.cons rfl (fun K hK=>?_) AllReadyH.nil)));all_goals (go_simp;(try (go_at_call 81;refine (spec_FormatInt_c _ _ (by omega) (by omega)).mono ?_;rintro e wq ⟨rfl,hbq⟩;first | (have hcc:=bCell hbq hcc) | (have hcc:=bCell hbq (cells_d (k:=2) rfl)) | (have hcc:=bCell hbq (cells_a (k:=2) rfl)) | skip));refine hK.out _ _ ?_ (fun hHeld=>?_);(focus (first | go_keep | (obtain ⟨s0,s1,s2⟩:=hHeld;exact ⟨bCell hbq s0,bCell hbq s1,bCell hbq s2⟩)));clear hK K;(try simp only [Act.put,List.setIfInBounds_toArray,List.set_cons_zero,List.set_cons_succ,List.getElem_toArray,List.getElem_cons_zero,List.getElem_cons_succ])))
    | (refine wpAnyH_ready (rs:=[2,9,13]) (by decide +kernel) (by simp) ?_;refine (AllReadyH.cons rfl (fun K hK=>?_) (AllReadyH.cons rfl (fun K hK=>?_) (AllReadyH.cons rfl (fun K hK=>?_) AllReadyH.nil)));all_goals (go_simp;(try (go_at_call 81;refine (spec_FormatInt_c _ _ (by omega) (by omega)).mono ?_;rintro e wq ⟨rfl,hbq⟩;first | (have hcc:=bCell hbq hcc) | (have hcc:=bCell hbq (cells_d (k:=2) rfl)) | (have hcc:=bCell hbq (cells_a (k:=2) rfl)) | skip));refine hK.out _ _ ?_ (fun hHeld=>?_);(focus (first | go_keep | (obtain ⟨s0,s1,s2⟩:=hHeld;exact ⟨bCell hbq s0,bCell hbq s1,bCell hbq s2⟩)));clear hK K;(try simp only [Act.put,List.setIfInBounds_toArray,List.set_cons_zero,List.set_cons_succ,List.getElem_toArray,List.getElem_cons_zero,List.getElem_cons_succ])))
    | (refine wpAnyH_ready (rs:=[6,9,13]) (by decide +kernel) (by simp) ?_;refine (AllReadyH.cons rfl (fun K hK=>?_) (AllReadyH.cons rfl (fun K hK=>?_) (AllReadyH.cons rfl (fun K hK=>?_) AllReadyH.nil)));all_goals (go_simp;(try (go_at_call 81;refine (spec_FormatInt_c _ _ (by omega) (by omega)).mono ?_;rintro e wq ⟨rfl,hbq⟩;first | (have hcc:=bCell hbq hcc) | (have hcc:=bCell hbq (cells_d (k:=2) rfl)) | (have hcc:=bCell hbq (cells_a (k:=2) rfl)) | skip));refine hK.out _ _ ?_ (fun hHeld=>?_);(focus (first | go_keep | (obtain ⟨s0,s1,s2⟩:=hHeld;exact ⟨bCell hbq s0,bCell hbq s1,bCell hbq s2⟩)));clear hK K;(try simp only [Act.put,List.setIfInBounds_toArray,List.set_cons_zero,List.set_cons_succ,List.getElem_toArray,List.getElem_cons_zero,List.getElem_cons_succ])))
    | (refine wpAnyH_ready (rs:=[2,6]) (by decide +kernel) (by simp) ?_;refine (AllReadyH.cons rfl (fun K hK=>?_) (AllReadyH.cons rfl (fun K hK=>?_) AllReadyH.nil));all_goals (go_simp;(try (go_at_call 81;refine (spec_FormatInt_c _ _ (by omega) (by omega)).mono ?_;rintro e wq ⟨rfl,hbq⟩;first | (have hcc:=bCell hbq hcc) | (have hcc:=bCell hbq (cells_d (k:=2) rfl)) | (have hcc:=bCell hbq (cells_a (k:=2) rfl)) | skip));refine hK.out _ _ ?_ (fun hHeld=>?_);(focus (first | go_keep | (obtain ⟨s0,s1,s2⟩:=hHeld;exact ⟨bCell hbq s0,bCell hbq s1,bCell hbq s2⟩)));clear hK K;(try simp only [Act.put,List.setIfInBounds_toArray,List.set_cons_zero,List.set_cons_succ,List.getElem_toArray,List.getElem_cons_zero,List.getElem_cons_succ])))
    | (refine wpAnyH_ready (rs:=[2,9]) (by decide +kernel) (by simp) ?_;refine (AllReadyH.cons rfl (fun K hK=>?_) (AllReadyH.cons rfl (fun K hK=>?_) AllReadyH.nil));all_goals (go_simp;(try (go_at_call 81;refine (spec_FormatInt_c _ _ (by omega) (by omega)).mono ?_;rintro e wq ⟨rfl,hbq⟩;first | (have hcc:=bCell hbq hcc) | (have hcc:=bCell hbq (cells_d (k:=2) rfl)) | (have hcc:=bCell hbq (cells_a (k:=2) rfl)) | skip));refine hK.out _ _ ?_ (fun hHeld=>?_);(focus (first | go_keep | (obtain ⟨s0,s1,s2⟩:=hHeld;exact ⟨bCell hbq s0,bCell hbq s1,bCell hbq s2⟩)));clear hK K;(try simp only [Act.put,List.setIfInBounds_toArray,List.set_cons_zero,List.set_cons_succ,List.getElem_toArray,List.getElem_cons_zero,List.getElem_cons_succ])))
    | (refine wpAnyH_ready (rs:=[2,13]) (by decide +kernel) (by simp) ?_;refine (AllReadyH.cons rfl (fun K hK=>?_) (AllReadyH.cons rfl (fun K hK=>?_) AllReadyH.nil));all_goals (go_simp;(try (go_at_call 81;refine (spec_FormatInt_c _ _ (by omega) (by omega)).mono ?_;rintro e wq ⟨rfl,hbq⟩;first | (have hcc:=bCell hbq hcc) | (have hcc:=bCell hbq (cells_d (k:=2) rfl)) | (have hcc:=bCell hbq (cells_a (k:=2) rfl)) | skip));refine hK.out _ _ ?_ (fun hHeld=>?_);(focus (first | go_keep | (obtain ⟨s0,s1,s2⟩:=hHeld;exact ⟨bCell hbq s0,bCell hbq s1,bCell hbq s2⟩)));clear hK K;(try simp only [Act.put,List.setIfInBounds_toArray,List.set_cons_zero,List.set_cons_succ,List.getElem_toArray,List.getElem_cons_zero,List.getElem_cons_succ])))
    | (refine wpAnyH_ready (rs:=[6,9]) (by decide +kernel) (by simp) ?_;refine (AllReadyH.cons rfl (fun K hK=>?_) (AllReadyH.cons rfl (fun K hK=>?_) AllReadyH.nil));all_goals (go_simp;(try (go_at_call 81;refine (spec_FormatInt_c _ _ (by omega) (by omega)).mono ?_;rintro e wq ⟨rfl,hbq⟩;first | (have hcc:=bCell hbq hcc) | (have hcc:=bCell hbq (cells_d (k:=2) rfl)) | (have hcc:=bCell hbq (cells_a (k:=2) rfl)) | skip));refine hK.out _ _ ?_ (fun hHeld=>?_);(focus (first | go_keep | (obtain ⟨s0,s1,s2⟩:=hHeld;exact ⟨bCell hbq s0,bCell hbq s1,bCell hbq s2⟩)));clear hK K;(try simp only [Act.put,List.setIfInBounds_toArray,List.set_cons_zero,List.set_cons_succ,List.getElem_toArray,List.getElem_cons_zero,List.getElem_cons_succ])))
    | (refine wpAnyH_ready (rs:=[6,13]) (by decide +kernel) (by simp) ?_;refine (AllReadyH.cons rfl (fun K hK=>?_) (AllReadyH.cons rfl (fun K hK=>?_) AllReadyH.nil));all_goals (go_simp;(try (go_at_call 81;refine (spec_FormatInt_c _ _ (by omega) (by omega)).mono ?_;rintro e wq ⟨rfl,hbq⟩;first | (have hcc:=bCell hbq hcc) | (have hcc:=bCell hbq (cells_d (k:=2) rfl)) | (have hcc:=bCell hbq (cells_a (k:=2) rfl)) | skip));refine hK.out _ _ ?_ (fun hHeld=>?_);(focus (first | go_keep | (obtain ⟨s0,s1,s2⟩:=hHeld;exact ⟨bCell hbq s0,bCell hbq s1,bCell hbq s2⟩)));clear hK K;(try simp only [Act.put,List.setIfInBounds_toArray,List.set_cons_zero,List.set_cons_succ,List.getElem_toArray,List.getElem_cons_zero,List.getElem_cons_succ])))
    | (refine wpAnyH_ready (rs:=[9,13]) (by decide +kernel) (by simp) ?_;refine (AllReadyH.cons rfl (fun K hK=>?_) (AllReadyH.cons rfl (fun K hK=>?_) AllReadyH.nil));all_goals (go_simp;(try (go_at_call 81;refine (spec_FormatInt_c _ _ (by omega) (by omega)).mono ?_;rintro e wq ⟨rfl,hbq⟩;first | (have hcc:=bCell hbq hcc) | (have hcc:=bCell hbq (cells_d (k:=2) rfl)) | (have hcc:=bCell hbq (cells_a (k:=2) rfl)) | skip));refine hK.out _ _ ?_ (fun hHeld=>?_);(focus (first | go_keep | (obtain ⟨s0,s1,s2⟩:=hHeld;exact ⟨bCell hbq s0,bCell hbq s1,bCell hbq s2⟩)));clear hK K;(try simp only [Act.put,List.setIfInBounds_toArray,List.set_cons_zero,List.set_cons_succ,List.getElem_toArray,List.getElem_cons_zero,List.getElem_cons_succ])))
    | (refine wpAnyH_ready (rs:=[2]) (by decide +kernel) (by simp) ?_;refine (AllReadyH.cons rfl (fun K hK=>?_) AllReadyH.nil);all_goals (go_simp;(try (go_at_call 81;refine (spec_FormatInt_c _ _ (by omega) (by omega)).mono ?_;rintro e wq ⟨rfl,hbq⟩;first | (have hcc:=bCell hbq hcc) | (have hcc:=bCell hbq (cells_d (k:=2) rfl)) | (have hcc:=bCell hbq (cells_a (k:=2) rfl)) | skip));refine hK.out _ _ ?_ (fun hHeld=>?_);(focus (first | go_keep | (obtain ⟨s0,s1,s2⟩:=hHeld;exact ⟨bCell hbq s0,bCell hbq s1,bCell hbq s2⟩)));clear hK K;(try simp only [Act.put,List.setIfInBounds_toArray,List.set_cons_zero,List.set_cons_succ,List.getElem_toArray,List.getElem_cons_zero,List.getElem_cons_succ])))
    | (refine wpAnyH_ready (rs:=[6]) (by decide +kernel) (by simp) ?_;refine (AllReadyH.cons rfl (fun K hK=>?_) AllReadyH.nil);all_goals (go_simp;(try (go_at_call 81;refine (spec_FormatInt_c _ _ (by omega) (by omega)).mono ?_;rintro e wq ⟨rfl,hbq⟩;first | (have hcc:=bCell hbq hcc) | (have hcc:=bCell hbq (cells_d (k:=2) rfl)) | (have hcc:=bCell hbq (cells_a (k:=2) rfl)) | skip));refine hK.out _ _ ?_ (fun hHeld=>?_);(focus (first | go_keep | (obtain ⟨s0,s1,s2⟩:=hHeld;exact ⟨bCell hbq s0,bCell hbq s1,bCell hbq s2⟩)));clear hK K;(try simp only [Act.put,List.setIfInBounds_toArray,List.set_cons_zero,List.set_cons_succ,List.getElem_toArray,List.getElem_cons_zero,List.getElem_cons_succ])))
    | (refine wpAnyH_ready (rs:=[9]) (by decide +kernel) (by simp) ?_;refine (AllReadyH.cons rfl (fun K hK=>?_) AllReadyH.nil);all_goals (go_simp;(try (go_at_call 81;refine (spec_FormatInt_c _ _ (by omega) (by omega)).mono ?_;rintro e wq ⟨rfl,hbq⟩;first | (have hcc:=bCell hbq hcc) | (have hcc:=bCell hbq (cells_d (k:=2) rfl)) | (have hcc:=bCell hbq (cells_a (k:=2) rfl)) | skip));refine hK.out _ _ ?_ (fun hHeld=>?_);(focus (first | go_keep | (obtain ⟨s0,s1,s2⟩:=hHeld;exact ⟨bCell hbq s0,bCell hbq s1,bCell hbq s2⟩)));clear hK K;(try simp only [Act.put,List.setIfInBounds_toArray,List.set_cons_zero,List.set_cons_succ,List.getElem_toArray,List.getElem_cons_zero,List.getElem_cons_succ])))
    | (refine wpAnyH_ready (rs:=[13]) (by decide +kernel) (by simp) ?_;refine (AllReadyH.cons rfl (fun K hK=>?_) AllReadyH.nil);all_goals (go_simp;(try (go_at_call 81;refine (spec_FormatInt_c _ _ (by omega) (by omega)).mono ?_;rintro e wq ⟨rfl,hbq⟩;first | (have hcc:=bCell hbq hcc) | (have hcc:=bCell hbq (cells_d (k:=2) rfl)) | (have hcc:=bCell hbq (cells_a (k:=2) rfl)) | skip));refine hK.out _ _ ?_ (fun hHeld=>?_);(focus (first | go_keep | (obtain ⟨s0,s1,s2⟩:=hHeld;exact ⟨bCell hbq s0,bCell hbq s1,bCell hbq s2⟩)));clear hK K;(try simp only [Act.put,List.setIfInBounds_toArray,List.set_cons_zero,List.set_cons_succ,List.getElem_toArray,List.getElem_cons_zero,List.getElem_cons_succ])))
    | skip))
  all_goals
    go_wp2
    go_ret
    exact ⟨by rw [hfin.out];rfl,by repeat (first | with_reducible exact Below.refl _ _ | with_reducible exact hwb | with_reducible refine bAlloc ?_ _ | with_reducible refine bDrew ?_ | with_reducible refine bTrans ?_ (by with_reducible assumption))⟩
theorem spec_FormatPose_3 (x y:Int) (w:World) (hv:vldPose 3 x y=true):Calls Tryz.prog 163 #[vPose 3 x y] w fun e w'=>e=.returned (.string (fmtPose 3 x y))∧Below w.heap.size w w':=by
  have HV:=Lib.hid hv
  obtain ⟨x0,x1,y0,y1⟩:-1000000≤x∧x≤1000000∧-1000000≤y∧y≤1000000:=by
    simp [vldPose,inR] at hv;omega
  obtain ⟨s2,e2,z2,c2⟩:=cat (itoaB x) ⟨#[44]⟩ 21 1 (itoaB_size (by omega) (by omega)) (Nat.le_refl _) (by omega)
  obtain ⟨s3,e3,z3,c3⟩:=cat s2 (itoaB y) _ 21 z2 (itoaB_size (by omega) (by omega)) (by omega)
  obtain ⟨s4,e4,z4,c4⟩:=cat s3 ⟨#[44]⟩ _ 1 z3 (Nat.le_refl _) (by omega)
  obtain ⟨s5,e5,z5,c5⟩:=cat s4 ⟨#[turnB 3]⟩ _ 1 z4 (Nat.le_refl _) (by omega)
  have hfin:Hid (fmtPose 3 x y=s5):=by
    simp only [Hid,fmtPose,HV.out,if_true]
    rw [← e5.out,← e4.out,← e3.out,← e2.out]
    apply bext
    simp [poseL,itoaB,ByteArray.data_append]
  have ht:(turnB 3)=115:=rfl
  rw [ht] at c5
  clear z2 z3 z4 z5 ht hv
  go_enter Tryz.func163,Tryz.ntmps163
  go_wp2_with (go_at_call 172;refine (spec_IsValidPose_c _ _ _ _).mono ?_;rw [HV.out];rintro e w1 ⟨rfl,hb1⟩;obtain ⟨hc,hfz⟩:=bcell hb1)
  refine region_at fun R hR=>?_
  have hwb:Below w.heap.size w R:=by rw [hR.out];exact bTrans (bAlloc (Below.refl _ _) _) hb1
  have g0:R.cell? ⟨w.heap.size,0,none⟩=some (.int .i64 3):=by rw [hR.out];exact bCell hb1 (cells_a rfl)
  have g1:R.cell? ⟨w.heap.size,1,none⟩=some (.int .i64 x):=by rw [hR.out];exact bCell hb1 (cells_a rfl)
  have g2:R.cell? ⟨w.heap.size,2,none⟩=some (.int .i64 y):=by rw [hR.out];exact bCell hb1 (cells_a rfl)
  clear hR hc hfz
  refine wp_region_noPanic ?_
  refine wp_region_held_drew (S:=fun w'=>w'.cell? ⟨w.heap.size,0,none⟩=some (.int .i64 3)∧w'.cell? ⟨w.heap.size,1,none⟩=some (.int .i64 x)∧w'.cell? ⟨w.heap.size,2,none⟩=some (.int .i64 y)) (by kernel_rfl) (by (try dsimp only);(first | go_keep | (obtain ⟨s0,s1,s2⟩:=hHeld;exact ⟨bCell hbq s0,bCell hbq s1,bCell hbq s2⟩))) (fun hHeld=>?_)
  iterate 18 (all_goals (first
    | (refine wpAnyH_done (by decide +kernel) ?_ _;refine NoPanic.normal ?_;have hend:=trivial)
    | (refine wpAnyH_take (i:=0) (v:=?_) rfl (by kernel_rfl) (by decide +kernel) (by decide +kernel) (fun _ _ _ h=>h) (Or.inl ⟨by rfl,?_⟩) (by assumption) ?_;rotate_left;(focus (intro w hSw;(try dsimp only at hSw);go_simp;try (with_reducible rfl)));(try simp only [Act.put,List.setIfInBounds_toArray,List.set_cons_zero,List.set_cons_succ,List.getElem_toArray,List.getElem_cons_zero,List.getElem_cons_succ]))
    | (refine wpAnyH_take (i:=1) (v:=?_) rfl (by kernel_rfl) (by decide +kernel) (by decide +kernel) (fun _ _ _ h=>h) (Or.inl ⟨by rfl,?_⟩) (by assumption) ?_;rotate_left;(focus (intro w hSw;(try dsimp only at hSw);go_simp;try (with_reducible rfl)));(try simp only [Act.put,List.setIfInBounds_toArray,List.set_cons_zero,List.set_cons_succ,List.getElem_toArray,List.getElem_cons_zero,List.getElem_cons_succ]))
    | (refine wpAnyH_take (i:=4) (v:=?_) rfl (by kernel_rfl) (by decide +kernel) (by decide +kernel) (fun _ _ _ h=>h) (Or.inl ⟨by rfl,?_⟩) (by assumption) ?_;rotate_left;(focus (intro w hSw;(try dsimp only at hSw);go_simp;try (with_reducible rfl)));(try simp only [Act.put,List.setIfInBounds_toArray,List.set_cons_zero,List.set_cons_succ,List.getElem_toArray,List.getElem_cons_zero,List.getElem_cons_succ]))
    | (refine wpAnyH_take (i:=5) (v:=?_) rfl (by kernel_rfl) (by decide +kernel) (by decide +kernel) (fun _ _ _ h=>h) (Or.inl ⟨by rfl,?_⟩) (by assumption) ?_;rotate_left;(focus (intro w hSw;(try dsimp only at hSw);go_simp;try (with_reducible rfl)));(try simp only [Act.put,List.setIfInBounds_toArray,List.set_cons_zero,List.set_cons_succ,List.getElem_toArray,List.getElem_cons_zero,List.getElem_cons_succ]))
    | (refine wpAnyH_take (i:=10) (v:=?_) rfl (by kernel_rfl) (by decide +kernel) (by decide +kernel) (fun _ _ _ h=>h) (Or.inl ⟨by rfl,?_⟩) (by assumption) ?_;rotate_left;(focus (intro w hSw;(try dsimp only at hSw);go_simp;try (with_reducible rfl)));(try simp only [Act.put,List.setIfInBounds_toArray,List.set_cons_zero,List.set_cons_succ,List.getElem_toArray,List.getElem_cons_zero,List.getElem_cons_succ]))
    | (refine wpAnyH_take (i:=11) (v:=?_) rfl (by kernel_rfl) (by decide +kernel) (by decide +kernel) (fun _ _ _ h=>h) (Or.inl ⟨by rfl,?_⟩) (by assumption) ?_;rotate_left;(focus (intro w hSw;(try dsimp only at hSw);go_simp;try (with_reducible rfl)));(try simp only [Act.put,List.setIfInBounds_toArray,List.set_cons_zero,List.set_cons_succ,List.getElem_toArray,List.getElem_cons_zero,List.getElem_cons_succ]))
    | (refine wpAnyH_take (i:=3) (v:=?_) rfl (by kernel_rfl) (by decide +kernel) (by decide +kernel) (fun _ _ _ h=>h) (Or.inl ⟨by rfl,?_⟩) (by assumption) ?_;rotate_left;(focus (intro w hSw;(try dsimp only at hSw);go_simp;try (with_reducible rfl)));(try simp only [Act.put,List.setIfInBounds_toArray,List.set_cons_zero,List.set_cons_succ,List.getElem_toArray,List.getElem_cons_zero,List.getElem_cons_succ]))
    | (refine wpAnyH_take (i:=7) (v:=?_) rfl (by kernel_rfl) (by decide +kernel) (by decide +kernel) (fun _ _ _ h=>h) (Or.inl ⟨by rfl,?_⟩) (by assumption) ?_;rotate_left;(focus (intro w hSw;(try dsimp only at hSw);go_simp;try (with_reducible rfl)));(try simp only [Act.put,List.setIfInBounds_toArray,List.set_cons_zero,List.set_cons_succ,List.getElem_toArray,List.getElem_cons_zero,List.getElem_cons_succ]))
    | (refine wpAnyH_take (i:=8) (v:=?_) rfl (by kernel_rfl) (by decide +kernel) (by decide +kernel) (fun _ _ _ h=>h) (Or.inl ⟨by rfl,?_⟩) (by assumption) ?_;rotate_left;(focus (intro w hSw;(try dsimp only at hSw);go_simp;try (with_reducible rfl)));(try simp only [Act.put,List.setIfInBounds_toArray,List.set_cons_zero,List.set_cons_succ,List.getElem_toArray,List.getElem_cons_zero,List.getElem_cons_succ]))
    | (refine wpAnyH_take (i:=12) (v:=?_) rfl (by kernel_rfl) (by decide +kernel) (by decide +kernel) (fun _ _ _ h=>h) (Or.inl ⟨by rfl,?_⟩) (by assumption) ?_;rotate_left;(focus (intro w hSw;(try dsimp only at hSw);go_simp;try (with_reducible rfl)));(try simp only [Act.put,List.setIfInBounds_toArray,List.set_cons_zero,List.set_cons_succ,List.getElem_toArray,List.getElem_cons_zero,List.getElem_cons_succ]))
    | (refine wpAnyH_take (i:=14) (v:=?_) rfl (by kernel_rfl) (by decide +kernel) (by decide +kernel) (fun _ _ _ h=>h) (Or.inl ⟨by rfl,?_⟩) (by assumption) ?_;rotate_left;(focus (intro w hSw;(try dsimp only at hSw);go_simp;try (with_reducible rfl)));(try simp only [Act.put,List.setIfInBounds_toArray,List.set_cons_zero,List.set_cons_succ,List.getElem_toArray,List.getElem_cons_zero,List.getElem_cons_succ]))
    | (refine wpAnyH_take (i:=15) (v:=?_) rfl (by kernel_rfl) (by decide +kernel) (by decide +kernel) (fun _ _ _ h=>h) (Or.inl ⟨by rfl,?_⟩) (by assumption) ?_;rotate_left;(focus (intro w hSw;(try dsimp only at hSw);go_simp;try (with_reducible rfl)));(try simp only [Act.put,List.setIfInBounds_toArray,List.set_cons_zero,List.set_cons_succ,List.getElem_toArray,List.getElem_cons_zero,List.getElem_cons_succ]))
    | (refine wpAnyH_ready (rs:=[2,6,9,13]) (by decide +kernel) (by simp) ?_;refine (AllReadyH.cons rfl (fun K hK=>?_) (AllReadyH.cons rfl (fun K hK=>?_) (AllReadyH.cons rfl (fun K hK=>?_) (AllReadyH.cons rfl (fun K hK=>?_) AllReadyH.nil))));all_goals (go_simp;(try (go_at_call 81;refine (spec_FormatInt_c _ _ (by omega) (by omega)).mono ?_;rintro e wq ⟨rfl,hbq⟩;first | (have hcc:=bCell hbq hcc) | (have hcc:=bCell hbq (cells_d (k:=3) rfl)) | (have hcc:=bCell hbq (cells_a (k:=3) rfl)) | skip));refine hK.out _ _ ?_ (fun hHeld=>?_);(focus (first | go_keep | (obtain ⟨s0,s1,s2⟩:=hHeld;exact ⟨bCell hbq s0,bCell hbq s1,bCell hbq s2⟩)));clear hK K;(try simp only [Act.put,List.setIfInBounds_toArray,List.set_cons_zero,List.set_cons_succ,List.getElem_toArray,List.getElem_cons_zero,List.getElem_cons_succ])))
    | (refine wpAnyH_ready (rs:=[2,6,9]) (by decide +kernel) (by simp) ?_;refine (AllReadyH.cons rfl (fun K hK=>?_) (AllReadyH.cons rfl (fun K hK=>?_) (AllReadyH.cons rfl (fun K hK=>?_) AllReadyH.nil)));all_goals (go_simp;(try (go_at_call 81;refine (spec_FormatInt_c _ _ (by omega) (by omega)).mono ?_;rintro e wq ⟨rfl,hbq⟩;first | (have hcc:=bCell hbq hcc) | (have hcc:=bCell hbq (cells_d (k:=3) rfl)) | (have hcc:=bCell hbq (cells_a (k:=3) rfl)) | skip));refine hK.out _ _ ?_ (fun hHeld=>?_);(focus (first | go_keep | (obtain ⟨s0,s1,s2⟩:=hHeld;exact ⟨bCell hbq s0,bCell hbq s1,bCell hbq s2⟩)));clear hK K;(try simp only [Act.put,List.setIfInBounds_toArray,List.set_cons_zero,List.set_cons_succ,List.getElem_toArray,List.getElem_cons_zero,List.getElem_cons_succ])))
    | (refine wpAnyH_ready (rs:=[2,6,13]) (by decide +kernel) (by simp) ?_;refine (AllReadyH.cons rfl (fun K hK=>?_) (AllReadyH.cons rfl (fun K hK=>?_) (AllReadyH.cons rfl (fun K hK=>?_) AllReadyH.nil)));all_goals (go_simp;(try (go_at_call 81;refine (spec_FormatInt_c _ _ (by omega) (by omega)).mono ?_;rintro e wq ⟨rfl,hbq⟩;first | (have hcc:=bCell hbq hcc) | (have hcc:=bCell hbq (cells_d (k:=3) rfl)) | (have hcc:=bCell hbq (cells_a (k:=3) rfl)) | skip));refine hK.out _ _ ?_ (fun hHeld=>?_);(focus (first | go_keep | (obtain ⟨s0,s1,s2⟩:=hHeld;exact ⟨bCell hbq s0,bCell hbq s1,bCell hbq s2⟩)));clear hK K;(try simp only [Act.put,List.setIfInBounds_toArray,List.set_cons_zero,List.set_cons_succ,List.getElem_toArray,List.getElem_cons_zero,List.getElem_cons_succ])))
    | (refine wpAnyH_ready (rs:=[2,9,13]) (by decide +kernel) (by simp) ?_;refine (AllReadyH.cons rfl (fun K hK=>?_) (AllReadyH.cons rfl (fun K hK=>?_) (AllReadyH.cons rfl (fun K hK=>?_) AllReadyH.nil)));all_goals (go_simp;(try (go_at_call 81;refine (spec_FormatInt_c _ _ (by omega) (by omega)).mono ?_;rintro e wq ⟨rfl,hbq⟩;first | (have hcc:=bCell hbq hcc) | (have hcc:=bCell hbq (cells_d (k:=3) rfl)) | (have hcc:=bCell hbq (cells_a (k:=3) rfl)) | skip));refine hK.out _ _ ?_ (fun hHeld=>?_);(focus (first | go_keep | (obtain ⟨s0,s1,s2⟩:=hHeld;exact ⟨bCell hbq s0,bCell hbq s1,bCell hbq s2⟩)));clear hK K;(try simp only [Act.put,List.setIfInBounds_toArray,List.set_cons_zero,List.set_cons_succ,List.getElem_toArray,List.getElem_cons_zero,List.getElem_cons_succ])))
    | (refine wpAnyH_ready (rs:=[6,9,13]) (by decide +kernel) (by simp) ?_;refine (AllReadyH.cons rfl (fun K hK=>?_) (AllReadyH.cons rfl (fun K hK=>?_) (AllReadyH.cons rfl (fun K hK=>?_) AllReadyH.nil)));all_goals (go_simp;(try (go_at_call 81;refine (spec_FormatInt_c _ _ (by omega) (by omega)).mono ?_;rintro e wq ⟨rfl,hbq⟩;first | (have hcc:=bCell hbq hcc) | (have hcc:=bCell hbq (cells_d (k:=3) rfl)) | (have hcc:=bCell hbq (cells_a (k:=3) rfl)) | skip));refine hK.out _ _ ?_ (fun hHeld=>?_);(focus (first | go_keep | (obtain ⟨s0,s1,s2⟩:=hHeld;exact ⟨bCell hbq s0,bCell hbq s1,bCell hbq s2⟩)));clear hK K;(try simp only [Act.put,List.setIfInBounds_toArray,List.set_cons_zero,List.set_cons_succ,List.getElem_toArray,List.getElem_cons_zero,List.getElem_cons_succ])))
    | (refine wpAnyH_ready (rs:=[2,6]) (by decide +kernel) (by simp) ?_;refine (AllReadyH.cons rfl (fun K hK=>?_) (AllReadyH.cons rfl (fun K hK=>?_) AllReadyH.nil));all_goals (go_simp;(try (go_at_call 81;refine (spec_FormatInt_c _ _ (by omega) (by omega)).mono ?_;rintro e wq ⟨rfl,hbq⟩;first | (have hcc:=bCell hbq hcc) | (have hcc:=bCell hbq (cells_d (k:=3) rfl)) | (have hcc:=bCell hbq (cells_a (k:=3) rfl)) | skip));refine hK.out _ _ ?_ (fun hHeld=>?_);(focus (first | go_keep | (obtain ⟨s0,s1,s2⟩:=hHeld;exact ⟨bCell hbq s0,bCell hbq s1,bCell hbq s2⟩)));clear hK K;(try simp only [Act.put,List.setIfInBounds_toArray,List.set_cons_zero,List.set_cons_succ,List.getElem_toArray,List.getElem_cons_zero,List.getElem_cons_succ])))
    | (refine wpAnyH_ready (rs:=[2,9]) (by decide +kernel) (by simp) ?_;refine (AllReadyH.cons rfl (fun K hK=>?_) (AllReadyH.cons rfl (fun K hK=>?_) AllReadyH.nil));all_goals (go_simp;(try (go_at_call 81;refine (spec_FormatInt_c _ _ (by omega) (by omega)).mono ?_;rintro e wq ⟨rfl,hbq⟩;first | (have hcc:=bCell hbq hcc) | (have hcc:=bCell hbq (cells_d (k:=3) rfl)) | (have hcc:=bCell hbq (cells_a (k:=3) rfl)) | skip));refine hK.out _ _ ?_ (fun hHeld=>?_);(focus (first | go_keep | (obtain ⟨s0,s1,s2⟩:=hHeld;exact ⟨bCell hbq s0,bCell hbq s1,bCell hbq s2⟩)));clear hK K;(try simp only [Act.put,List.setIfInBounds_toArray,List.set_cons_zero,List.set_cons_succ,List.getElem_toArray,List.getElem_cons_zero,List.getElem_cons_succ])))
    | (refine wpAnyH_ready (rs:=[2,13]) (by decide +kernel) (by simp) ?_;refine (AllReadyH.cons rfl (fun K hK=>?_) (AllReadyH.cons rfl (fun K hK=>?_) AllReadyH.nil));all_goals (go_simp;(try (go_at_call 81;refine (spec_FormatInt_c _ _ (by omega) (by omega)).mono ?_;rintro e wq ⟨rfl,hbq⟩;first | (have hcc:=bCell hbq hcc) | (have hcc:=bCell hbq (cells_d (k:=3) rfl)) | (have hcc:=bCell hbq (cells_a (k:=3) rfl)) | skip));refine hK.out _ _ ?_ (fun hHeld=>?_);(focus (first | go_keep | (obtain ⟨s0,s1,s2⟩:=hHeld;exact ⟨bCell hbq s0,bCell hbq s1,bCell hbq s2⟩)));clear hK K;(try simp only [Act.put,List.setIfInBounds_toArray,List.set_cons_zero,List.set_cons_succ,List.getElem_toArray,List.getElem_cons_zero,List.getElem_cons_succ])))
    | (refine wpAnyH_ready (rs:=[6,9]) (by decide +kernel) (by simp) ?_;refine (AllReadyH.cons rfl (fun K hK=>?_) (AllReadyH.cons rfl (fun K hK=>?_) AllReadyH.nil));all_goals (go_simp;(try (go_at_call 81;refine (spec_FormatInt_c _ _ (by omega) (by omega)).mono ?_;rintro e wq ⟨rfl,hbq⟩;first | (have hcc:=bCell hbq hcc) | (have hcc:=bCell hbq (cells_d (k:=3) rfl)) | (have hcc:=bCell hbq (cells_a (k:=3) rfl)) | skip));refine hK.out _ _ ?_ (fun hHeld=>?_);(focus (first | go_keep | (obtain ⟨s0,s1,s2⟩:=hHeld;exact ⟨bCell hbq s0,bCell hbq s1,bCell hbq s2⟩)));clear hK K;(try simp only [Act.put,List.setIfInBounds_toArray,List.set_cons_zero,List.set_cons_succ,List.getElem_toArray,List.getElem_cons_zero,List.getElem_cons_succ])))
    | (refine wpAnyH_ready (rs:=[6,13]) (by decide +kernel) (by simp) ?_;refine (AllReadyH.cons rfl (fun K hK=>?_) (AllReadyH.cons rfl (fun K hK=>?_) AllReadyH.nil));all_goals (go_simp;(try (go_at_call 81;refine (spec_FormatInt_c _ _ (by omega) (by omega)).mono ?_;rintro e wq ⟨rfl,hbq⟩;first | (have hcc:=bCell hbq hcc) | (have hcc:=bCell hbq (cells_d (k:=3) rfl)) | (have hcc:=bCell hbq (cells_a (k:=3) rfl)) | skip));refine hK.out _ _ ?_ (fun hHeld=>?_);(focus (first | go_keep | (obtain ⟨s0,s1,s2⟩:=hHeld;exact ⟨bCell hbq s0,bCell hbq s1,bCell hbq s2⟩)));clear hK K;(try simp only [Act.put,List.setIfInBounds_toArray,List.set_cons_zero,List.set_cons_succ,List.getElem_toArray,List.getElem_cons_zero,List.getElem_cons_succ])))
    | (refine wpAnyH_ready (rs:=[9,13]) (by decide +kernel) (by simp) ?_;refine (AllReadyH.cons rfl (fun K hK=>?_) (AllReadyH.cons rfl (fun K hK=>?_) AllReadyH.nil));all_goals (go_simp;(try (go_at_call 81;refine (spec_FormatInt_c _ _ (by omega) (by omega)).mono ?_;rintro e wq ⟨rfl,hbq⟩;first | (have hcc:=bCell hbq hcc) | (have hcc:=bCell hbq (cells_d (k:=3) rfl)) | (have hcc:=bCell hbq (cells_a (k:=3) rfl)) | skip));refine hK.out _ _ ?_ (fun hHeld=>?_);(focus (first | go_keep | (obtain ⟨s0,s1,s2⟩:=hHeld;exact ⟨bCell hbq s0,bCell hbq s1,bCell hbq s2⟩)));clear hK K;(try simp only [Act.put,List.setIfInBounds_toArray,List.set_cons_zero,List.set_cons_succ,List.getElem_toArray,List.getElem_cons_zero,List.getElem_cons_succ])))
    | (refine wpAnyH_ready (rs:=[2]) (by decide +kernel) (by simp) ?_;refine (AllReadyH.cons rfl (fun K hK=>?_) AllReadyH.nil);all_goals (go_simp;(try (go_at_call 81;refine (spec_FormatInt_c _ _ (by omega) (by omega)).mono ?_;rintro e wq ⟨rfl,hbq⟩;first | (have hcc:=bCell hbq hcc) | (have hcc:=bCell hbq (cells_d (k:=3) rfl)) | (have hcc:=bCell hbq (cells_a (k:=3) rfl)) | skip));refine hK.out _ _ ?_ (fun hHeld=>?_);(focus (first | go_keep | (obtain ⟨s0,s1,s2⟩:=hHeld;exact ⟨bCell hbq s0,bCell hbq s1,bCell hbq s2⟩)));clear hK K;(try simp only [Act.put,List.setIfInBounds_toArray,List.set_cons_zero,List.set_cons_succ,List.getElem_toArray,List.getElem_cons_zero,List.getElem_cons_succ])))
    | (refine wpAnyH_ready (rs:=[6]) (by decide +kernel) (by simp) ?_;refine (AllReadyH.cons rfl (fun K hK=>?_) AllReadyH.nil);all_goals (go_simp;(try (go_at_call 81;refine (spec_FormatInt_c _ _ (by omega) (by omega)).mono ?_;rintro e wq ⟨rfl,hbq⟩;first | (have hcc:=bCell hbq hcc) | (have hcc:=bCell hbq (cells_d (k:=3) rfl)) | (have hcc:=bCell hbq (cells_a (k:=3) rfl)) | skip));refine hK.out _ _ ?_ (fun hHeld=>?_);(focus (first | go_keep | (obtain ⟨s0,s1,s2⟩:=hHeld;exact ⟨bCell hbq s0,bCell hbq s1,bCell hbq s2⟩)));clear hK K;(try simp only [Act.put,List.setIfInBounds_toArray,List.set_cons_zero,List.set_cons_succ,List.getElem_toArray,List.getElem_cons_zero,List.getElem_cons_succ])))
    | (refine wpAnyH_ready (rs:=[9]) (by decide +kernel) (by simp) ?_;refine (AllReadyH.cons rfl (fun K hK=>?_) AllReadyH.nil);all_goals (go_simp;(try (go_at_call 81;refine (spec_FormatInt_c _ _ (by omega) (by omega)).mono ?_;rintro e wq ⟨rfl,hbq⟩;first | (have hcc:=bCell hbq hcc) | (have hcc:=bCell hbq (cells_d (k:=3) rfl)) | (have hcc:=bCell hbq (cells_a (k:=3) rfl)) | skip));refine hK.out _ _ ?_ (fun hHeld=>?_);(focus (first | go_keep | (obtain ⟨s0,s1,s2⟩:=hHeld;exact ⟨bCell hbq s0,bCell hbq s1,bCell hbq s2⟩)));clear hK K;(try simp only [Act.put,List.setIfInBounds_toArray,List.set_cons_zero,List.set_cons_succ,List.getElem_toArray,List.getElem_cons_zero,List.getElem_cons_succ])))
    | (refine wpAnyH_ready (rs:=[13]) (by decide +kernel) (by simp) ?_;refine (AllReadyH.cons rfl (fun K hK=>?_) AllReadyH.nil);all_goals (go_simp;(try (go_at_call 81;refine (spec_FormatInt_c _ _ (by omega) (by omega)).mono ?_;rintro e wq ⟨rfl,hbq⟩;first | (have hcc:=bCell hbq hcc) | (have hcc:=bCell hbq (cells_d (k:=3) rfl)) | (have hcc:=bCell hbq (cells_a (k:=3) rfl)) | skip));refine hK.out _ _ ?_ (fun hHeld=>?_);(focus (first | go_keep | (obtain ⟨s0,s1,s2⟩:=hHeld;exact ⟨bCell hbq s0,bCell hbq s1,bCell hbq s2⟩)));clear hK K;(try simp only [Act.put,List.setIfInBounds_toArray,List.set_cons_zero,List.set_cons_succ,List.getElem_toArray,List.getElem_cons_zero,List.getElem_cons_succ])))
    | skip))
  all_goals
    go_wp2
    go_ret
    exact ⟨by rw [hfin.out];rfl,by repeat (first | with_reducible exact Below.refl _ _ | with_reducible exact hwb | with_reducible refine bAlloc ?_ _ | with_reducible refine bDrew ?_ | with_reducible refine bTrans ?_ (by with_reducible assumption))⟩
theorem spec_FormatPose_c (t x y:Int) (w:World):Calls Tryz.prog 163 #[vPose t x y] w fun e w'=>e=.returned (.string (fmtPose t x y))∧Below w.heap.size w w':=by
  cases hv:vldPose t x y
  · have hfin:Hid (fmtPose t x y=⟨#[]⟩):=by simp [Hid,fmtPose,hv]
    have HV:=Lib.hid hv
    clear hv
    go_enter Tryz.func163,Tryz.ntmps163
    go_wp2_with (go_at_call 172;refine (spec_IsValidPose_c _ _ _ _).mono ?_;rw [HV.out];rintro e w1 ⟨rfl,hb1⟩;obtain ⟨hc,hfz⟩:=bcell hb1)
    go_ret
    exact ⟨by rw [hfin.out];rfl,bTrans (bAlloc (Below.refl _ _) _) hb1⟩
  · obtain ⟨t0,t1⟩:0≤t∧t≤3:=by
      simp [vldPose,inR] at hv;omega
    obtain rfl | rfl | rfl | rfl:t=0∨t=1∨t=2∨t=3:=by omega
    · exact spec_FormatPose_0 x y w hv
    · exact spec_FormatPose_1 x y w hv
    · exact spec_FormatPose_2 x y w hv
    · exact spec_FormatPose_3 x y w hv
end Go.Proofs.YtdfemnffpaopfaaGreatDoor
