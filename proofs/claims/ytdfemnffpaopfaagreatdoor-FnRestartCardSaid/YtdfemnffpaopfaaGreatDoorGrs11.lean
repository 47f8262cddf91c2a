/- Texts of this proof, one behind the other: Poses, Reg, OnceD. -/
import Derived.Deep.RegionLaw
import Derived.BigRegion
import Derived.Deep.Quiet
import Derived.Test.YtdfemnffpaopfaaGreatDoorGrs4
import Derived.Test.YtdfemnffpaopfaaGreatDoorGrs9
import Derived.Test.YtdfemnffpaopfaaGreatDoorGrs10
namespace Go.Proofs.YtdfemnffpaopfaaGreatDoor
open Go.RowKit
set_option linter.unusedVariables false
set_option linter.unusedSimpArgs false
set_option maxHeartbeats 1000000
set_option maxRecDepth 100000
theorem RotateXY_c (M t x y:Int) (h:nearP M t x y) (hM:M≤100000) (w:World) :
    Calls Tryz.prog 173 #[.int .i64 x,.int .i64 y,.int .i64 t] w fun e w'=>∃ a b,e=.returned (.tuple #[.int .i64 a,.int .i64 b])∧(-M≤a∧a≤M∧-M≤b∧b≤M)∧Below w.heap.size w w':=by
  have HV:=Lib.hid (h.vld (by omega))
  obtain ⟨t0,t1,h1,h2,h3,h4⟩:=h
  go_enter Tryz.func173,Tryz.ntmps173
  go_wp2_with (go_at_call 172;refine (spec_IsValidPose_c _ _ _ _).mono ?_;rw [HV.out];rintro e w1 ⟨rfl,hb1⟩)
  go_loopw [0,1,8] (fun p q i wr=>∃ (a b:Int) (k:Nat),p=.int .i64 a∧q=.int .i64 b∧i=.int .i64 (k:Int)∧(k:Int)≤t∧-M≤a∧a≤M∧-M≤b∧b≤M∧Below w.heap.size w wr) (fun _ _ i _=>t.toNat - (intOf i).toNat)
  case atStart=>exact ⟨x,y,0,rfl,rfl,rfl,by omega,h1,h2,h3,h4,hb1⟩
  case round =>
    obtain ⟨a,b,k,rfl,rfl,rfl,hk,a0,a1,b0,b1,hb⟩:=hrel
    by_cases hlt:(k:Int) < t
    · go_wp2
      exact ⟨⟨-b,a,k+1,rfl,rfl,by simp,by omega,by omega,by omega,a0,a1,hb⟩,by simp only [intOf];omega⟩
    · go_wp2
      go_ret2
      exact ⟨a,b,rfl,⟨a0,a1,b0,b1⟩,hb⟩
theorem frozen_g (w:World) (g:Nat) (hg:g=w.heap.size) (cs:Array Value) (t:TypeId) (k:Nat):(w.alloc (.cells cs t)).frozen? ⟨g,k,none⟩=false:=by subst hg;exact frozen_a w cs t k
theorem two_b (w:World) (cs cs2:Array Value) (t t2:TypeId) (k:Nat) (v:Value) (h:cs[k]? = some v):((w.alloc (.cells cs t)).alloc (.cells cs2 t2)).cell? ⟨w.heap.size,k,none⟩=some v:=bCell (bAlloc (Below.refl _ _) _) (cells_b h)
theorem next_b (w:World) (o:Obj) (g:Nat) (hg:g=w.heap.size+1) (cs:Array Value) (t:TypeId) (k:Nat) (v:Value) (h:cs[k]? = some v):((w.alloc o).alloc (.cells cs t)).cell? ⟨g,k,none⟩=some v:=by
  have e:g=(w.alloc o).heap.size:=by simp [hg]
  subst e
  exact cells_b h
theorem l05Compose_c (M N t1 x1 y1 t2 x2 y2:Int) (h1:nearP M t1 x1 y1) (h2:nearP N t2 x2 y2) (hM:M≤100000) (hN:N≤100000) (w:World) :
    Calls Tryz.prog 129 #[vPose t1 x1 y1,vPose t2 x2 y2] w fun e w'=>∃ t x y,e=.returned (.tuple #[vPose t x y,.bool true])∧nearP (M+N) t x y∧Below w.heap.size w w':=by
  have HV1:=Lib.hid (h1.vld (by omega))
  have HV2:=Lib.hid (h2.vld (by omega))
  obtain ⟨p0',p1',p2',p3',p4',p5'⟩:=h1
  obtain ⟨q0',q1',q2',q3',q4',q5'⟩:=h2
  have hR:nearP N t1 x2 y2:=⟨p0',p1',q2',q3',q4',q5'⟩
  have HR:=Lib.hid hR
  clear hR
  go_enter Tryz.func129,Tryz.ntmps129
  go_wp2_with fail
  refine Calls.mono (spec_IsValidPose_c _ _ _ _) ?_
  rw [HV1.out]
  rintro e w1 ⟨rfl,hb1⟩
  have B1:Below w.heap.size w w1:=bTrans (bAlloc (bAlloc (bAlloc (Below.refl _ _) _) _) _) hb1
  have p0:w1.cell? ⟨w.heap.size,0,none⟩=some (.int .i64 t1):=bCell hb1 (bCell (bAlloc (Below.refl _ _) _) (two_b _ _ _ _ _ _ _ rfl))
  have p1:w1.cell? ⟨w.heap.size,1,none⟩=some (.int .i64 x1):=bCell hb1 (bCell (bAlloc (Below.refl _ _) _) (two_b _ _ _ _ _ _ _ rfl))
  have p2:w1.cell? ⟨w.heap.size,2,none⟩=some (.int .i64 y1):=bCell hb1 (bCell (bAlloc (Below.refl _ _) _) (two_b _ _ _ _ _ _ _ rfl))
  have pz:w.heap.size < w1.heap.size:=cell_lt p0
  have q0:w1.cell? ⟨w.heap.size+1,0,none⟩=some (.int .i64 t2):=bCell hb1 (bCell (bAlloc (Below.refl _ _) _) (next_b _ _ _ rfl _ _ _ _ rfl))
  have q1:w1.cell? ⟨w.heap.size+1,1,none⟩=some (.int .i64 x2):=bCell hb1 (bCell (bAlloc (Below.refl _ _) _) (next_b _ _ _ rfl _ _ _ _ rfl))
  have q2:w1.cell? ⟨w.heap.size+1,2,none⟩=some (.int .i64 y2):=bCell hb1 (bCell (bAlloc (Below.refl _ _) _) (next_b _ _ _ rfl _ _ _ _ rfl))
  have qz:w.heap.size+1 < w1.heap.size:=cell_lt q0
  have r0:w1.cell? ⟨w.heap.size+1+1,0,none⟩=some (.int .i64 0):=bCell hb1 (next_b _ _ _ (by simp) _ _ _ _ rfl)
  have r1:w1.cell? ⟨w.heap.size+1+1,1,none⟩=some (.int .i64 0):=bCell hb1 (next_b _ _ _ (by simp) _ _ _ _ rfl)
  have r2:w1.cell? ⟨w.heap.size+1+1,2,none⟩=some (.int .i64 0):=bCell hb1 (next_b _ _ _ (by simp) _ _ _ _ rfl)
  have rf:∀ o,w1.frozen? ⟨w.heap.size+1+1,o,none⟩=false:=fun o=>(bBoxF hb1 (w.heap.size+1+1) (by first | (simp;done) | (simp;omega)) o).trans (frozen_g _ _ (by simp) _ _ _)
  have rz:w.heap.size+1+1 < w1.heap.size:=cell_lt r0
  go_wp2_with fail
  refine Calls.mono (spec_IsValidPose_c _ _ _ _) ?_
  rw [HV2.out]
  rintro e w2 ⟨rfl,hb2⟩
  have B2:=bTrans B1 hb2
  have p0:w2.cell? ⟨w.heap.size,0,none⟩=some (.int .i64 t1):=bCell hb2 (p0)
  have p1:w2.cell? ⟨w.heap.size,1,none⟩=some (.int .i64 x1):=bCell hb2 (p1)
  have p2:w2.cell? ⟨w.heap.size,2,none⟩=some (.int .i64 y1):=bCell hb2 (p2)
  have pz:w.heap.size < w2.heap.size:=cell_lt p0
  have q0:w2.cell? ⟨w.heap.size+1,0,none⟩=some (.int .i64 t2):=bCell hb2 (q0)
  have q1:w2.cell? ⟨w.heap.size+1,1,none⟩=some (.int .i64 x2):=bCell hb2 (q1)
  have q2:w2.cell? ⟨w.heap.size+1,2,none⟩=some (.int .i64 y2):=bCell hb2 (q2)
  have qz:w.heap.size+1 < w2.heap.size:=cell_lt q0
  have r0:w2.cell? ⟨w.heap.size+1+1,0,none⟩=some (.int .i64 0):=bCell hb2 (r0)
  have r1:w2.cell? ⟨w.heap.size+1+1,1,none⟩=some (.int .i64 0):=bCell hb2 (r1)
  have r2:w2.cell? ⟨w.heap.size+1+1,2,none⟩=some (.int .i64 0):=bCell hb2 (r2)
  have rf:∀ o,w2.frozen? ⟨w.heap.size+1+1,o,none⟩=false:=fun o=>(bBoxF hb2 (w.heap.size+1+1) (rz) o).trans (rf o)
  have rz:w.heap.size+1+1 < w2.heap.size:=cell_lt r0
  clear B1 hb1 hb2
  go_wp2_with fail
  refine Calls.mono (RotateXY_c N t1 x2 y2 HR.out hN _) ?_
  rintro e w3 ⟨a,b,rfl,⟨a0,a1,b0,b1⟩,hb3⟩
  have B3:=bTrans B2 hb3
  have p0:w3.cell? ⟨w.heap.size,0,none⟩=some (.int .i64 t1):=bCell hb3 (p0)
  have p1:w3.cell? ⟨w.heap.size,1,none⟩=some (.int .i64 x1):=bCell hb3 (p1)
  have p2:w3.cell? ⟨w.heap.size,2,none⟩=some (.int .i64 y1):=bCell hb3 (p2)
  have pz:w.heap.size < w3.heap.size:=cell_lt p0
  have q0:w3.cell? ⟨w.heap.size+1,0,none⟩=some (.int .i64 t2):=bCell hb3 (q0)
  have q1:w3.cell? ⟨w.heap.size+1,1,none⟩=some (.int .i64 x2):=bCell hb3 (q1)
  have q2:w3.cell? ⟨w.heap.size+1,2,none⟩=some (.int .i64 y2):=bCell hb3 (q2)
  have qz:w.heap.size+1 < w3.heap.size:=cell_lt q0
  have r0:w3.cell? ⟨w.heap.size+1+1,0,none⟩=some (.int .i64 0):=bCell hb3 (r0)
  have r1:w3.cell? ⟨w.heap.size+1+1,1,none⟩=some (.int .i64 0):=bCell hb3 (r1)
  have r2:w3.cell? ⟨w.heap.size+1+1,2,none⟩=some (.int .i64 0):=bCell hb3 (r2)
  have rf:∀ o,w3.frozen? ⟨w.heap.size+1+1,o,none⟩=false:=fun o=>(bBoxF hb3 (w.heap.size+1+1) (rz) o).trans (rf o)
  have rz:w.heap.size+1+1 < w3.heap.size:=cell_lt r0
  have hres:nearP (M+N) ((t1+t2) % 4) (x1+a) (y1+b):=⟨by omega,by omega,by omega,by omega,by omega,by omega⟩
  have HRES:=Lib.hid hres
  have HV3:=Lib.hid (hres.vld (by omega))
  clear B2 hb3 hres HR
  go_wp2_with fail
  refine Calls.mono (spec_IsValidPose_c _ _ _ _) ?_
  rw [HV3.out]
  rintro e w4 ⟨rfl,hb4⟩
  have B4:Below w.heap.size w w4:=bTrans (bAlloc B3 _) hb4
  have s0:w4.cell? ⟨w3.heap.size,0,none⟩=some (.int .i64 ((t1+t2) % 4)):=bCell hb4 (cells_b rfl)
  have s1:w4.cell? ⟨w3.heap.size,1,none⟩=some (.int .i64 (x1+a)):=bCell hb4 (cells_b rfl)
  have s2:w4.cell? ⟨w3.heap.size,2,none⟩=some (.int .i64 (y1+b)):=bCell hb4 (cells_b rfl)
  have u0:w4.cell? ⟨w.heap.size+1+1,0,none⟩=some (.int .i64 0):=bCell hb4 (bCell (bAlloc (Below.refl _ _) _) r0)
  have u1:w4.cell? ⟨w.heap.size+1+1,1,none⟩=some (.int .i64 0):=bCell hb4 (bCell (bAlloc (Below.refl _ _) _) r1)
  have u2:w4.cell? ⟨w.heap.size+1+1,2,none⟩=some (.int .i64 0):=bCell hb4 (bCell (bAlloc (Below.refl _ _) _) r2)
  have uf:∀ o,w4.frozen? ⟨w.heap.size+1+1,o,none⟩=false:=fun o=>(bBoxF hb4 (w.heap.size+1+1) (by simp;omega) o).trans (frozen_al rz (rf o))
  clear p0 p1 p2 pz q0 q1 q2 qz r0 r1 r2 rf B3
  go_wp2_with fail
  refine bodyPost_ret (v:=.tuple #[vPose ((t1+t2) % 4) (x1+a) (y1+b),.bool true]) (by simp [*,results,Tryz.results129,go_sem]) rfl ⟨_,_,_,rfl,HRES.out,?_⟩
  exact bSet (bSet (bSet B4 (by simp;omega) _) (by simp;omega) _) (by simp;omega) _
theorem Compose_c (M N t1 x1 y1 t2 x2 y2:Int) (h1:nearP M t1 x1 y1) (h2:nearP N t2 x2 y2) (hM:M≤100000) (hN:N≤100000) (w:World) :
    Calls Tryz.prog 80 #[vPose t1 x1 y1,vPose t2 x2 y2] w fun e w'=>∃ t x y,e=.returned (vPose t x y)∧nearP (M+N) t x y∧Below w.heap.size w w':=by
  have H1:=Lib.hid h1
  have H2:=Lib.hid h2
  clear h1 h2
  go_enter Tryz.func80,Tryz.ntmps80
  go_wp2_with fail
  refine Calls.mono (l05Compose_c M N _ _ _ _ _ _ H1.out H2.out hM hN _) ?_
  rintro e w1 ⟨t,x,y,rfl,hp,hb1⟩
  have B1:Below w.heap.size w w1:=bTrans (bAlloc (bAlloc (bAlloc (Below.refl _ _) _) _) _) hb1
  have r0:w1.cell? ⟨w.heap.size+1+1,0,none⟩=some (.int .i64 0):=bCell hb1 (next_b _ _ _ (by simp) _ _ _ _ rfl)
  have r1:w1.cell? ⟨w.heap.size+1+1,1,none⟩=some (.int .i64 0):=bCell hb1 (next_b _ _ _ (by simp) _ _ _ _ rfl)
  have r2:w1.cell? ⟨w.heap.size+1+1,2,none⟩=some (.int .i64 0):=bCell hb1 (next_b _ _ _ (by simp) _ _ _ _ rfl)
  have rf:∀ o,w1.frozen? ⟨w.heap.size+1+1,o,none⟩=false:=fun o=>(bBoxF hb1 (w.heap.size+1+1) (by first | (simp;done) | (simp;omega)) o).trans (frozen_g _ _ (by simp) _ _ _)
  have rz:w.heap.size+1+1 < w1.heap.size:=cell_lt r0
  have HP:=Lib.hid hp
  clear hp hb1 H1 H2
  go_wp2_with fail
  refine bodyPost_ret (v:=vPose t x y) (by simp [*,results,Tryz.results80,go_sem]) rfl ⟨_,_,_,rfl,HP.out,?_⟩
  repeat (first | with_reducible exact B1 | with_reducible refine bAlloc ?_ _ | ((with_reducible refine bSet ?_ ?_ _);rotate_left;(first | (simp;done) | (simp;omega) | simp | omega)))
theorem Inverse_c (M t1 x1 y1:Int) (h1:nearP M t1 x1 y1) (hM:M≤100000) (w:World) :
    Calls Tryz.prog 130 #[vPose t1 x1 y1] w fun e w'=>∃ t x y,e=.returned (vPose t x y)∧nearP M t x y∧Below w.heap.size w w':=by
  have HV1:=Lib.hid (h1.vld (by omega))
  obtain ⟨p0',p1',p2',p3',p4',p5'⟩:=h1
  have hR:nearP M ((-t1) % 4) (-x1) (-y1):=⟨by omega,by omega,by omega,by omega,by omega,by omega⟩
  have HR:=Lib.hid hR
  clear hR
  go_enter Tryz.func130,Tryz.ntmps130
  go_wp2_with fail
  refine Calls.mono (spec_IsValidPose_c _ _ _ _) ?_
  rw [HV1.out]
  rintro e w1 ⟨rfl,hb1⟩
  have B1:Below w.heap.size w w1:=bTrans (bAlloc (bAlloc (Below.refl _ _) _) _) hb1
  have p0:w1.cell? ⟨w.heap.size,0,none⟩=some (.int .i64 t1):=bCell hb1 (two_b _ _ _ _ _ _ _ rfl)
  have p1:w1.cell? ⟨w.heap.size,1,none⟩=some (.int .i64 x1):=bCell hb1 (two_b _ _ _ _ _ _ _ rfl)
  have p2:w1.cell? ⟨w.heap.size,2,none⟩=some (.int .i64 y1):=bCell hb1 (two_b _ _ _ _ _ _ _ rfl)
  have r0:w1.cell? ⟨w.heap.size+1,0,none⟩=some (.int .i64 0):=bCell hb1 (next_b _ _ _ rfl _ _ _ _ rfl)
  have r1:w1.cell? ⟨w.heap.size+1,1,none⟩=some (.int .i64 0):=bCell hb1 (next_b _ _ _ rfl _ _ _ _ rfl)
  have r2:w1.cell? ⟨w.heap.size+1,2,none⟩=some (.int .i64 0):=bCell hb1 (next_b _ _ _ rfl _ _ _ _ rfl)
  have rf:∀ o,w1.frozen? ⟨w.heap.size+1,o,none⟩=false:=fun o=>(bBoxF hb1 (w.heap.size+1) (by first | (simp;done) | (simp;omega)) o).trans (frozen_g _ _ (by simp) _ _ _)
  have rz:w.heap.size+1 < w1.heap.size:=cell_lt r0
  clear hb1
  go_wp2_with fail
  refine Calls.mono (RotateXY_c M ((-t1) % 4) (-x1) (-y1) HR.out hM _) ?_
  rintro e w2 ⟨a,b,rfl,⟨a0,a1,b0,b1⟩,hb2⟩
  have B2:=bTrans B1 hb2
  have s0:=bCell hb2 r0
  have s1:=bCell hb2 r1
  have s2:=bCell hb2 r2
  have sf:∀ o,w2.frozen? ⟨w.heap.size+1,o,none⟩=false:=fun o=>(bBoxF hb2 (w.heap.size+1) rz o).trans (rf o)
  have sz:w.heap.size+1 < w2.heap.size:=cell_lt s0
  have hres:nearP M ((-t1) % 4) a b:=⟨by omega,by omega,a0,a1,b0,b1⟩
  have HRES:=Lib.hid hres
  clear r0 r1 r2 rf rz p0 p1 p2 B1 hb2 hres HR
  go_wp2_with fail
  refine bodyPost_ret (v:=vPose ((-t1) % 4) a b) (by simp [*,results,Tryz.results130,go_sem]) rfl ⟨_,_,_,rfl,HRES.out,?_⟩
  repeat (first | with_reducible exact B2 | with_reducible refine bAlloc ?_ _ | ((with_reducible refine bSet ?_ ?_ _);rotate_left;(first | (simp;done) | (simp;omega) | simp | omega)))
theorem Between_c (M N t1 x1 y1 t2 x2 y2:Int) (h1:nearP M t1 x1 y1) (h2:nearP N t2 x2 y2) (hM:M≤100000) (hN:N≤100000) (w:World) :
    Calls Tryz.prog 82 #[vPose t1 x1 y1,vPose t2 x2 y2] w fun e w'=>∃ t x y,e=.returned (vPose t x y)∧nearP (M+N) t x y∧Below w.heap.size w w':=by
  have H1:=Lib.hid h1
  have H2:=Lib.hid h2
  clear h1 h2
  go_enter Tryz.func82,Tryz.ntmps82
  go_wp2_with fail
  refine region_at fun R hR=>?_
  have hwb:Below w.heap.size w R:=by rw [hR.out];exact bAlloc (bAlloc (bAlloc (Below.refl _ _) _) _) _
  have g0:R.cell? ⟨w.heap.size,0,none⟩=some (.int .i64 t1):=by rw [hR.out];exact bCell (bAlloc (Below.refl _ _) _) (two_b _ _ _ _ _ _ _ rfl)
  have g1:R.cell? ⟨w.heap.size,1,none⟩=some (.int .i64 x1):=by rw [hR.out];exact bCell (bAlloc (Below.refl _ _) _) (two_b _ _ _ _ _ _ _ rfl)
  have g2:R.cell? ⟨w.heap.size,2,none⟩=some (.int .i64 y1):=by rw [hR.out];exact bCell (bAlloc (Below.refl _ _) _) (two_b _ _ _ _ _ _ _ rfl)
  have g3:R.cell? ⟨w.heap.size+1,0,none⟩=some (.int .i64 t2):=by rw [hR.out];exact bCell (bAlloc (Below.refl _ _) _) (next_b _ _ _ rfl _ _ _ _ rfl)
  have g4:R.cell? ⟨w.heap.size+1,1,none⟩=some (.int .i64 x2):=by rw [hR.out];exact bCell (bAlloc (Below.refl _ _) _) (next_b _ _ _ rfl _ _ _ _ rfl)
  have g5:R.cell? ⟨w.heap.size+1,2,none⟩=some (.int .i64 y2):=by rw [hR.out];exact bCell (bAlloc (Below.refl _ _) _) (next_b _ _ _ rfl _ _ _ _ rfl)
  have r0:R.cell? ⟨w.heap.size+1+1,0,none⟩=some (.int .i64 0):=by rw [hR.out];exact next_b _ _ _ (by simp) _ _ _ _ rfl
  have r1:R.cell? ⟨w.heap.size+1+1,1,none⟩=some (.int .i64 0):=by rw [hR.out];exact next_b _ _ _ (by simp) _ _ _ _ rfl
  have r2:R.cell? ⟨w.heap.size+1+1,2,none⟩=some (.int .i64 0):=by rw [hR.out];exact next_b _ _ _ (by simp) _ _ _ _ rfl
  have rf:∀ o,R.frozen? ⟨w.heap.size+1+1,o,none⟩=false:=fun o=>by rw [hR.out];exact frozen_g _ _ (by simp) _ _ _
  have rz:w.heap.size+1+1 < R.heap.size:=cell_lt r0
  clear hR
  go_region_law (first
    | (go_simp;go_at_call 130;refine (Inverse_c M _ _ _ H1.out hM _).mono ?_;rintro e w2 ⟨t3,x3,y3,rfl,hp3,hb2⟩;have B2:Below w.heap.size w w2:=bTrans (bDrew hwb) hb2;have k3:=bCell hb2 (show R.drew.cell? _ = _ from g3);have k4:=bCell hb2 (show R.drew.cell? _ = _ from g4);have k5:=bCell hb2 (show R.drew.cell? _ = _ from g5);have u0:=bCell hb2 (show R.drew.cell? _ = _ from r0);have u1:=bCell hb2 (show R.drew.cell? _ = _ from r1);have u2:=bCell hb2 (show R.drew.cell? _ = _ from r2);have uf:∀ o,w2.frozen? ⟨w.heap.size+1+1,o,none⟩=false:=(fun o=>(bBoxF hb2 (w.heap.size+1+1) rz o).trans (rf o));have H3:=Lib.hid hp3;have uz:w.heap.size+1+1 < w2.heap.size:=cell_lt u0)
    | (go_simp;go_at_call 80;refine (Compose_c M N _ _ _ _ _ _ H3.out H2.out hM hN _).mono ?_;rintro e w3 ⟨t4,x4,y4,rfl,hp4,hb3⟩;have B3:=bTrans B2 hb3;have v0:=bCell hb3 u0;have v1:=bCell hb3 u1;have v2:=bCell hb3 u2;have vf:∀ o,w3.frozen? ⟨w.heap.size+1+1,o,none⟩=false:=(fun o=>(bBoxF hb3 (w.heap.size+1+1) uz o).trans (uf o));have H4:=Lib.hid hp4))
  all_goals
    go_wp2_with fail
    refine bodyPost_ret (v:=vPose t4 x4 y4) (by simp [*,results,Tryz.results82,go_sem]) rfl ⟨_,_,_,rfl,H4.out,?_⟩
    repeat (first | with_reducible exact B3 | with_reducible refine bAlloc ?_ _ | ((with_reducible refine bSet ?_ ?_ _);rotate_left;(first | (simp;done) | (simp;omega) | simp | omega)))
end Go.Proofs.YtdfemnffpaopfaaGreatDoor

namespace Go.Proofs.YtdfemnffpaopfaaGreatDoor
open Go.RowKit
set_option linter.unusedVariables false
set_option linter.unusedSimpArgs false
section
variable {P:Program} {md:Region.Mode} {ops:Array Oper} {Q:Exit→Act→World→Prop}
theorem count_set:∀ (l:List Bool) (i:Nat),l[i]? = some false→(l.set i true).count false+1=l.count false
  | b :: l,0,h=>by simp only [List.getElem?_cons_zero,Option.some.injEq] at h;subst h;simp
  | b :: l,i+1,h=>by
    simp only [List.getElem?_cons_succ] at h
    have:=count_set l i h
    rw [List.set_cons_succ,List.count_cons,List.count_cons];omega
theorem wpAny_inv {I:Array Bool→Act→World→Prop}
    (hstep:∀ listed a w,I listed a w→∀ i∈Region.ready md ops listed,wpOp P ops Q i (I (listed.setIfInBounds i true)) a w)
    (hend:∀ listed a w,I listed a w→Region.ready md ops listed=[]→Q .normal a w) :
    ∀ (fuel:Nat) (listed:Array Bool) (a:Act) (w:World),listed.toList.count false≤fuel→I listed a w→wpAny P md ops Q fuel listed a w
  | 0,listed,a,w,hf,hi=>by
    have hr:Region.ready md ops listed=[]:=by
      rw [List.eq_nil_iff_forall_not_mem]
      intro i him
      obtain ⟨h1,_⟩:=mem_ready.1 him
      have h0:listed.toList.count false=0:=by omega
      rw [List.count_eq_zero] at h0
      apply h0
      rcases Nat.lt_or_ge i listed.size with h | h
      · simp [Array.getD,h] at h1
        rw [← h1];simp
      · rw [Array.getD,dif_neg (by omega)] at h1;cases h1
    exact ⟨hr,hend _ _ _ hi hr⟩
  | fuel+1,listed,a,w,hf,hi=>by
    refine ⟨fun hr=>hend _ _ _ hi hr,fun i him=>?_⟩
    have hs:=hstep _ _ _ hi i him
    obtain ⟨h1,_⟩:=mem_ready.1 him
    have hlt:i < listed.size:=by
      rcases Nat.lt_or_ge i listed.size with h | h
      · exact h
      · rw [Array.getD,dif_neg (by omega)] at h1;cases h1
    have hc:=count_set listed.toList i (by simp [Array.getD,hlt] at h1;simp [hlt,h1])
    refine wpOp_mono (fun a' w' h=>wpAny_inv hstep hend fuel _ a' w' ?_ h) hs
    rw [Array.setIfInBounds,dif_pos hlt,Array.toList_set]
    omega
end
theorem wp_region_inv {P:Program} {ops:Array Oper} {Q:Exit→Act→World→Prop} {id:Nat} {a:Act} {w:World} (I:Array Bool→Act→World→Prop) (hm:P.follows .mixedOrders=true)
    (h0:I (Array.replicate ops.size false) a w.drew)
    (hstep:∀ listed a w,I listed a w→∀ i∈Region.ready .any ops listed,wpOp P ops Q i (I (listed.setIfInBounds i true)) a w)
    (hend:∀ listed a w,I listed a w→Region.ready .any ops listed=[]→Q .normal a w):(Code.region id ops true).wp P Q a w :=
  wp_region_any hm (wpAny_inv hstep hend _ _ _ _ (by simp [List.count_replicate]) h0)
theorem ready_nil {md:Region.Mode} {ops:Array Oper} {listed:Array Bool} (h:Region.ready md ops listed=[]) (hlt:(List.range ops.size).all (fun j=>match ops[j]? with | some o=>o.after.all fun e=>decide (e.on < j) | none=>true)=true) :
    ∀ n j,j < n→j < ops.size→listed.getD j true=true:=by
  intro n
  induction n with
  | zero=>intro j hj;omega
  | succ n ih =>
    intro j hj hs
    cases hb:listed.getD j true with
    | true=>rfl
    | false =>
      exfalso
      have hm:j∈Region.ready md ops listed:=by
        rw [mem_ready]
        refine ⟨hb,ops[j],by simp [hs],fun e he _=>?_⟩
        have h1:=List.all_eq_true.1 hlt j (List.mem_range.2 hs)
        simp only [hs,Array.getElem?_eq_getElem] at h1
        have h2:e.on < j:=by
          have:=Array.all_eq_true_iff_forall_mem.1 h1 e he
          simpa using this
        have h3:=ih e.on (by omega) (by omega)
        rcases Nat.lt_or_ge e.on listed.size with h | h
        · simp [Array.getD,h] at h3 ⊢;exact h3
        · have hj2:listed.getD j true=true:=by rw [Array.getD,dif_neg (by omega)]
          rw [hj2] at hb;cases hb
      rw [h] at hm
      cases hm
end Go.Proofs.YtdfemnffpaopfaaGreatDoor


namespace Go.Proofs.YtdfemnffpaopfaaGreatDoor
open Go.RowKit
set_option linter.unusedVariables false
set_option linter.unusedSimpArgs false
set_option maxHeartbeats 400000
set_option maxRecDepth 100000

end Go.Proofs.YtdfemnffpaopfaaGreatDoor
