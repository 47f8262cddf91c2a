/- Texts of this proof, one behind the other: Bundle, Data, OnceP. -/
import Derived.Deep.RegionHeld3
import Derived.Lib.QuietBelow
import Derived.BigQuiet
import Derived.Test.YtdfemnffpaopfaaGreatDoorGct2
import Derived.Test.YtdfemnffpaopfaaGreatDoorGct3
namespace Go.Proofs.YtdfemnffpaopfaaGreatDoor
open Go.RowKit
set_option linter.unusedVariables false
set_option linter.unusedSimpArgs false
set_option maxHeartbeats 800000
set_option maxRecDepth 100000
abbrev vBundle (r:Int) (A:Option Addr) (n c:Nat):Value:=.agg #[.int .i64 r,.slice A n c]
def robotOf (id:Int):Int:=if inR id 0 2999 then id / 1000 else -1
theorem robotOf_yes {id:Int} (h:0≤id∧id≤2999):Hid (robotOf id=id / 1000):=by
  have:inR id 0 2999=true:=inR_iff.2 h
  simp [Hid,robotOf,this]
theorem robotOf_no {id:Int} (h:¬ (0≤id∧id≤2999)):Hid (robotOf id = -1):=by
  have:inR id 0 2999=false:=by simpa [inR] using h
  simp [Hid,robotOf,this]
theorem spec_RobotOf_c (id:Int) (w:World):Calls Tryz.prog 68 #[.int .i64 id] w fun e w'=>e=rInt (robotOf id)∧w=w':=by
  by_cases h:0≤id∧id≤2999
  · have hv:=robotOf_yes h
    have hi:=Lib.hid (inR_iff.2 h)
    obtain ⟨h0,h1⟩:=h
    go_enter Tryz.func68,Tryz.ntmps68
    go_wp2_with (go_at_call 105;refine (l01In_c _ _ _ _).mono ?_;rw [hi.out];rintro e w2 ⟨rfl,rfl⟩)
    go_ret
    exact ⟨by rw [hv.out];rfl,rfl⟩
  · have hv:=robotOf_no h
    have hi:Hid (inR id 0 2999=false):=by simpa [Hid,inR] using h
    clear h
    go_enter Tryz.func68,Tryz.ntmps68
    go_wp2_with (go_at_call 105;refine (l01In_c _ _ _ _).mono ?_;rw [hi.out];rintro e w2 ⟨rfl,rfl⟩)
    go_ret
    exact ⟨by rw [hv.out];rfl,rfl⟩
theorem impl_RobotOf_c (id:Int) (w:World) (hid:MI id):Calls Tryz.prog 35 #[.int .i64 id] w fun e w'=>e=rInt (robotOf id)∧w=w':=by
  by_cases h:0≤id∧id≤2999
  · have hv:=robotOf_yes h
    obtain ⟨h0,h1⟩:=h
    have h3:id / 1000 < 3:=by omega
    go_enter Tryz.func35,Tryz.ntmps35
    go_wp2
    go_ret
    exact ⟨by rw [hv.out];rfl,rfl⟩
  · have hv:=robotOf_no h
    by_cases h0:id < 0
    · go_enter Tryz.func35,Tryz.ntmps35
      go_wp2
      go_ret
      exact ⟨by rw [hv.out];rfl,rfl⟩
    · have h1:0≤id:=by omega
      have h3:3≤id / 1000:=by omega
      have h4:wrap64 (id.tdiv 1000)=id / 1000:=by
        rw [Int.tdiv_eq_ediv_of_nonneg (by omega)]
        unfold MI at hid
        exact IntWalk.wrap64_in _ ⟨by omega,by omega⟩
      clear h
      go_enter Tryz.func35,Tryz.ntmps35
      go_wp2
      go_ret
      exact ⟨by rw [hv.out];rfl,rfl⟩
def bunL (r:Int):List Factor→Option Int→Bool
  | [],_=>true
  | f :: l,prev=>vldFactor f && ((robotOf f.id == r) && ((match prev with | none=>true | some p=>decide (p < f.id)) && bunL r l (some f.id)))
def isBundle (r:Int) (l:List Factor):Bool:=inR r 0 2 && (inR l.length 1 4 && bunL r l none)
def prevId (l:List Factor) (k:Nat):Option Int:=if k=0 then none else (l[k - 1]?).map (·.id)
def BunInv (r:Int) (l:List Factor) (k:Nat):Prop:=bunL r l none=bunL r (l.drop k) (prevId l k)
theorem prevId_succ {l:List Factor} {k:Nat} {f:Factor} (hf:Hid (l[k]? = some f)):prevId l (k+1)=some f.id:=by
  have h:l[k]? = some f:=hf
  simp [prevId,h]
theorem BunInv.step {r:Int} {l:List Factor} {k:Nat} {f:Factor} (h:BunInv r l k) (hf:Hid (l[k]? = some f)) :
    bunL r l none=(vldFactor f && ((robotOf f.id == r) && ((match prevId l k with | none=>true | some p=>decide (p < f.id)) && bunL r (l.drop (k+1)) (prevId l (k+1))))):=by
  unfold BunInv at h
  rw [h,drop_at hf,prevId_succ hf]
  rfl
theorem BunInv.done {r:Int} {l:List Factor} {k n:Nat} (h:BunInv r l k) (hl:Hid (l.length=n)) (hk:¬ k < n):Hid (bunL r l none=true):=by
  unfold BunInv at h;rw [Hid,h,drop_end hl hk];rfl
theorem BunInv.no {r:Int} {l:List Factor} {X Y Z b:Bool} (h:Hid (bunL r l none=(X && (Y && (Z && b))))) (hx:X=false∨Y=false∨Z=false):Hid (isBundle r l=false):=by
  rw [Hid,isBundle,h.out]
  rcases hx with rfl | rfl | rfl <;> simp
theorem vld_id {f:Factor} (h:vldFactor f=true):0≤f.id∧f.id≤99999:=by
  unfold vldFactor vldF at h
  simp only [Bool.and_eq_true] at h
  exact inR_iff.1 h.1
set_option maxHeartbeats 8000000 in
theorem spec_IsValidBundle_c (r:Int) (A:Option Addr) (n c:Nat) (l:List Factor) (w:World) (hn:n≤4194304) (hr:RowF w A n l) (hs:∀ f∈l,f.frm.size≤4194304∧f.to.size≤4194304) :
    Calls Tryz.prog 120 #[vBundle r A n c] w fun e w'=>e=rBool (isBundle r l)∧Below w.heap.size w w':=by
  have hl:=hr.len
  go_enter Tryz.func120,Tryz.ntmps120
  go_wp2
  go_loopw [8,3] (fun i j wr=>∃ (k:Nat),k≤n∧i=.int .i64 k∧BunInv r l k∧Below w.heap.size w wr∧Below (w.heap.size+1) (w.alloc (.cells #[.int .i64 r,.slice A n c] 80)) wr) (fun i _ _=>n - (intOf i).toNat)
  case atStart=>exact ⟨0,by omega,rfl,rfl,bAlloc (Below.refl _ _) _,Below.refl _ _⟩
  case round =>
    obtain ⟨k,hk,rfl,hi,hb,hbx⟩:=hrel
    have kb:∀ o,wr.cell? ⟨w.heap.size,o,none⟩=(w.alloc (.cells #[.int .i64 r,.slice A n c] 80)).cell? ⟨w.heap.size,o,none⟩:=fun o=>hbx.cell (p:=⟨w.heap.size,o,none⟩) (by simp)
    have b0:wr.cell? ⟨w.heap.size,0,none⟩=some (.int .i64 r):=by rw [kb];simp
    have b1:wr.cell? ⟨w.heap.size,1,none⟩=some (.slice A n c):=by rw [kb];simp
    clear kb
    have hwl:w.heap.size < wr.heap.size:=cell_lt b0
    by_cases hlt:k < n
    · obtain ⟨f,g,off,hf,rfl,g0,g1,g2,g3,g4,g5,g6,g7⟩:=RowF.at_ (hr.below hb) hlt
      have hst:=hi.step hf
      have hsz:=hs f (List.mem_of_getElem? hf.out)
      generalize hv:vldFactor f=bv at hst
      have HV:=Lib.hid hv
      have HS:=Lib.hid hst
      clear hv hst
      cases bv
      · have hfin:=BunInv.no HS (.inl rfl)
        go_wp2_with fail
        refine region_at fun W hW=>?_
        have hwb:Below wr.heap.size wr W:=by rw [hW.out];exact bAlloc (Below.refl _ _) _
        have c0:=cell_regrown (show W.cell? ⟨wr.heap.size,0,none⟩=some (.int .i64 f.id) by rw [hW.out];simp)
        have c1:=cell_regrown (show W.cell? ⟨wr.heap.size,1,none⟩=some (.int .i64 f.kind) by rw [hW.out];simp)
        have c2:=cell_regrown (show W.cell? ⟨wr.heap.size,2,none⟩=some (.string f.frm) by rw [hW.out];simp)
        have c3:=cell_regrown (show W.cell? ⟨wr.heap.size,3,none⟩=some (.string f.to) by rw [hW.out];simp)
        have c4:=cell_regrown (show W.cell? ⟨wr.heap.size,4,none⟩=some (.int .i64 f.pose.turn) by rw [hW.out];simp)
        have c5:=cell_regrown (show W.cell? ⟨wr.heap.size,5,none⟩=some (.int .i64 f.pose.x) by rw [hW.out];simp)
        have c6:=cell_regrown (show W.cell? ⟨wr.heap.size,6,none⟩=some (.int .i64 f.pose.y) by rw [hW.out];simp)
        have c7:=cell_regrown (show W.cell? ⟨wr.heap.size,7,none⟩=some (.int .i64 f.weight) by rw [hW.out];simp)
        have d0:=cell_regrown (bCell hwb b0)
        have d1:=cell_regrown (bCell hwb b1)
        have cV:∀ d os,Calls Tryz.prog 150 #[vFactor f.id f.kind f.frm f.to f.pose.turn f.pose.x f.pose.y f.weight] (Go.Sort.grow (redrawn W d) os) fun e w2=>e=.returned (.bool false)∧∃ p:Regrown,w2=Go.Sort.grow (redrawn W p.d) p.os:=fun d os=>Calls.regrown_of ((spec_IsValidFactor_c f.id f.kind f.frm f.to f.pose.turn f.pose.x f.pose.y f.weight _ hsz.1 hsz.2).mono (fun _ _ h=>⟨h.1.trans (congrArg rBool HV.out),h.2⟩))
        clear hW
        refine wp_region_quiet_below (by kernel_rfl) (by kernel_rfl) ?_
        repeat (go_big_quiet_step (first | exact cV _ _))
        refine wpQuiet_nil ?_
        intro _ hw
        obtain ⟨⟨dq,osq⟩,hw⟩:=hw
        subst hw
        have hbq:=bTrans hwb (below_regrown W dq osq)
        clear c0 c1 c2 c3 c4 c5 c6 c7 d0 d1 cV
        go_wp2
        go_ret
        exact ⟨by rw [hfin.out];rfl,bTrans hb hbq⟩
      · obtain ⟨hid0,hid1⟩:=vld_id HV.out
        have hmi:MI f.id:=MI.of (by omega)
        generalize hro:robotOf f.id=ro at HS
        have HR:=Lib.hid hro
        clear hro
        by_cases hre:ro=r
        · subst hre
          by_cases hk0:k=0
          · have hkz:¬ 0 < k:=by omega
            have hnx:BunInv ro l (k+1):=by
              have:=HS.out
              subst hk0
              simpa [BunInv,prevId] using this
            clear hk0
            go_wp2_with fail
            refine region_at fun W hW=>?_
            have hwb:Below wr.heap.size wr W:=by rw [hW.out];exact bAlloc (Below.refl _ _) _
            have c0:=cell_regrown (show W.cell? ⟨wr.heap.size,0,none⟩=some (.int .i64 f.id) by rw [hW.out];simp)
            have c1:=cell_regrown (show W.cell? ⟨wr.heap.size,1,none⟩=some (.int .i64 f.kind) by rw [hW.out];simp)
            have c2:=cell_regrown (show W.cell? ⟨wr.heap.size,2,none⟩=some (.string f.frm) by rw [hW.out];simp)
            have c3:=cell_regrown (show W.cell? ⟨wr.heap.size,3,none⟩=some (.string f.to) by rw [hW.out];simp)
            have c4:=cell_regrown (show W.cell? ⟨wr.heap.size,4,none⟩=some (.int .i64 f.pose.turn) by rw [hW.out];simp)
            have c5:=cell_regrown (show W.cell? ⟨wr.heap.size,5,none⟩=some (.int .i64 f.pose.x) by rw [hW.out];simp)
            have c6:=cell_regrown (show W.cell? ⟨wr.heap.size,6,none⟩=some (.int .i64 f.pose.y) by rw [hW.out];simp)
            have c7:=cell_regrown (show W.cell? ⟨wr.heap.size,7,none⟩=some (.int .i64 f.weight) by rw [hW.out];simp)
            have d0:=cell_regrown (bCell hwb b0)
            have d1:=cell_regrown (bCell hwb b1)
            have cV:∀ d os,Calls Tryz.prog 150 #[vFactor f.id f.kind f.frm f.to f.pose.turn f.pose.x f.pose.y f.weight] (Go.Sort.grow (redrawn W d) os) fun e w2=>e=.returned (.bool true)∧∃ p:Regrown,w2=Go.Sort.grow (redrawn W p.d) p.os:=fun d os=>Calls.regrown_of ((spec_IsValidFactor_c f.id f.kind f.frm f.to f.pose.turn f.pose.x f.pose.y f.weight _ hsz.1 hsz.2).mono (fun _ _ h=>⟨h.1.trans (congrArg rBool HV.out),h.2⟩))
            have cR:∀ d os,Calls Tryz.prog 68 #[.int .i64 f.id] (Go.Sort.grow (redrawn W d) os) fun e w2=>e=.returned (.int .i64 ro)∧∃ p:Regrown,w2=Go.Sort.grow (redrawn W p.d) p.os:=fun d os=>(spec_RobotOf_c _ _).mono (by rw [HR.out];rintro e w2 ⟨rfl,rfl⟩;exact ⟨rfl,⟨d,os⟩,rfl⟩)
            clear hW
            refine wp_region_quiet_below (by kernel_rfl) (by kernel_rfl) ?_
            repeat (go_big_quiet_step (first | exact cV _ _ | exact cR _ _))
            refine wpQuiet_nil ?_
            intro _ hw
            obtain ⟨⟨dq,osq⟩,hw⟩:=hw
            subst hw
            have hbq:=bTrans hwb (below_regrown W dq osq)
            clear c0 c1 c2 c3 c4 c5 c6 c7 d0 d1 cV cR
            go_wp2
            exact ⟨⟨k+1,by omega,by simp,hnx,bTrans hb hbq,hbx.trans ⟨hbq.os,hbq.tape,hbq.output,hbq.size,fun k hk=>hbq.block k (by omega)⟩⟩,by simp only [intOf];omega⟩
          · obtain ⟨m,rfl⟩:∃ m,k=m+1:=⟨k - 1,by omega⟩
            obtain ⟨p,g',off',hp,hA,p0,-⟩:=RowF.at_ (hr.below hb) (show m < n by omega)
            obtain ⟨rfl,rfl⟩:g=g'∧off=off':=by simpa using hA
            clear hA hk0
            have hpe:=prevId_succ hp
            by_cases hpf:p.id < f.id
            · have hpg:¬ f.id≤p.id:=by omega
              have hnx:BunInv ro l (m+1+1):=by
                have:=HS.out
                rw [hpe] at this
                simpa [BunInv,hpf] using this
              clear hpf
              go_wp2_with fail
              refine region_at fun W hW=>?_
              have hwb:Below wr.heap.size wr W:=by rw [hW.out];exact bAlloc (Below.refl _ _) _
              have c0:=cell_regrown (show W.cell? ⟨wr.heap.size,0,none⟩=some (.int .i64 f.id) by rw [hW.out];simp)
              have c1:=cell_regrown (show W.cell? ⟨wr.heap.size,1,none⟩=some (.int .i64 f.kind) by rw [hW.out];simp)
              have c2:=cell_regrown (show W.cell? ⟨wr.heap.size,2,none⟩=some (.string f.frm) by rw [hW.out];simp)
              have c3:=cell_regrown (show W.cell? ⟨wr.heap.size,3,none⟩=some (.string f.to) by rw [hW.out];simp)
              have c4:=cell_regrown (show W.cell? ⟨wr.heap.size,4,none⟩=some (.int .i64 f.pose.turn) by rw [hW.out];simp)
              have c5:=cell_regrown (show W.cell? ⟨wr.heap.size,5,none⟩=some (.int .i64 f.pose.x) by rw [hW.out];simp)
              have c6:=cell_regrown (show W.cell? ⟨wr.heap.size,6,none⟩=some (.int .i64 f.pose.y) by rw [hW.out];simp)
              have c7:=cell_regrown (show W.cell? ⟨wr.heap.size,7,none⟩=some (.int .i64 f.weight) by rw [hW.out];simp)
              have d0:=cell_regrown (bCell hwb b0)
              have d1:=cell_regrown (bCell hwb b1)
              have cV:∀ d os,Calls Tryz.prog 150 #[vFactor f.id f.kind f.frm f.to f.pose.turn f.pose.x f.pose.y f.weight] (Go.Sort.grow (redrawn W d) os) fun e w2=>e=.returned (.bool true)∧∃ p:Regrown,w2=Go.Sort.grow (redrawn W p.d) p.os:=fun d os=>Calls.regrown_of ((spec_IsValidFactor_c f.id f.kind f.frm f.to f.pose.turn f.pose.x f.pose.y f.weight _ hsz.1 hsz.2).mono (fun _ _ h=>⟨h.1.trans (congrArg rBool HV.out),h.2⟩))
              have cR:∀ d os,Calls Tryz.prog 68 #[.int .i64 f.id] (Go.Sort.grow (redrawn W d) os) fun e w2=>e=.returned (.int .i64 ro)∧∃ p:Regrown,w2=Go.Sort.grow (redrawn W p.d) p.os:=fun d os=>(spec_RobotOf_c _ _).mono (by rw [HR.out];rintro e w2 ⟨rfl,rfl⟩;exact ⟨rfl,⟨d,os⟩,rfl⟩)
              have e0:=cell_regrown (bCell hwb p0)
              clear hW
              refine wp_region_quiet_below (by kernel_rfl) (by kernel_rfl) ?_
              repeat (go_big_quiet_step (first | exact cV _ _ | exact cR _ _))
              refine wpQuiet_nil ?_
              intro _ hw
              obtain ⟨⟨dq,osq⟩,hw⟩:=hw
              subst hw
              have hbq:=bTrans hwb (below_regrown W dq osq)
              clear c0 c1 c2 c3 c4 c5 c6 c7 d0 d1 cV cR
              go_wp2
              exact ⟨⟨m+1+1,by omega,by simp,hnx,bTrans hb hbq,hbx.trans ⟨hbq.os,hbq.tape,hbq.output,hbq.size,fun k hk=>hbq.block k (by omega)⟩⟩,by simp only [intOf];omega⟩
            · have hpg:f.id≤p.id:=by omega
              have hfin:Hid (isBundle ro l=false):=BunInv.no HS (.inr (.inr (by rw [hpe];simpa using hpf)))
              clear hpf
              go_wp2_with fail
              refine region_at fun W hW=>?_
              have hwb:Below wr.heap.size wr W:=by rw [hW.out];exact bAlloc (Below.refl _ _) _
              have c0:=cell_regrown (show W.cell? ⟨wr.heap.size,0,none⟩=some (.int .i64 f.id) by rw [hW.out];simp)
              have c1:=cell_regrown (show W.cell? ⟨wr.heap.size,1,none⟩=some (.int .i64 f.kind) by rw [hW.out];simp)
              have c2:=cell_regrown (show W.cell? ⟨wr.heap.size,2,none⟩=some (.string f.frm) by rw [hW.out];simp)
              have c3:=cell_regrown (show W.cell? ⟨wr.heap.size,3,none⟩=some (.string f.to) by rw [hW.out];simp)
              have c4:=cell_regrown (show W.cell? ⟨wr.heap.size,4,none⟩=some (.int .i64 f.pose.turn) by rw [hW.out];simp)
              have c5:=cell_regrown (show W.cell? ⟨wr.heap.size,5,none⟩=some (.int .i64 f.pose.x) by rw [hW.out];simp)
              have c6:=cell_regrown (show W.cell? ⟨wr.heap.size,6,none⟩=some (.int .i64 f.pose.y) by rw [hW.out];simp)
              have c7:=cell_regrown (show W.cell? ⟨wr.heap.size,7,none⟩=some (.int .i64 f.weight) by rw [hW.out];simp)
              have d0:=cell_regrown (bCell hwb b0)
              have d1:=cell_regrown (bCell hwb b1)
              have cV:∀ d os,Calls Tryz.prog 150 #[vFactor f.id f.kind f.frm f.to f.pose.turn f.pose.x f.pose.y f.weight] (Go.Sort.grow (redrawn W d) os) fun e w2=>e=.returned (.bool true)∧∃ p:Regrown,w2=Go.Sort.grow (redrawn W p.d) p.os:=fun d os=>Calls.regrown_of ((spec_IsValidFactor_c f.id f.kind f.frm f.to f.pose.turn f.pose.x f.pose.y f.weight _ hsz.1 hsz.2).mono (fun _ _ h=>⟨h.1.trans (congrArg rBool HV.out),h.2⟩))
              have cR:∀ d os,Calls Tryz.prog 68 #[.int .i64 f.id] (Go.Sort.grow (redrawn W d) os) fun e w2=>e=.returned (.int .i64 ro)∧∃ p:Regrown,w2=Go.Sort.grow (redrawn W p.d) p.os:=fun d os=>(spec_RobotOf_c _ _).mono (by rw [HR.out];rintro e w2 ⟨rfl,rfl⟩;exact ⟨rfl,⟨d,os⟩,rfl⟩)
              have e0:=cell_regrown (bCell hwb p0)
              clear hW
              refine wp_region_quiet_below (by kernel_rfl) (by kernel_rfl) ?_
              repeat (go_big_quiet_step (first | exact cV _ _ | exact cR _ _))
              refine wpQuiet_nil ?_
              intro _ hw
              obtain ⟨⟨dq,osq⟩,hw⟩:=hw
              subst hw
              have hbq:=bTrans hwb (below_regrown W dq osq)
              clear c0 c1 c2 c3 c4 c5 c6 c7 d0 d1 cV cR
              go_wp2
              go_ret
              exact ⟨by rw [hfin.out];rfl,bTrans hb hbq⟩
        · have hfin:Hid (isBundle r l=false):=BunInv.no HS (.inr (.inl (by simpa using hre)))
          have hrn:(ro != r)=true:=by simpa using hre
          go_wp2_with fail
          refine region_at fun W hW=>?_
          have hwb:Below wr.heap.size wr W:=by rw [hW.out];exact bAlloc (Below.refl _ _) _
          have c0:=cell_regrown (show W.cell? ⟨wr.heap.size,0,none⟩=some (.int .i64 f.id) by rw [hW.out];simp)
          have c1:=cell_regrown (show W.cell? ⟨wr.heap.size,1,none⟩=some (.int .i64 f.kind) by rw [hW.out];simp)
          have c2:=cell_regrown (show W.cell? ⟨wr.heap.size,2,none⟩=some (.string f.frm) by rw [hW.out];simp)
          have c3:=cell_regrown (show W.cell? ⟨wr.heap.size,3,none⟩=some (.string f.to) by rw [hW.out];simp)
          have c4:=cell_regrown (show W.cell? ⟨wr.heap.size,4,none⟩=some (.int .i64 f.pose.turn) by rw [hW.out];simp)
          have c5:=cell_regrown (show W.cell? ⟨wr.heap.size,5,none⟩=some (.int .i64 f.pose.x) by rw [hW.out];simp)
          have c6:=cell_regrown (show W.cell? ⟨wr.heap.size,6,none⟩=some (.int .i64 f.pose.y) by rw [hW.out];simp)
          have c7:=cell_regrown (show W.cell? ⟨wr.heap.size,7,none⟩=some (.int .i64 f.weight) by rw [hW.out];simp)
          have d0:=cell_regrown (bCell hwb b0)
          have d1:=cell_regrown (bCell hwb b1)
          have cV:∀ d os,Calls Tryz.prog 150 #[vFactor f.id f.kind f.frm f.to f.pose.turn f.pose.x f.pose.y f.weight] (Go.Sort.grow (redrawn W d) os) fun e w2=>e=.returned (.bool true)∧∃ p:Regrown,w2=Go.Sort.grow (redrawn W p.d) p.os:=fun d os=>Calls.regrown_of ((spec_IsValidFactor_c f.id f.kind f.frm f.to f.pose.turn f.pose.x f.pose.y f.weight _ hsz.1 hsz.2).mono (fun _ _ h=>⟨h.1.trans (congrArg rBool HV.out),h.2⟩))
          have cR:∀ d os,Calls Tryz.prog 68 #[.int .i64 f.id] (Go.Sort.grow (redrawn W d) os) fun e w2=>e=.returned (.int .i64 ro)∧∃ p:Regrown,w2=Go.Sort.grow (redrawn W p.d) p.os:=fun d os=>(spec_RobotOf_c _ _).mono (by rw [HR.out];rintro e w2 ⟨rfl,rfl⟩;exact ⟨rfl,⟨d,os⟩,rfl⟩)
          clear hW
          refine wp_region_quiet_below (by kernel_rfl) (by kernel_rfl) ?_
          repeat (go_big_quiet_step (first | exact cV _ _ | exact cR _ _))
          refine wpQuiet_nil ?_
          intro _ hw
          obtain ⟨⟨dq,osq⟩,hw⟩:=hw
          subst hw
          have hbq:=bTrans hwb (below_regrown W dq osq)
          clear c0 c1 c2 c3 c4 c5 c6 c7 d0 d1 cV cR
          go_wp2
          go_ret
          exact ⟨by rw [hfin.out];rfl,bTrans hb hbq⟩
    · have hd:=hi.done hl hlt
      have E:Hid (isBundle r l=(inR r 0 2 && inR n 1 4)):=by rw [Hid,isBundle,hd.out,hl.out];simp
      generalize h1:inR r 0 2=x at E
      generalize h2:inR n 1 4=y at E
      have H1:=Lib.hid h1
      have H2:=Lib.hid h2
      clear h1 h2
      cases x
      all_goals
        go_wp2_with (go_at_call 105;refine (l01In_c _ _ _ _).mono ?_;(first | rw [H1.out] | rw [H2.out]);rintro e w2 ⟨rfl,rfl⟩)
        go_ret
        exact ⟨by rw [E.out];rfl,hb⟩
set_option maxHeartbeats 8000000 in
theorem impl_IsValidBundle_c (r:Int) (A:Option Addr) (n c:Nat) (l:List Factor) (w:World) (hn:n≤4194304) (hr:RowF w A n l) (hs:∀ f∈l,f.frm.size≤4194304∧f.to.size≤4194304) :
    Calls Tryz.prog 88 #[vBundle r A n c] w fun e w'=>e=rBool (isBundle r l)∧Below w.heap.size w w':=by
  have hl:=hr.len
  go_enter Tryz.func88,Tryz.ntmps88
  by_cases x0:r < 0
  · have E:Hid (isBundle r l=false):=by
      have : inR r 0 2 = false := by have : ¬ (0 ≤ r ∧ r ≤ 2) := by omega
                                     simpa [inR] using this
      rw [Hid,isBundle,this];rfl
    go_wp2
    go_ret
    exact ⟨by rw [E.out];rfl,bAlloc (Below.refl _ _) _⟩
  by_cases x1:3≤r
  · have E:Hid (isBundle r l=false):=by
      have : inR r 0 2 = false := by have : ¬ (0 ≤ r ∧ r ≤ 2) := by omega
                                     simpa [inR] using this
      rw [Hid,isBundle,this];rfl
    go_wp2
    go_ret
    exact ⟨by rw [E.out];rfl,bAlloc (Below.refl _ _) _⟩
  have X:inR r 0 2=true:=inR_iff.2 (by omega)
  by_cases y0:(n:Int) < 1
  · have E:Hid (isBundle r l=false):=by
      have : inR l.length 1 4 = false := by have : ¬ (1 ≤ (l.length:Int) ∧ (l.length:Int) ≤ 4) := by rw [hl.out]; omega
                                            simpa [inR] using this
      rw [Hid,isBundle,this];simp
    have y2:n < 1:=by omega
    clear X
    go_wp2
    go_ret
    exact ⟨by rw [E.out];rfl,bAlloc (Below.refl _ _) _⟩
  by_cases y1:4 < (n:Int)
  · have E:Hid (isBundle r l=false):=by
      have : inR l.length 1 4 = false := by have : ¬ (1 ≤ (l.length:Int) ∧ (l.length:Int) ≤ 4) := by rw [hl.out]; omega
                                            simpa [inR] using this
      rw [Hid,isBundle,this];simp
    have y2:4 < n:=by omega
    clear X
    go_wp2
    go_ret
    exact ⟨by rw [E.out];rfl,bAlloc (Below.refl _ _) _⟩
  have Y:inR l.length 1 4=true:=inR_iff.2 (by rw [hl.out];omega)
  have hAll:Hid (isBundle r l=bunL r l none):=by rw [Hid,isBundle,X,Y];rfl
  clear X Y
  have y2:¬ n < 1:=by omega
  have y3:¬ 4 < n:=by omega
  go_wp2
  go_loopw [28,3] (fun i j wr=>∃ (k:Nat),k≤n∧i=.int .i64 k∧BunInv r l k∧Below w.heap.size w wr∧Below (w.heap.size+1) (w.alloc (.cells #[.int .i64 r,.slice A n c] 80)) wr) (fun i _ _=>n - (intOf i).toNat)
  case atStart=>exact ⟨0,by omega,rfl,rfl,bAlloc (Below.refl _ _) _,Below.refl _ _⟩
  case round =>
    obtain ⟨k,hk,rfl,hi,hb,hbx⟩:=hrel
    have kb:∀ o,wr.cell? ⟨w.heap.size,o,none⟩=(w.alloc (.cells #[.int .i64 r,.slice A n c] 80)).cell? ⟨w.heap.size,o,none⟩:=fun o=>hbx.cell (p:=⟨w.heap.size,o,none⟩) (by simp)
    have b0:wr.cell? ⟨w.heap.size,0,none⟩=some (.int .i64 r):=by rw [kb];simp
    have b1:wr.cell? ⟨w.heap.size,1,none⟩=some (.slice A n c):=by rw [kb];simp
    clear kb
    have hwl:w.heap.size < wr.heap.size:=cell_lt b0
    by_cases hlt:k < n
    · obtain ⟨f,g,off,hf,rfl,g0,g1,g2,g3,g4,g5,g6,g7⟩:=RowF.at_ (hr.below hb) hlt
      have hst:=hi.step hf
      have hsz:=hs f (List.mem_of_getElem? hf.out)
      generalize hv:vldFactor f=bv at hst
      have HV:=Lib.hid hv
      have HS:=Lib.hid hst
      clear hv hst
      cases bv
      · have hfin:=BunInv.no HS (.inl rfl)
        go_wp2_with fail
        refine region_at fun W hW=>?_
        have hwb:Below wr.heap.size wr W:=by rw [hW.out];exact bAlloc (Below.refl _ _) _
        have c0:=cell_regrown (show W.cell? ⟨wr.heap.size,0,none⟩=some (.int .i64 f.id) by rw [hW.out];simp)
        have c1:=cell_regrown (show W.cell? ⟨wr.heap.size,1,none⟩=some (.int .i64 f.kind) by rw [hW.out];simp)
        have c2:=cell_regrown (show W.cell? ⟨wr.heap.size,2,none⟩=some (.string f.frm) by rw [hW.out];simp)
        have c3:=cell_regrown (show W.cell? ⟨wr.heap.size,3,none⟩=some (.string f.to) by rw [hW.out];simp)
        have c4:=cell_regrown (show W.cell? ⟨wr.heap.size,4,none⟩=some (.int .i64 f.pose.turn) by rw [hW.out];simp)
        have c5:=cell_regrown (show W.cell? ⟨wr.heap.size,5,none⟩=some (.int .i64 f.pose.x) by rw [hW.out];simp)
        have c6:=cell_regrown (show W.cell? ⟨wr.heap.size,6,none⟩=some (.int .i64 f.pose.y) by rw [hW.out];simp)
        have c7:=cell_regrown (show W.cell? ⟨wr.heap.size,7,none⟩=some (.int .i64 f.weight) by rw [hW.out];simp)
        have d0:=cell_regrown (bCell hwb b0)
        have d1:=cell_regrown (bCell hwb b1)
        have cV:∀ d os,Calls Tryz.prog 93 #[vFactor f.id f.kind f.frm f.to f.pose.turn f.pose.x f.pose.y f.weight] (Go.Sort.grow (redrawn W d) os) fun e w2=>e=.returned (.bool false)∧∃ p:Regrown,w2=Go.Sort.grow (redrawn W p.d) p.os:=fun d os=>Calls.regrown_of ((impl_IsValidFactor_c f.id f.kind f.frm f.to f.pose.turn f.pose.x f.pose.y f.weight _ hsz.1 hsz.2).mono (fun _ _ h=>⟨h.1.trans (congrArg rBool HV.out),h.2⟩))
        clear hW
        refine wp_region_quiet_below (by kernel_rfl) (by kernel_rfl) ?_
        repeat (go_big_quiet_step (first | exact cV _ _))
        refine wpQuiet_nil ?_
        intro _ hw
        obtain ⟨⟨dq,osq⟩,hw⟩:=hw
        subst hw
        have hbq:=bTrans hwb (below_regrown W dq osq)
        clear c0 c1 c2 c3 c4 c5 c6 c7 d0 d1 cV
        go_wp2
        go_ret
        exact ⟨by rw [hfin.out];rfl,bTrans hb hbq⟩
      · obtain ⟨hid0,hid1⟩:=vld_id HV.out
        have hmi:MI f.id:=MI.of (by omega)
        generalize hro:robotOf f.id=ro at HS
        have HR:=Lib.hid hro
        clear hro
        by_cases hre:ro=r
        · subst hre
          by_cases hk0:k=0
          · have hkz:¬ 0 < k:=by omega
            have hnx:BunInv ro l (k+1):=by
              have:=HS.out
              subst hk0
              simpa [BunInv,prevId] using this
            clear hk0
            go_wp2_with fail
            refine region_at fun W hW=>?_
            have hwb:Below wr.heap.size wr W:=by rw [hW.out];exact bAlloc (Below.refl _ _) _
            have c0:=cell_regrown (show W.cell? ⟨wr.heap.size,0,none⟩=some (.int .i64 f.id) by rw [hW.out];simp)
            have c1:=cell_regrown (show W.cell? ⟨wr.heap.size,1,none⟩=some (.int .i64 f.kind) by rw [hW.out];simp)
            have c2:=cell_regrown (show W.cell? ⟨wr.heap.size,2,none⟩=some (.string f.frm) by rw [hW.out];simp)
            have c3:=cell_regrown (show W.cell? ⟨wr.heap.size,3,none⟩=some (.string f.to) by rw [hW.out];simp)
            have c4:=cell_regrown (show W.cell? ⟨wr.heap.size,4,none⟩=some (.int .i64 f.pose.turn) by rw [hW.out];simp)
            have c5:=cell_regrown (show W.cell? ⟨wr.heap.size,5,none⟩=some (.int .i64 f.pose.x) by rw [hW.out];simp)
            have c6:=cell_regrown (show W.cell? ⟨wr.heap.size,6,none⟩=some (.int .i64 f.pose.y) by rw [hW.out];simp)
            have c7:=cell_regrown (show W.cell? ⟨wr.heap.size,7,none⟩=some (.int .i64 f.weight) by rw [hW.out];simp)
            have d0:=cell_regrown (bCell hwb b0)
            have d1:=cell_regrown (bCell hwb b1)
            have cV:∀ d os,Calls Tryz.prog 93 #[vFactor f.id f.kind f.frm f.to f.pose.turn f.pose.x f.pose.y f.weight] (Go.Sort.grow (redrawn W d) os) fun e w2=>e=.returned (.bool true)∧∃ p:Regrown,w2=Go.Sort.grow (redrawn W p.d) p.os:=fun d os=>Calls.regrown_of ((impl_IsValidFactor_c f.id f.kind f.frm f.to f.pose.turn f.pose.x f.pose.y f.weight _ hsz.1 hsz.2).mono (fun _ _ h=>⟨h.1.trans (congrArg rBool HV.out),h.2⟩))
            have cR:∀ d os,Calls Tryz.prog 35 #[.int .i64 f.id] (Go.Sort.grow (redrawn W d) os) fun e w2=>e=.returned (.int .i64 ro)∧∃ p:Regrown,w2=Go.Sort.grow (redrawn W p.d) p.os:=fun d os=>(impl_RobotOf_c _ _ hmi).mono (by rw [HR.out];rintro e w2 ⟨rfl,rfl⟩;exact ⟨rfl,⟨d,os⟩,rfl⟩)
            clear hW
            refine wp_region_quiet_below (by kernel_rfl) (by kernel_rfl) ?_
            repeat (go_big_quiet_step (first | exact cV _ _ | exact cR _ _))
            refine wpQuiet_nil ?_
            intro _ hw
            obtain ⟨⟨dq,osq⟩,hw⟩:=hw
            subst hw
            have hbq:=bTrans hwb (below_regrown W dq osq)
            clear c0 c1 c2 c3 c4 c5 c6 c7 d0 d1 cV cR
            go_wp2
            exact ⟨⟨k+1,by omega,by simp,hnx,bTrans hb hbq,hbx.trans ⟨hbq.os,hbq.tape,hbq.output,hbq.size,fun k hk=>hbq.block k (by omega)⟩⟩,by simp only [intOf];omega⟩
          · obtain ⟨m,rfl⟩:∃ m,k=m+1:=⟨k - 1,by omega⟩
            obtain ⟨p,g',off',hp,hA,p0,-⟩:=RowF.at_ (hr.below hb) (show m < n by omega)
            obtain ⟨rfl,rfl⟩:g=g'∧off=off':=by simpa using hA
            clear hA hk0
            have hpe:=prevId_succ hp
            by_cases hpf:p.id < f.id
            · have hpg:¬ f.id≤p.id:=by omega
              have hnx:BunInv ro l (m+1+1):=by
                have:=HS.out
                rw [hpe] at this
                simpa [BunInv,hpf] using this
              clear hpf
              go_wp2_with fail
              refine region_at fun W hW=>?_
              have hwb:Below wr.heap.size wr W:=by rw [hW.out];exact bAlloc (Below.refl _ _) _
              have c0:=cell_regrown (show W.cell? ⟨wr.heap.size,0,none⟩=some (.int .i64 f.id) by rw [hW.out];simp)
              have c1:=cell_regrown (show W.cell? ⟨wr.heap.size,1,none⟩=some (.int .i64 f.kind) by rw [hW.out];simp)
              have c2:=cell_regrown (show W.cell? ⟨wr.heap.size,2,none⟩=some (.string f.frm) by rw [hW.out];simp)
              have c3:=cell_regrown (show W.cell? ⟨wr.heap.size,3,none⟩=some (.string f.to) by rw [hW.out];simp)
              have c4:=cell_regrown (show W.cell? ⟨wr.heap.size,4,none⟩=some (.int .i64 f.pose.turn) by rw [hW.out];simp)
              have c5:=cell_regrown (show W.cell? ⟨wr.heap.size,5,none⟩=some (.int .i64 f.pose.x) by rw [hW.out];simp)
              have c6:=cell_regrown (show W.cell? ⟨wr.heap.size,6,none⟩=some (.int .i64 f.pose.y) by rw [hW.out];simp)
              have c7:=cell_regrown (show W.cell? ⟨wr.heap.size,7,none⟩=some (.int .i64 f.weight) by rw [hW.out];simp)
              have d0:=cell_regrown (bCell hwb b0)
              have d1:=cell_regrown (bCell hwb b1)
              have cV:∀ d os,Calls Tryz.prog 93 #[vFactor f.id f.kind f.frm f.to f.pose.turn f.pose.x f.pose.y f.weight] (Go.Sort.grow (redrawn W d) os) fun e w2=>e=.returned (.bool true)∧∃ p:Regrown,w2=Go.Sort.grow (redrawn W p.d) p.os:=fun d os=>Calls.regrown_of ((impl_IsValidFactor_c f.id f.kind f.frm f.to f.pose.turn f.pose.x f.pose.y f.weight _ hsz.1 hsz.2).mono (fun _ _ h=>⟨h.1.trans (congrArg rBool HV.out),h.2⟩))
              have cR:∀ d os,Calls Tryz.prog 35 #[.int .i64 f.id] (Go.Sort.grow (redrawn W d) os) fun e w2=>e=.returned (.int .i64 ro)∧∃ p:Regrown,w2=Go.Sort.grow (redrawn W p.d) p.os:=fun d os=>(impl_RobotOf_c _ _ hmi).mono (by rw [HR.out];rintro e w2 ⟨rfl,rfl⟩;exact ⟨rfl,⟨d,os⟩,rfl⟩)
              have e0:=cell_regrown (bCell hwb p0)
              clear hW
              refine wp_region_quiet_below (by kernel_rfl) (by kernel_rfl) ?_
              repeat (go_big_quiet_step (first | exact cV _ _ | exact cR _ _))
              refine wpQuiet_nil ?_
              intro _ hw
              obtain ⟨⟨dq,osq⟩,hw⟩:=hw
              subst hw
              have hbq:=bTrans hwb (below_regrown W dq osq)
              clear c0 c1 c2 c3 c4 c5 c6 c7 d0 d1 cV cR
              go_wp2
              exact ⟨⟨m+1+1,by omega,by simp,hnx,bTrans hb hbq,hbx.trans ⟨hbq.os,hbq.tape,hbq.output,hbq.size,fun k hk=>hbq.block k (by omega)⟩⟩,by simp only [intOf];omega⟩
            · have hpg:f.id≤p.id:=by omega
              have hfin:Hid (isBundle ro l=false):=BunInv.no HS (.inr (.inr (by rw [hpe];simpa using hpf)))
              clear hpf
              go_wp2_with fail
              refine region_at fun W hW=>?_
              have hwb:Below wr.heap.size wr W:=by rw [hW.out];exact bAlloc (Below.refl _ _) _
              have c0:=cell_regrown (show W.cell? ⟨wr.heap.size,0,none⟩=some (.int .i64 f.id) by rw [hW.out];simp)
              have c1:=cell_regrown (show W.cell? ⟨wr.heap.size,1,none⟩=some (.int .i64 f.kind) by rw [hW.out];simp)
              have c2:=cell_regrown (show W.cell? ⟨wr.heap.size,2,none⟩=some (.string f.frm) by rw [hW.out];simp)
              have c3:=cell_regrown (show W.cell? ⟨wr.heap.size,3,none⟩=some (.string f.to) by rw [hW.out];simp)
              have c4:=cell_regrown (show W.cell? ⟨wr.heap.size,4,none⟩=some (.int .i64 f.pose.turn) by rw [hW.out];simp)
              have c5:=cell_regrown (show W.cell? ⟨wr.heap.size,5,none⟩=some (.int .i64 f.pose.x) by rw [hW.out];simp)
              have c6:=cell_regrown (show W.cell? ⟨wr.heap.size,6,none⟩=some (.int .i64 f.pose.y) by rw [hW.out];simp)
              have c7:=cell_regrown (show W.cell? ⟨wr.heap.size,7,none⟩=some (.int .i64 f.weight) by rw [hW.out];simp)
              have d0:=cell_regrown (bCell hwb b0)
              have d1:=cell_regrown (bCell hwb b1)
              have cV:∀ d os,Calls Tryz.prog 93 #[vFactor f.id f.kind f.frm f.to f.pose.turn f.pose.x f.pose.y f.weight] (Go.Sort.grow (redrawn W d) os) fun e w2=>e=.returned (.bool true)∧∃ p:Regrown,w2=Go.Sort.grow (redrawn W p.d) p.os:=fun d os=>Calls.regrown_of ((impl_IsValidFactor_c f.id f.kind f.frm f.to f.pose.turn f.pose.x f.pose.y f.weight _ hsz.1 hsz.2).mono (fun _ _ h=>⟨h.1.trans (congrArg rBool HV.out),h.2⟩))
              have cR:∀ d os,Calls Tryz.prog 35 #[.int .i64 f.id] (Go.Sort.grow (redrawn W d) os) fun e w2=>e=.returned (.int .i64 ro)∧∃ p:Regrown,w2=Go.Sort.grow (redrawn W p.d) p.os:=fun d os=>(impl_RobotOf_c _ _ hmi).mono (by rw [HR.out];rintro e w2 ⟨rfl,rfl⟩;exact ⟨rfl,⟨d,os⟩,rfl⟩)
              have e0:=cell_regrown (bCell hwb p0)
              clear hW
              refine wp_region_quiet_below (by kernel_rfl) (by kernel_rfl) ?_
              repeat (go_big_quiet_step (first | exact cV _ _ | exact cR _ _))
              refine wpQuiet_nil ?_
              intro _ hw
              obtain ⟨⟨dq,osq⟩,hw⟩:=hw
              subst hw
              have hbq:=bTrans hwb (below_regrown W dq osq)
              clear c0 c1 c2 c3 c4 c5 c6 c7 d0 d1 cV cR
              go_wp2
              go_ret
              exact ⟨by rw [hfin.out];rfl,bTrans hb hbq⟩
        · have hfin:Hid (isBundle r l=false):=BunInv.no HS (.inr (.inl (by simpa using hre)))
          have hrn:(ro != r)=true:=by simpa using hre
          go_wp2_with fail
          refine region_at fun W hW=>?_
          have hwb:Below wr.heap.size wr W:=by rw [hW.out];exact bAlloc (Below.refl _ _) _
          have c0:=cell_regrown (show W.cell? ⟨wr.heap.size,0,none⟩=some (.int .i64 f.id) by rw [hW.out];simp)
          have c1:=cell_regrown (show W.cell? ⟨wr.heap.size,1,none⟩=some (.int .i64 f.kind) by rw [hW.out];simp)
          have c2:=cell_regrown (show W.cell? ⟨wr.heap.size,2,none⟩=some (.string f.frm) by rw [hW.out];simp)
          have c3:=cell_regrown (show W.cell? ⟨wr.heap.size,3,none⟩=some (.string f.to) by rw [hW.out];simp)
          have c4:=cell_regrown (show W.cell? ⟨wr.heap.size,4,none⟩=some (.int .i64 f.pose.turn) by rw [hW.out];simp)
          have c5:=cell_regrown (show W.cell? ⟨wr.heap.size,5,none⟩=some (.int .i64 f.pose.x) by rw [hW.out];simp)
          have c6:=cell_regrown (show W.cell? ⟨wr.heap.size,6,none⟩=some (.int .i64 f.pose.y) by rw [hW.out];simp)
          have c7:=cell_regrown (show W.cell? ⟨wr.heap.size,7,none⟩=some (.int .i64 f.weight) by rw [hW.out];simp)
          have d0:=cell_regrown (bCell hwb b0)
          have d1:=cell_regrown (bCell hwb b1)
          have cV:∀ d os,Calls Tryz.prog 93 #[vFactor f.id f.kind f.frm f.to f.pose.turn f.pose.x f.pose.y f.weight] (Go.Sort.grow (redrawn W d) os) fun e w2=>e=.returned (.bool true)∧∃ p:Regrown,w2=Go.Sort.grow (redrawn W p.d) p.os:=fun d os=>Calls.regrown_of ((impl_IsValidFactor_c f.id f.kind f.frm f.to f.pose.turn f.pose.x f.pose.y f.weight _ hsz.1 hsz.2).mono (fun _ _ h=>⟨h.1.trans (congrArg rBool HV.out),h.2⟩))
          have cR:∀ d os,Calls Tryz.prog 35 #[.int .i64 f.id] (Go.Sort.grow (redrawn W d) os) fun e w2=>e=.returned (.int .i64 ro)∧∃ p:Regrown,w2=Go.Sort.grow (redrawn W p.d) p.os:=fun d os=>(impl_RobotOf_c _ _ hmi).mono (by rw [HR.out];rintro e w2 ⟨rfl,rfl⟩;exact ⟨rfl,⟨d,os⟩,rfl⟩)
          clear hW
          refine wp_region_quiet_below (by kernel_rfl) (by kernel_rfl) ?_
          repeat (go_big_quiet_step (first | exact cV _ _ | exact cR _ _))
          refine wpQuiet_nil ?_
          intro _ hw
          obtain ⟨⟨dq,osq⟩,hw⟩:=hw
          subst hw
          have hbq:=bTrans hwb (below_regrown W dq osq)
          clear c0 c1 c2 c3 c4 c5 c6 c7 d0 d1 cV cR
          go_wp2
          go_ret
          exact ⟨by rw [hfin.out];rfl,bTrans hb hbq⟩
    · have hd:=hi.done hl hlt
      have E:Hid (isBundle r l=true):=by rw [Hid,hAll.out,hd.out]
      go_wp2
      go_ret
      exact ⟨by rw [E.out];rfl,hb⟩
structure Bundle where
  robot:Int
  factors:List Factor
structure Chan where
  queue:List ByteArray
  base:Int
  expected:Int
  inbox:List ByteArray
  net:List Packet
  acks:List Packet
structure Robot where
  factors:List Factor
  journal:ByteArray
structure Team where
  robots:List Robot
  channels:List (List Chan)
def ascL:List Factor→Option Int→Bool
  | [],_=>true
  | f :: l,prev=>vldFactor f && ((match prev with | none=>true | some p=>decide (p < f.id)) && ascL l (some f.id))
def addNm (acc:List ByteArray) (s:ByteArray):List ByteArray:=if s.toList.isEmpty || hasStr acc s then acc else acc++[s]
def namesF (acc:List ByteArray) (f:Factor):List ByteArray:=addNm (addNm acc f.frm) f.to
def namesOf (l:List Factor):List ByteArray:=l.foldl namesF []
def isFL (l:List Factor):Bool:=decide (l.length≤40) && (ascL l none && decide ((namesOf l).length < 10))
def below (f:Factor) (g:Factor):Bool:=decide (g.id < f.id)
def insAt (l:List Factor) (f:Factor):Nat:=(l.takeWhile (below f)).length
def insF (l:List Factor) (f:Factor):List Factor:=l.take (insAt l f)++(f :: l.drop (insAt l f))
def addF (l:List Factor) (f:Factor):List Factor × Bool:=if isFL l && isFL (insF l f) then (insF l f,true) else (l,false)
theorem ascL_lt:∀ {l:List Factor} {p:Int},ascL l (some p)=true→∀ g∈l,p < g.id
  | f :: l,p,h,g,hg=>by
    simp only [ascL,Bool.and_eq_true,decide_eq_true_eq] at h
    rcases List.mem_cons.1 hg with rfl | hg
    · exact h.2.1
    · have:=ascL_lt h.2.2 g hg;omega
theorem insF_cons_lt {l:List Factor} {f g:Factor} (h:g.id < f.id):insF (g :: l) f=g :: insF l f:=by
  have:below f g=true:=by simp [below,h]
  unfold insF insAt
  rw [List.takeWhile_cons_of_pos this]
  rfl
theorem insF_cons_ge {l:List Factor} {f g:Factor} (h:¬ g.id < f.id):insF (g :: l) f=f :: g :: l:=by
  have:¬ below f g=true:=by simp [below,h]
  unfold insF insAt
  rw [List.takeWhile_cons_of_neg this]
  rfl
theorem ascL_ins:∀ {l:List Factor} {f:Factor} {p:Option Int},ascL l p=true→hasId l f.id=true→ascL (insF l f) p=false
  | [],f,p,_,h=>by simp [hasId] at h
  | g :: l,f,p,ha,hh=>by
    simp only [ascL,Bool.and_eq_true] at ha
    by_cases hlt:g.id < f.id
    · rw [insF_cons_lt hlt]
      have hh2:hasId l f.id=true:=by
        simp only [hasId,List.any_cons,Bool.or_eq_true] at hh
        rcases hh with h1 | h1
        · simp at h1;omega
        · exact h1
      have:=ascL_ins ha.2.2 hh2
      simp [ascL,this]
    · rw [insF_cons_ge hlt]
      have hge:¬ f.id < g.id:=by
        intro hc
        simp only [hasId,List.any_cons,Bool.or_eq_true] at hh
        rcases hh with h1 | h1
        · simp at h1;omega
        · obtain ⟨y,hy,he⟩:=List.any_eq_true.1 h1
          have:=ascL_lt ha.2.2 y hy
          simp at he;omega
      simp [ascL,hge]
theorem isFL_asc {l:List Factor} (h:isFL l=true):ascL l none=true:=by simp only [isFL,Bool.and_eq_true] at h;exact h.2.1
theorem isFL_len {l:List Factor} (h:isFL l=true):l.length≤40:=by simp only [isFL,Bool.and_eq_true,decide_eq_true_eq] at h;exact h.1
theorem isFL_ins {l:List Factor} {f:Factor} (h:isFL l=true) (hh:hasId l f.id=true):isFL (insF l f)=false:=by
  simp [isFL,ascL_ins (isFL_asc h) hh]
theorem addF_no {l:List Factor} {f:Factor} (h:isFL l=false):addF l f=(l,false):=by simp [addF,h]
theorem addF_has {l:List Factor} {f:Factor} (h:isFL l=true) (hh:hasId l f.id=true):addF l f=(l,false):=by simp [addF,isFL_ins h hh]
theorem addF_yes {l:List Factor} {f:Factor} (h:isFL l=true) (hh:isFL (insF l f)=true):addF l f=(insF l f,true):=by simp [addF,h,hh]
theorem addF_bad {l:List Factor} {f:Factor} (hh:isFL (insF l f)=false):addF l f=(l,false):=by simp [addF,hh]

def mergeStep (s:List Factor × List Factor) (f:Factor):List Factor × List Factor:=if (addF s.1 f).2 then ((addF s.1 f).1,s.2++[f]) else s
def mergeB (l:List Factor) (r:Int) (m:List Factor):List Factor × List Factor:=if isFL l && isBundle r m then m.foldl mergeStep (l,[]) else (l,[])
def isChan (c:Chan):Bool:=c.queue.all (fun s=>decide (s.size≤300)) && (decide (c.queue.length≤8) && (inR c.base 0 1000000 && (inR c.expected c.base (c.base+c.queue.length) && (decide (c.net.length≤12) && decide (c.acks.length≤12)))))
def isTeam (t:Team):Bool:=inR t.robots.length 1 3 && (decide (t.channels.length=t.robots.length) && ((t.robots.all fun r=>isFL r.factors) && (t.channels.all fun row=>decide (row.length=t.robots.length) && row.all isChan)))
def keys (acc:List ByteArray):List (List UInt8):=acc.map ByteArray.toList
theorem keys_has (acc:List ByteArray) (s:ByteArray):hasStr acc s=true ↔ s.toList∈keys acc:=by
  unfold hasStr keys
  simp only [List.any_eq_true,beq_iff_eq,List.mem_map]
theorem mem_insF {l:List Factor} {f g:Factor}:g∈insF l f ↔ g=f∨g∈l:=by
  unfold insF
  rw [List.mem_append,List.mem_cons]
  constructor
  · rintro (h | h | h)
    · exact .inr (List.mem_of_mem_take h)
    · exact .inl h
    · exact .inr (List.mem_of_mem_drop h)
  · rintro (h | h)
    · exact .inr (.inl h)
    · rw [← List.take_append_drop (insAt l f) l] at h
      rcases List.mem_append.1 h with h | h
      · exact .inl h
      · exact .inr (.inr h)
def after (p:Option Int) (x:Int):Bool:=match p with | none=>true | some q=>decide (q < x)
theorem hasId_iff {l:List Factor} {id:Int}:hasId l id=true ↔ ∃ f∈l,f.id=id:=by
  unfold hasId
  simp only [List.any_eq_true,beq_iff_eq]
theorem addF_cases {l:List Factor} {f:Factor} (h:(addF l f).2=true):(addF l f).1=insF l f∧isFL (insF l f)=true∧isFL l=true:=by
  unfold addF at h ⊢
  split
  · rename_i hc;simp only [Bool.and_eq_true] at hc;exact ⟨rfl,hc.2,hc.1⟩
  · rename_i hc;rw [if_neg hc] at h;cases h
end Go.Proofs.YtdfemnffpaopfaaGreatDoor
