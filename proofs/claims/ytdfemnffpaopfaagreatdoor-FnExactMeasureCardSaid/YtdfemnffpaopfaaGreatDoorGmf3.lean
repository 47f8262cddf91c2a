/- Texts of this proof, one behind the other: Bundle, Data, OnceP, Obj. -/
import Derived.Deep.RegionHeld3
import Derived.Lib.QuietBelow
import Derived.BigQuiet
import Derived.Test.YtdfemnffpaopfaaGreatDoorGmf1
import Derived.Test.YtdfemnffpaopfaaGreatDoorGmf2
namespace Go.Proofs.YtdfemnffpaopfaaGreatDoor
open Go.RowKit
set_option linter.unusedVariables false
set_option linter.unusedSimpArgs false
set_option maxHeartbeats 800000
set_option maxRecDepth 100000
abbrev vBundle (r:Int) (A:Option Addr) (n c:Nat):Value:=.agg #[.int .i64 r,.slice A n c]
def robotOf (id:Int):Int:=if inR id 0 2999 then id / 1000 else -1
theorem robotOf_yes {id:Int} (h:0≤id∧id≤2999):Hid (robotOf id=id / 1000):=by
  have:inR id 0 2999=true:=inR_iff.2 h
  simp [Hid,robotOf,this]
theorem robotOf_no {id:Int} (h:¬ (0≤id∧id≤2999)):Hid (robotOf id = -1):=by
  have:inR id 0 2999=false:=by simpa [inR] using h
  simp [Hid,robotOf,this]
theorem spec_RobotOf_c (id:Int) (w:World):Calls Tryz.prog 68 #[.int .i64 id] w fun e w'=>e=rInt (robotOf id)∧w=w':=by
  by_cases h:0≤id∧id≤2999
  · have hv:=robotOf_yes h
    have hi:=Lib.hid (inR_iff.2 h)
    obtain ⟨h0,h1⟩:=h
    go_enter Tryz.func68,Tryz.ntmps68
    go_wp2_with (go_at_call 105;refine (l01In_c _ _ _ _).mono ?_;rw [hi.out];rintro e w2 ⟨rfl,rfl⟩)
    go_ret
    exact ⟨by rw [hv.out];rfl,rfl⟩
  · have hv:=robotOf_no h
    have hi:Hid (inR id 0 2999=false):=by simpa [Hid,inR] using h
    clear h
    go_enter Tryz.func68,Tryz.ntmps68
    go_wp2_with (go_at_call 105;refine (l01In_c _ _ _ _).mono ?_;rw [hi.out];rintro e w2 ⟨rfl,rfl⟩)
    go_ret
    exact ⟨by rw [hv.out];rfl,rfl⟩
theorem impl_RobotOf_c (id:Int) (w:World) (hid:MI id):Calls Tryz.prog 35 #[.int .i64 id] w fun e w'=>e=rInt (robotOf id)∧w=w':=by
  by_cases h:0≤id∧id≤2999
  · have hv:=robotOf_yes h
    obtain ⟨h0,h1⟩:=h
    have h3:id / 1000 < 3:=by omega
    go_enter Tryz.func35,Tryz.ntmps35
    go_wp2
    go_ret
    exact ⟨by rw [hv.out];rfl,rfl⟩
  · have hv:=robotOf_no h
    by_cases h0:id < 0
    · go_enter Tryz.func35,Tryz.ntmps35
      go_wp2
      go_ret
      exact ⟨by rw [hv.out];rfl,rfl⟩
    · have h1:0≤id:=by omega
      have h3:3≤id / 1000:=by omega
      have h4:wrap64 (id.tdiv 1000)=id / 1000:=by
        rw [Int.tdiv_eq_ediv_of_nonneg (by omega)]
        unfold MI at hid
        exact IntWalk.wrap64_in _ ⟨by omega,by omega⟩
      clear h
      go_enter Tryz.func35,Tryz.ntmps35
      go_wp2
      go_ret
      exact ⟨by rw [hv.out];rfl,rfl⟩
def bunL (r:Int):List Factor→Option Int→Bool
  | [],_=>true
  | f :: l,prev=>vldFactor f && ((robotOf f.id == r) && ((match prev with | none=>true | some p=>decide (p < f.id)) && bunL r l (some f.id)))
def isBundle (r:Int) (l:List Factor):Bool:=inR r 0 2 && (inR l.length 1 4 && bunL r l none)
def prevId (l:List Factor) (k:Nat):Option Int:=if k=0 then none else (l[k - 1]?).map (·.id)
def BunInv (r:Int) (l:List Factor) (k:Nat):Prop:=bunL r l none=bunL r (l.drop k) (prevId l k)
theorem prevId_succ {l:List Factor} {k:Nat} {f:Factor} (hf:Hid (l[k]? = some f)):prevId l (k+1)=some f.id:=by
  have h:l[k]? = some f:=hf
  simp [prevId,h]
theorem BunInv.step {r:Int} {l:List Factor} {k:Nat} {f:Factor} (h:BunInv r l k) (hf:Hid (l[k]? = some f)) :
    bunL r l none=(vldFactor f && ((robotOf f.id == r) && ((match prevId l k with | none=>true | some p=>decide (p < f.id)) && bunL r (l.drop (k+1)) (prevId l (k+1))))):=by
  unfold BunInv at h
  rw [h,drop_at hf,prevId_succ hf]
  rfl
theorem BunInv.done {r:Int} {l:List Factor} {k n:Nat} (h:BunInv r l k) (hl:Hid (l.length=n)) (hk:¬ k < n):Hid (bunL r l none=true):=by
  unfold BunInv at h;rw [Hid,h,drop_end hl hk];rfl
theorem BunInv.no {r:Int} {l:List Factor} {X Y Z b:Bool} (h:Hid (bunL r l none=(X && (Y && (Z && b))))) (hx:X=false∨Y=false∨Z=false):Hid (isBundle r l=false):=by
  rw [Hid,isBundle,h.out]
  rcases hx with rfl | rfl | rfl <;> simp
theorem vld_id {f:Factor} (h:vldFactor f=true):0≤f.id∧f.id≤99999:=by
  unfold vldFactor vldF at h
  simp only [Bool.and_eq_true] at h
  exact inR_iff.1 h.1
set_option maxHeartbeats 8000000 in
theorem spec_IsValidBundle_c (r:Int) (A:Option Addr) (n c:Nat) (l:List Factor) (w:World) (hn:n≤4194304) (hr:RowF w A n l) (hs:∀ f∈l,f.frm.size≤4194304∧f.to.size≤4194304) :
    Calls Tryz.prog 120 #[vBundle r A n c] w fun e w'=>e=rBool (isBundle r l)∧Below w.heap.size w w':=by
  have hl:=hr.len
  go_enter Tryz.func120,Tryz.ntmps120
  go_wp2
  go_loopw [8,3] (fun i j wr=>∃ (k:Nat),k≤n∧i=.int .i64 k∧BunInv r l k∧Below w.heap.size w wr∧Below (w.heap.size+1) (w.alloc (.cells #[.int .i64 r,.slice A n c] 80)) wr) (fun i _ _=>n - (intOf i).toNat)
  case atStart=>exact ⟨0,by omega,rfl,rfl,bAlloc (Below.refl _ _) _,Below.refl _ _⟩
  case round =>
    obtain ⟨k,hk,rfl,hi,hb,hbx⟩:=hrel
    have kb:∀ o,wr.cell? ⟨w.heap.size,o,none⟩=(w.alloc (.cells #[.int .i64 r,.slice A n c] 80)).cell? ⟨w.heap.size,o,none⟩:=fun o=>hbx.cell (p:=⟨w.heap.size,o,none⟩) (by simp)
    have b0:wr.cell? ⟨w.heap.size,0,none⟩=some (.int .i64 r):=by rw [kb];simp
    have b1:wr.cell? ⟨w.heap.size,1,none⟩=some (.slice A n c):=by rw [kb];simp
    clear kb
    have hwl:w.heap.size < wr.heap.size:=cell_lt b0
    by_cases hlt:k < n
    · obtain ⟨f,g,off,hf,rfl,g0,g1,g2,g3,g4,g5,g6,g7⟩:=RowF.at_ (hr.below hb) hlt
      have hst:=hi.step hf
      have hsz:=hs f (List.mem_of_getElem? hf.out)
      generalize hv:vldFactor f=bv at hst
      have HV:=Lib.hid hv
      have HS:=Lib.hid hst
      clear hv hst
      cases bv
      · have hfin:=BunInv.no HS (.inl rfl)
        go_wp2_with fail
        refine region_at fun W hW=>?_
        have hwb:Below wr.heap.size wr W:=by rw [hW.out];exact bAlloc (Below.refl _ _) _
        have c0:=cell_regrown (show W.cell? ⟨wr.heap.size,0,none⟩=some (.int .i64 f.id) by rw [hW.out];simp)
        have c1:=cell_regrown (show W.cell? ⟨wr.heap.size,1,none⟩=some (.int .i64 f.kind) by rw [hW.out];simp)
        have c2:=cell_regrown (show W.cell? ⟨wr.heap.size,2,none⟩=some (.string f.frm) by rw [hW.out];simp)
        have c3:=cell_regrown (show W.cell? ⟨wr.heap.size,3,none⟩=some (.string f.to) by rw [hW.out];simp)
        have c4:=cell_regrown (show W.cell? ⟨wr.heap.size,4,none⟩=some (.int .i64 f.pose.turn) by rw [hW.out];simp)
        have c5:=cell_regrown (show W.cell? ⟨wr.heap.size,5,none⟩=some (.int .i64 f.pose.x) by rw [hW.out];simp)
        have c6:=cell_regrown (show W.cell? ⟨wr.heap.size,6,none⟩=some (.int .i64 f.pose.y) by rw [hW.out];simp)
        have c7:=cell_regrown (show W.cell? ⟨wr.heap.size,7,none⟩=some (.int .i64 f.weight) by rw [hW.out];simp)
        have d0:=cell_regrown (bCell hwb b0)
        have d1:=cell_regrown (bCell hwb b1)
        have cV:∀ d os,Calls Tryz.prog 150 #[vFactor f.id f.kind f.frm f.to f.pose.turn f.pose.x f.pose.y f.weight] (Go.Sort.grow (redrawn W d) os) fun e w2=>e=.returned (.bool false)∧∃ p:Regrown,w2=Go.Sort.grow (redrawn W p.d) p.os:=fun d os=>Calls.regrown_of ((spec_IsValidFactor_c f.id f.kind f.frm f.to f.pose.turn f.pose.x f.pose.y f.weight _ hsz.1 hsz.2).mono (fun _ _ h=>⟨h.1.trans (congrArg rBool HV.out),h.2⟩))
        clear hW
        refine wp_region_quiet_below (by kernel_rfl) (by kernel_rfl) ?_
        repeat (go_big_quiet_step (first | exact cV _ _))
        refine wpQuiet_nil ?_
        intro _ hw
        obtain ⟨⟨dq,osq⟩,hw⟩:=hw
        subst hw
        have hbq:=bTrans hwb (below_regrown W dq osq)
        clear c0 c1 c2 c3 c4 c5 c6 c7 d0 d1 cV
        go_wp2
        go_ret
        exact ⟨by rw [hfin.out];rfl,bTrans hb hbq⟩
      · obtain ⟨hid0,hid1⟩:=vld_id HV.out
        have hmi:MI f.id:=MI.of (by omega)
        generalize hro:robotOf f.id=ro at HS
        have HR:=Lib.hid hro
        clear hro
        by_cases hre:ro=r
        · subst hre
          by_cases hk0:k=0
          · have hkz:¬ 0 < k:=by omega
            have hnx:BunInv ro l (k+1):=by
              have:=HS.out
              subst hk0
              simpa [BunInv,prevId] using this
            clear hk0
            go_wp2_with fail
            refine region_at fun W hW=>?_
            have hwb:Below wr.heap.size wr W:=by rw [hW.out];exact bAlloc (Below.refl _ _) _
            have c0:=cell_regrown (show W.cell? ⟨wr.heap.size,0,none⟩=some (.int .i64 f.id) by rw [hW.out];simp)
            have c1:=cell_regrown (show W.cell? ⟨wr.heap.size,1,none⟩=some (.int .i64 f.kind) by rw [hW.out];simp)
            have c2:=cell_regrown (show W.cell? ⟨wr.heap.size,2,none⟩=some (.string f.frm) by rw [hW.out];simp)
            have c3:=cell_regrown (show W.cell? ⟨wr.heap.size,3,none⟩=some (.string f.to) by rw [hW.out];simp)
            have c4:=cell_regrown (show W.cell? ⟨wr.heap.size,4,none⟩=some (.int .i64 f.pose.turn) by rw [hW.out];simp)
            have c5:=cell_regrown (show W.cell? ⟨wr.heap.size,5,none⟩=some (.int .i64 f.pose.x) by rw [hW.out];simp)
            have c6:=cell_regrown (show W.cell? ⟨wr.heap.size,6,none⟩=some (.int .i64 f.pose.y) by rw [hW.out];simp)
            have c7:=cell_regrown (show W.cell? ⟨wr.heap.size,7,none⟩=some (.int .i64 f.weight) by rw [hW.out];simp)
            have d0:=cell_regrown (bCell hwb b0)
            have d1:=cell_regrown (bCell hwb b1)
            have cV:∀ d os,Calls Tryz.prog 150 #[vFactor f.id f.kind f.frm f.to f.pose.turn f.pose.x f.pose.y f.weight] (Go.Sort.grow (redrawn W d) os) fun e w2=>e=.returned (.bool true)∧∃ p:Regrown,w2=Go.Sort.grow (redrawn W p.d) p.os:=fun d os=>Calls.regrown_of ((spec_IsValidFactor_c f.id f.kind f.frm f.to f.pose.turn f.pose.x f.pose.y f.weight _ hsz.1 hsz.2).mono (fun _ _ h=>⟨h.1.trans (congrArg rBool HV.out),h.2⟩))
            have cR:∀ d os,Calls Tryz.prog 68 #[.int .i64 f.id] (Go.Sort.grow (redrawn W d) os) fun e w2=>e=.returned (.int .i64 ro)∧∃ p:Regrown,w2=Go.Sort.grow (redrawn W p.d) p.os:=fun d os=>(spec_RobotOf_c _ _).mono (by rw [HR.out];rintro e w2 ⟨rfl,rfl⟩;exact ⟨rfl,⟨d,os⟩,rfl⟩)
            clear hW
            refine wp_region_quiet_below (by kernel_rfl) (by kernel_rfl) ?_
            repeat (go_big_quiet_step (first | exact cV _ _ | exact cR _ _))
            refine wpQuiet_nil ?_
            intro _ hw
            obtain ⟨⟨dq,osq⟩,hw⟩:=hw
            subst hw
            have hbq:=bTrans hwb (below_regrown W dq osq)
            clear c0 c1 c2 c3 c4 c5 c6 c7 d0 d1 cV cR
            go_wp2
            exact ⟨⟨k+1,by omega,by simp,hnx,bTrans hb hbq,hbx.trans ⟨hbq.os,hbq.tape,hbq.output,hbq.size,fun k hk=>hbq.block k (by omega)⟩⟩,by simp only [intOf];omega⟩
          · obtain ⟨m,rfl⟩:∃ m,k=m+1:=⟨k - 1,by omega⟩
            obtain ⟨p,g',off',hp,hA,p0,-⟩:=RowF.at_ (hr.below hb) (show m < n by omega)
            obtain ⟨rfl,rfl⟩:g=g'∧off=off':=by simpa using hA
            clear hA hk0
            have hpe:=prevId_succ hp
            by_cases hpf:p.id < f.id
            · have hpg:¬ f.id≤p.id:=by omega
              have hnx:BunInv ro l (m+1+1):=by
                have:=HS.out
                rw [hpe] at this
                simpa [BunInv,hpf] using this
              clear hpf
              go_wp2_with fail
              refine region_at fun W hW=>?_
              have hwb:Below wr.heap.size wr W:=by rw [hW.out];exact bAlloc (Below.refl _ _) _
              have c0:=cell_regrown (show W.cell? ⟨wr.heap.size,0,none⟩=some (.int .i64 f.id) by rw [hW.out];simp)
              have c1:=cell_regrown (show W.cell? ⟨wr.heap.size,1,none⟩=some (.int .i64 f.kind) by rw [hW.out];simp)
              have c2:=cell_regrown (show W.cell? ⟨wr.heap.size,2,none⟩=some (.string f.frm) by rw [hW.out];simp)
              have c3:=cell_regrown (show W.cell? ⟨wr.heap.size,3,none⟩=some (.string f.to) by rw [hW.out];simp)
              have c4:=cell_regrown (show W.cell? ⟨wr.heap.size,4,none⟩=some (.int .i64 f.pose.turn) by rw [hW.out];simp)
              have c5:=cell_regrown (show W.cell? ⟨wr.heap.size,5,none⟩=some (.int .i64 f.pose.x) by rw [hW.out];simp)
              have c6:=cell_regrown (show W.cell? ⟨wr.heap.size,6,none⟩=some (.int .i64 f.pose.y) by rw [hW.out];simp)
              have c7:=cell_regrown (show W.cell? ⟨wr.heap.size,7,none⟩=some (.int .i64 f.weight) by rw [hW.out];simp)
              have d0:=cell_regrown (bCell hwb b0)
              have d1:=cell_regrown (bCell hwb b1)
              have cV:∀ d os,Calls Tryz.prog 150 #[vFactor f.id f.kind f.frm f.to f.pose.turn f.pose.x f.pose.y f.weight] (Go.Sort.grow (redrawn W d) os) fun e w2=>e=.returned (.bool true)∧∃ p:Regrown,w2=Go.Sort.grow (redrawn W p.d) p.os:=fun d os=>Calls.regrown_of ((spec_IsValidFactor_c f.id f.kind f.frm f.to f.pose.turn f.pose.x f.pose.y f.weight _ hsz.1 hsz.2).mono (fun _ _ h=>⟨h.1.trans (congrArg rBool HV.out),h.2⟩))
              have cR:∀ d os,Calls Tryz.prog 68 #[.int .i64 f.id] (Go.Sort.grow (redrawn W d) os) fun e w2=>e=.returned (.int .i64 ro)∧∃ p:Regrown,w2=Go.Sort.grow (redrawn W p.d) p.os:=fun d os=>(spec_RobotOf_c _ _).mono (by rw [HR.out];rintro e w2 ⟨rfl,rfl⟩;exact ⟨rfl,⟨d,os⟩,rfl⟩)
              have e0:=cell_regrown (bCell hwb p0)
              clear hW
              refine wp_region_quiet_below (by kernel_rfl) (by kernel_rfl) ?_
              repeat (go_big_quiet_step (first | exact cV _ _ | exact cR _ _))
              refine wpQuiet_nil ?_
              intro _ hw
              obtain ⟨⟨dq,osq⟩,hw⟩:=hw
              subst hw
              have hbq:=bTrans hwb (below_regrown W dq osq)
              clear c0 c1 c2 c3 c4 c5 c6 c7 d0 d1 cV cR
              go_wp2
              exact ⟨⟨m+1+1,by omega,by simp,hnx,bTrans hb hbq,hbx.trans ⟨hbq.os,hbq.tape,hbq.output,hbq.size,fun k hk=>hbq.block k (by omega)⟩⟩,by simp only [intOf];omega⟩
            · have hpg:f.id≤p.id:=by omega
              have hfin:Hid (isBundle ro l=false):=BunInv.no HS (.inr (.inr (by rw [hpe];simpa using hpf)))
              clear hpf
              go_wp2_with fail
              refine region_at fun W hW=>?_
              have hwb:Below wr.heap.size wr W:=by rw [hW.out];exact bAlloc (Below.refl _ _) _
              have c0:=cell_regrown (show W.cell? ⟨wr.heap.size,0,none⟩=some (.int .i64 f.id) by rw [hW.out];simp)
              have c1:=cell_regrown (show W.cell? ⟨wr.heap.size,1,none⟩=some (.int .i64 f.kind) by rw [hW.out];simp)
              have c2:=cell_regrown (show W.cell? ⟨wr.heap.size,2,none⟩=some (.string f.frm) by rw [hW.out];simp)
              have c3:=cell_regrown (show W.cell? ⟨wr.heap.size,3,none⟩=some (.string f.to) by rw [hW.out];simp)
              have c4:=cell_regrown (show W.cell? ⟨wr.heap.size,4,none⟩=some (.int .i64 f.pose.turn) by rw [hW.out];simp)
              have c5:=cell_regrown (show W.cell? ⟨wr.heap.size,5,none⟩=some (.int .i64 f.pose.x) by rw [hW.out];simp)
              have c6:=cell_regrown (show W.cell? ⟨wr.heap.size,6,none⟩=some (.int .i64 f.pose.y) by rw [hW.out];simp)
              have c7:=cell_regrown (show W.cell? ⟨wr.heap.size,7,none⟩=some (.int .i64 f.weight) by rw [hW.out];simp)
              have d0:=cell_regrown (bCell hwb b0)
              have d1:=cell_regrown (bCell hwb b1)
              have cV:∀ d os,Calls Tryz.prog 150 #[vFactor f.id f.kind f.frm f.to f.pose.turn f.pose.x f.pose.y f.weight] (Go.Sort.grow (redrawn W d) os) fun e w2=>e=.returned (.bool true)∧∃ p:Regrown,w2=Go.Sort.grow (redrawn W p.d) p.os:=fun d os=>Calls.regrown_of ((spec_IsValidFactor_c f.id f.kind f.frm f.to f.pose.turn f.pose.x f.pose.y f.weight _ hsz.1 hsz.2).mono (fun _ _ h=>⟨h.1.trans (congrArg rBool HV.out),h.2⟩))
              have cR:∀ d os,Calls Tryz.prog 68 #[.int .i64 f.id] (Go.Sort.grow (redrawn W d) os) fun e w2=>e=.returned (.int .i64 ro)∧∃ p:Regrown,w2=Go.Sort.grow (redrawn W p.d) p.os:=fun d os=>(spec_RobotOf_c _ _).mono (by rw [HR.out];rintro e w2 ⟨rfl,rfl⟩;exact ⟨rfl,⟨d,os⟩,rfl⟩)
              have e0:=cell_regrown (bCell hwb p0)
              clear hW
              refine wp_region_quiet_below (by kernel_rfl) (by kernel_rfl) ?_
              repeat (go_big_quiet_step (first | exact cV _ _ | exact cR _ _))
              refine wpQuiet_nil ?_
              intro _ hw
              obtain ⟨⟨dq,osq⟩,hw⟩:=hw
              subst hw
              have hbq:=bTrans hwb (below_regrown W dq osq)
              clear c0 c1 c2 c3 c4 c5 c6 c7 d0 d1 cV cR
              go_wp2
              go_ret
              exact ⟨by rw [hfin.out];rfl,bTrans hb hbq⟩
        · have hfin:Hid (isBundle r l=false):=BunInv.no HS (.inr (.inl (by simpa using hre)))
          have hrn:(ro != r)=true:=by simpa using hre
          go_wp2_with fail
          refine region_at fun W hW=>?_
          have hwb:Below wr.heap.size wr W:=by rw [hW.out];exact bAlloc (Below.refl _ _) _
          have c0:=cell_regrown (show W.cell? ⟨wr.heap.size,0,none⟩=some (.int .i64 f.id) by rw [hW.out];simp)
          have c1:=cell_regrown (show W.cell? ⟨wr.heap.size,1,none⟩=some (.int .i64 f.kind) by rw [hW.out];simp)
          have c2:=cell_regrown (show W.cell? ⟨wr.heap.size,2,none⟩=some (.string f.frm) by rw [hW.out];simp)
          have c3:=cell_regrown (show W.cell? ⟨wr.heap.size,3,none⟩=some (.string f.to) by rw [hW.out];simp)
          have c4:=cell_regrown (show W.cell? ⟨wr.heap.size,4,none⟩=some (.int .i64 f.pose.turn) by rw [hW.out];simp)
          have c5:=cell_regrown (show W.cell? ⟨wr.heap.size,5,none⟩=some (.int .i64 f.pose.x) by rw [hW.out];simp)
          have c6:=cell_regrown (show W.cell? ⟨wr.heap.size,6,none⟩=some (.int .i64 f.pose.y) by rw [hW.out];simp)
          have c7:=cell_regrown (show W.cell? ⟨wr.heap.size,7,none⟩=some (.int .i64 f.weight) by rw [hW.out];simp)
          have d0:=cell_regrown (bCell hwb b0)
          have d1:=cell_regrown (bCell hwb b1)
          have cV:∀ d os,Calls Tryz.prog 150 #[vFactor f.id f.kind f.frm f.to f.pose.turn f.pose.x f.pose.y f.weight] (Go.Sort.grow (redrawn W d) os) fun e w2=>e=.returned (.bool true)∧∃ p:Regrown,w2=Go.Sort.grow (redrawn W p.d) p.os:=fun d os=>Calls.regrown_of ((spec_IsValidFactor_c f.id f.kind f.frm f.to f.pose.turn f.pose.x f.pose.y f.weight _ hsz.1 hsz.2).mono (fun _ _ h=>⟨h.1.trans (congrArg rBool HV.out),h.2⟩))
          have cR:∀ d os,Calls Tryz.prog 68 #[.int .i64 f.id] (Go.Sort.grow (redrawn W d) os) fun e w2=>e=.returned (.int .i64 ro)∧∃ p:Regrown,w2=Go.Sort.grow (redrawn W p.d) p.os:=fun d os=>(spec_RobotOf_c _ _).mono (by rw [HR.out];rintro e w2 ⟨rfl,rfl⟩;exact ⟨rfl,⟨d,os⟩,rfl⟩)
          clear hW
          refine wp_region_quiet_below (by kernel_rfl) (by kernel_rfl) ?_
          repeat (go_big_quiet_step (first | exact cV _ _ | exact cR _ _))
          refine wpQuiet_nil ?_
          intro _ hw
          obtain ⟨⟨dq,osq⟩,hw⟩:=hw
          subst hw
          have hbq:=bTrans hwb (below_regrown W dq osq)
          clear c0 c1 c2 c3 c4 c5 c6 c7 d0 d1 cV cR
          go_wp2
          go_ret
          exact ⟨by rw [hfin.out];rfl,bTrans hb hbq⟩
    · have hd:=hi.done hl hlt
      have E:Hid (isBundle r l=(inR r 0 2 && inR n 1 4)):=by rw [Hid,isBundle,hd.out,hl.out];simp
      generalize h1:inR r 0 2=x at E
      generalize h2:inR n 1 4=y at E
      have H1:=Lib.hid h1
      have H2:=Lib.hid h2
      clear h1 h2
      cases x
      all_goals
        go_wp2_with (go_at_call 105;refine (l01In_c _ _ _ _).mono ?_;(first | rw [H1.out] | rw [H2.out]);rintro e w2 ⟨rfl,rfl⟩)
        go_ret
        exact ⟨by rw [E.out];rfl,hb⟩
set_option maxHeartbeats 8000000 in
theorem impl_IsValidBundle_c (r:Int) (A:Option Addr) (n c:Nat) (l:List Factor) (w:World) (hn:n≤4194304) (hr:RowF w A n l) (hs:∀ f∈l,f.frm.size≤4194304∧f.to.size≤4194304) :
    Calls Tryz.prog 88 #[vBundle r A n c] w fun e w'=>e=rBool (isBundle r l)∧Below w.heap.size w w':=by
  have hl:=hr.len
  go_enter Tryz.func88,Tryz.ntmps88
  by_cases x0:r < 0
  · have E:Hid (isBundle r l=false):=by
      have : inR r 0 2 = false := by have : ¬ (0 ≤ r ∧ r ≤ 2) := by omega
                                     simpa [inR] using this
      rw [Hid,isBundle,this];rfl
    go_wp2
    go_ret
    exact ⟨by rw [E.out];rfl,bAlloc (Below.refl _ _) _⟩
  by_cases x1:3≤r
  · have E:Hid (isBundle r l=false):=by
      have : inR r 0 2 = false := by have : ¬ (0 ≤ r ∧ r ≤ 2) := by omega
                                     simpa [inR] using this
      rw [Hid,isBundle,this];rfl
    go_wp2
    go_ret
    exact ⟨by rw [E.out];rfl,bAlloc (Below.refl _ _) _⟩
  have X:inR r 0 2=true:=inR_iff.2 (by omega)
  by_cases y0:(n:Int) < 1
  · have E:Hid (isBundle r l=false):=by
      have : inR l.length 1 4 = false := by have : ¬ (1 ≤ (l.length:Int) ∧ (l.length:Int) ≤ 4) := by rw [hl.out]; omega
                                            simpa [inR] using this
      rw [Hid,isBundle,this];simp
    have y2:n < 1:=by omega
    clear X
    go_wp2
    go_ret
    exact ⟨by rw [E.out];rfl,bAlloc (Below.refl _ _) _⟩
  by_cases y1:4 < (n:Int)
  · have E:Hid (isBundle r l=false):=by
      have : inR l.length 1 4 = false := by have : ¬ (1 ≤ (l.length:Int) ∧ (l.length:Int) ≤ 4) := by rw [hl.out]; omega
                                            simpa [inR] using this
      rw [Hid,isBundle,this];simp
    have y2:4 < n:=by omega
    clear X
    go_wp2
    go_ret
    exact ⟨by rw [E.out];rfl,bAlloc (Below.refl _ _) _⟩
  have Y:inR l.length 1 4=true:=inR_iff.2 (by rw [hl.out];omega)
  have hAll:Hid (isBundle r l=bunL r l none):=by rw [Hid,isBundle,X,Y];rfl
  clear X Y
  have y2:¬ n < 1:=by omega
  have y3:¬ 4 < n:=by omega
  go_wp2
  go_loopw [28,3] (fun i j wr=>∃ (k:Nat),k≤n∧i=.int .i64 k∧BunInv r l k∧Below w.heap.size w wr∧Below (w.heap.size+1) (w.alloc (.cells #[.int .i64 r,.slice A n c] 80)) wr) (fun i _ _=>n - (intOf i).toNat)
  case atStart=>exact ⟨0,by omega,rfl,rfl,bAlloc (Below.refl _ _) _,Below.refl _ _⟩
  case round =>
    obtain ⟨k,hk,rfl,hi,hb,hbx⟩:=hrel
    have kb:∀ o,wr.cell? ⟨w.heap.size,o,none⟩=(w.alloc (.cells #[.int .i64 r,.slice A n c] 80)).cell? ⟨w.heap.size,o,none⟩:=fun o=>hbx.cell (p:=⟨w.heap.size,o,none⟩) (by simp)
    have b0:wr.cell? ⟨w.heap.size,0,none⟩=some (.int .i64 r):=by rw [kb];simp
    have b1:wr.cell? ⟨w.heap.size,1,none⟩=some (.slice A n c):=by rw [kb];simp
    clear kb
    have hwl:w.heap.size < wr.heap.size:=cell_lt b0
    by_cases hlt:k < n
    · obtain ⟨f,g,off,hf,rfl,g0,g1,g2,g3,g4,g5,g6,g7⟩:=RowF.at_ (hr.below hb) hlt
      have hst:=hi.step hf
      have hsz:=hs f (List.mem_of_getElem? hf.out)
      generalize hv:vldFactor f=bv at hst
      have HV:=Lib.hid hv
      have HS:=Lib.hid hst
      clear hv hst
      cases bv
      · have hfin:=BunInv.no HS (.inl rfl)
        go_wp2_with fail
        refine region_at fun W hW=>?_
        have hwb:Below wr.heap.size wr W:=by rw [hW.out];exact bAlloc (Below.refl _ _) _
        have c0:=cell_regrown (show W.cell? ⟨wr.heap.size,0,none⟩=some (.int .i64 f.id) by rw [hW.out];simp)
        have c1:=cell_regrown (show W.cell? ⟨wr.heap.size,1,none⟩=some (.int .i64 f.kind) by rw [hW.out];simp)
        have c2:=cell_regrown (show W.cell? ⟨wr.heap.size,2,none⟩=some (.string f.frm) by rw [hW.out];simp)
        have c3:=cell_regrown (show W.cell? ⟨wr.heap.size,3,none⟩=some (.string f.to) by rw [hW.out];simp)
        have c4:=cell_regrown (show W.cell? ⟨wr.heap.size,4,none⟩=some (.int .i64 f.pose.turn) by rw [hW.out];simp)
        have c5:=cell_regrown (show W.cell? ⟨wr.heap.size,5,none⟩=some (.int .i64 f.pose.x) by rw [hW.out];simp)
        have c6:=cell_regrown (show W.cell? ⟨wr.heap.size,6,none⟩=some (.int .i64 f.pose.y) by rw [hW.out];simp)
        have c7:=cell_regrown (show W.cell? ⟨wr.heap.size,7,none⟩=some (.int .i64 f.weight) by rw [hW.out];simp)
        have d0:=cell_regrown (bCell hwb b0)
        have d1:=cell_regrown (bCell hwb b1)
        have cV:∀ d os,Calls Tryz.prog 93 #[vFactor f.id f.kind f.frm f.to f.pose.turn f.pose.x f.pose.y f.weight] (Go.Sort.grow (redrawn W d) os) fun e w2=>e=.returned (.bool false)∧∃ p:Regrown,w2=Go.Sort.grow (redrawn W p.d) p.os:=fun d os=>Calls.regrown_of ((impl_IsValidFactor_c f.id f.kind f.frm f.to f.pose.turn f.pose.x f.pose.y f.weight _ hsz.1 hsz.2).mono (fun _ _ h=>⟨h.1.trans (congrArg rBool HV.out),h.2⟩))
        clear hW
        refine wp_region_quiet_below (by kernel_rfl) (by kernel_rfl) ?_
        repeat (go_big_quiet_step (first | exact cV _ _))
        refine wpQuiet_nil ?_
        intro _ hw
        obtain ⟨⟨dq,osq⟩,hw⟩:=hw
        subst hw
        have hbq:=bTrans hwb (below_regrown W dq osq)
        clear c0 c1 c2 c3 c4 c5 c6 c7 d0 d1 cV
        go_wp2
        go_ret
        exact ⟨by rw [hfin.out];rfl,bTrans hb hbq⟩
      · obtain ⟨hid0,hid1⟩:=vld_id HV.out
        have hmi:MI f.id:=MI.of (by omega)
        generalize hro:robotOf f.id=ro at HS
        have HR:=Lib.hid hro
        clear hro
        by_cases hre:ro=r
        · subst hre
          by_cases hk0:k=0
          · have hkz:¬ 0 < k:=by omega
            have hnx:BunInv ro l (k+1):=by
              have:=HS.out
              subst hk0
              simpa [BunInv,prevId] using this
            clear hk0
            go_wp2_with fail
            refine region_at fun W hW=>?_
            have hwb:Below wr.heap.size wr W:=by rw [hW.out];exact bAlloc (Below.refl _ _) _
            have c0:=cell_regrown (show W.cell? ⟨wr.heap.size,0,none⟩=some (.int .i64 f.id) by rw [hW.out];simp)
            have c1:=cell_regrown (show W.cell? ⟨wr.heap.size,1,none⟩=some (.int .i64 f.kind) by rw [hW.out];simp)
            have c2:=cell_regrown (show W.cell? ⟨wr.heap.size,2,none⟩=some (.string f.frm) by rw [hW.out];simp)
            have c3:=cell_regrown (show W.cell? ⟨wr.heap.size,3,none⟩=some (.string f.to) by rw [hW.out];simp)
            have c4:=cell_regrown (show W.cell? ⟨wr.heap.size,4,none⟩=some (.int .i64 f.pose.turn) by rw [hW.out];simp)
            have c5:=cell_regrown (show W.cell? ⟨wr.heap.size,5,none⟩=some (.int .i64 f.pose.x) by rw [hW.out];simp)
            have c6:=cell_regrown (show W.cell? ⟨wr.heap.size,6,none⟩=some (.int .i64 f.pose.y) by rw [hW.out];simp)
            have c7:=cell_regrown (show W.cell? ⟨wr.heap.size,7,none⟩=some (.int .i64 f.weight) by rw [hW.out];simp)
            have d0:=cell_regrown (bCell hwb b0)
            have d1:=cell_regrown (bCell hwb b1)
            have cV:∀ d os,Calls Tryz.prog 93 #[vFactor f.id f.kind f.frm f.to f.pose.turn f.pose.x f.pose.y f.weight] (Go.Sort.grow (redrawn W d) os) fun e w2=>e=.returned (.bool true)∧∃ p:Regrown,w2=Go.Sort.grow (redrawn W p.d) p.os:=fun d os=>Calls.regrown_of ((impl_IsValidFactor_c f.id f.kind f.frm f.to f.pose.turn f.pose.x f.pose.y f.weight _ hsz.1 hsz.2).mono (fun _ _ h=>⟨h.1.trans (congrArg rBool HV.out),h.2⟩))
            have cR:∀ d os,Calls Tryz.prog 35 #[.int .i64 f.id] (Go.Sort.grow (redrawn W d) os) fun e w2=>e=.returned (.int .i64 ro)∧∃ p:Regrown,w2=Go.Sort.grow (redrawn W p.d) p.os:=fun d os=>(impl_RobotOf_c _ _ hmi).mono (by rw [HR.out];rintro e w2 ⟨rfl,rfl⟩;exact ⟨rfl,⟨d,os⟩,rfl⟩)
            clear hW
            refine wp_region_quiet_below (by kernel_rfl) (by kernel_rfl) ?_
            repeat (go_big_quiet_step (first | exact cV _ _ | exact cR _ _))
            refine wpQuiet_nil ?_
            intro _ hw
            obtain ⟨⟨dq,osq⟩,hw⟩:=hw
            subst hw
            have hbq:=bTrans hwb (below_regrown W dq osq)
            clear c0 c1 c2 c3 c4 c5 c6 c7 d0 d1 cV cR
            go_wp2
            exact ⟨⟨k+1,by omega,by simp,hnx,bTrans hb hbq,hbx.trans ⟨hbq.os,hbq.tape,hbq.output,hbq.size,fun k hk=>hbq.block k (by omega)⟩⟩,by simp only [intOf];omega⟩
          · obtain ⟨m,rfl⟩:∃ m,k=m+1:=⟨k - 1,by omega⟩
            obtain ⟨p,g',off',hp,hA,p0,-⟩:=RowF.at_ (hr.below hb) (show m < n by omega)
            obtain ⟨rfl,rfl⟩:g=g'∧off=off':=by simpa using hA
            clear hA hk0
            have hpe:=prevId_succ hp
            by_cases hpf:p.id < f.id
            · have hpg:¬ f.id≤p.id:=by omega
              have hnx:BunInv ro l (m+1+1):=by
                have:=HS.out
                rw [hpe] at this
                simpa [BunInv,hpf] using this
              clear hpf
              go_wp2_with fail
              refine region_at fun W hW=>?_
              have hwb:Below wr.heap.size wr W:=by rw [hW.out];exact bAlloc (Below.refl _ _) _
              have c0:=cell_regrown (show W.cell? ⟨wr.heap.size,0,none⟩=some (.int .i64 f.id) by rw [hW.out];simp)
              have c1:=cell_regrown (show W.cell? ⟨wr.heap.size,1,none⟩=some (.int .i64 f.kind) by rw [hW.out];simp)
              have c2:=cell_regrown (show W.cell? ⟨wr.heap.size,2,none⟩=some (.string f.frm) by rw [hW.out];simp)
              have c3:=cell_regrown (show W.cell? ⟨wr.heap.size,3,none⟩=some (.string f.to) by rw [hW.out];simp)
              have c4:=cell_regrown (show W.cell? ⟨wr.heap.size,4,none⟩=some (.int .i64 f.pose.turn) by rw [hW.out];simp)
              have c5:=cell_regrown (show W.cell? ⟨wr.heap.size,5,none⟩=some (.int .i64 f.pose.x) by rw [hW.out];simp)
              have c6:=cell_regrown (show W.cell? ⟨wr.heap.size,6,none⟩=some (.int .i64 f.pose.y) by rw [hW.out];simp)
              have c7:=cell_regrown (show W.cell? ⟨wr.heap.size,7,none⟩=some (.int .i64 f.weight) by rw [hW.out];simp)
              have d0:=cell_regrown (bCell hwb b0)
              have d1:=cell_regrown (bCell hwb b1)
              have cV:∀ d os,Calls Tryz.prog 93 #[vFactor f.id f.kind f.frm f.to f.pose.turn f.pose.x f.pose.y f.weight] (Go.Sort.grow (redrawn W d) os) fun e w2=>e=.returned (.bool true)∧∃ p:Regrown,w2=Go.Sort.grow (redrawn W p.d) p.os:=fun d os=>Calls.regrown_of ((impl_IsValidFactor_c f.id f.kind f.frm f.to f.pose.turn f.pose.x f.pose.y f.weight _ hsz.1 hsz.2).mono (fun _ _ h=>⟨h.1.trans (congrArg rBool HV.out),h.2⟩))
              have cR:∀ d os,Calls Tryz.prog 35 #[.int .i64 f.id] (Go.Sort.grow (redrawn W d) os) fun e w2=>e=.returned (.int .i64 ro)∧∃ p:Regrown,w2=Go.Sort.grow (redrawn W p.d) p.os:=fun d os=>(impl_RobotOf_c _ _ hmi).mono (by rw [HR.out];rintro e w2 ⟨rfl,rfl⟩;exact ⟨rfl,⟨d,os⟩,rfl⟩)
              have e0:=cell_regrown (bCell hwb p0)
              clear hW
              refine wp_region_quiet_below (by kernel_rfl) (by kernel_rfl) ?_
              repeat (go_big_quiet_step (first | exact cV _ _ | exact cR _ _))
              refine wpQuiet_nil ?_
              intro _ hw
              obtain ⟨⟨dq,osq⟩,hw⟩:=hw
              subst hw
              have hbq:=bTrans hwb (below_regrown W dq osq)
              clear c0 c1 c2 c3 c4 c5 c6 c7 d0 d1 cV cR
              go_wp2
              exact ⟨⟨m+1+1,by omega,by simp,hnx,bTrans hb hbq,hbx.trans ⟨hbq.os,hbq.tape,hbq.output,hbq.size,fun k hk=>hbq.block k (by omega)⟩⟩,by simp only [intOf];omega⟩
            · have hpg:f.id≤p.id:=by omega
              have hfin:Hid (isBundle ro l=false):=BunInv.no HS (.inr (.inr (by rw [hpe];simpa using hpf)))
              clear hpf
              go_wp2_with fail
              refine region_at fun W hW=>?_
              have hwb:Below wr.heap.size wr W:=by rw [hW.out];exact bAlloc (Below.refl _ _) _
              have c0:=cell_regrown (show W.cell? ⟨wr.heap.size,0,none⟩=some (.int .i64 f.id) by rw [hW.out];simp)
              have c1:=cell_regrown (show W.cell? ⟨wr.heap.size,1,none⟩=some (.int .i64 f.kind) by rw [hW.out];simp)
              have c2:=cell_regrown (show W.cell? ⟨wr.heap.size,2,none⟩=some (.string f.frm) by rw [hW.out];simp)
              have c3:=cell_regrown (show W.cell? ⟨wr.heap.size,3,none⟩=some (.string f.to) by rw [hW.out];simp)
              have c4:=cell_regrown (show W.cell? ⟨wr.heap.size,4,none⟩=some (.int .i64 f.pose.turn) by rw [hW.out];simp)
              have c5:=cell_regrown (show W.cell? ⟨wr.heap.size,5,none⟩=some (.int .i64 f.pose.x) by rw [hW.out];simp)
              have c6:=cell_regrown (show W.cell? ⟨wr.heap.size,6,none⟩=some (.int .i64 f.pose.y) by rw [hW.out];simp)
              have c7:=cell_regrown (show W.cell? ⟨wr.heap.size,7,none⟩=some (.int .i64 f.weight) by rw [hW.out];simp)
              have d0:=cell_regrown (bCell hwb b0)
              have d1:=cell_regrown (bCell hwb b1)
              have cV:∀ d os,Calls Tryz.prog 93 #[vFactor f.id f.kind f.frm f.to f.pose.turn f.pose.x f.pose.y f.weight] (Go.Sort.grow (redrawn W d) os) fun e w2=>e=.returned (.bool true)∧∃ p:Regrown,w2=Go.Sort.grow (redrawn W p.d) p.os:=fun d os=>Calls.regrown_of ((impl_IsValidFactor_c f.id f.kind f.frm f.to f.pose.turn f.pose.x f.pose.y f.weight _ hsz.1 hsz.2).mono (fun _ _ h=>⟨h.1.trans (congrArg rBool HV.out),h.2⟩))
              have cR:∀ d os,Calls Tryz.prog 35 #[.int .i64 f.id] (Go.Sort.grow (redrawn W d) os) fun e w2=>e=.returned (.int .i64 ro)∧∃ p:Regrown,w2=Go.Sort.grow (redrawn W p.d) p.os:=fun d os=>(impl_RobotOf_c _ _ hmi).mono (by rw [HR.out];rintro e w2 ⟨rfl,rfl⟩;exact ⟨rfl,⟨d,os⟩,rfl⟩)
              have e0:=cell_regrown (bCell hwb p0)
              clear hW
              refine wp_region_quiet_below (by kernel_rfl) (by kernel_rfl) ?_
              repeat (go_big_quiet_step (first | exact cV _ _ | exact cR _ _))
              refine wpQuiet_nil ?_
              intro _ hw
              obtain ⟨⟨dq,osq⟩,hw⟩:=hw
              subst hw
              have hbq:=bTrans hwb (below_regrown W dq osq)
              clear c0 c1 c2 c3 c4 c5 c6 c7 d0 d1 cV cR
              go_wp2
              go_ret
              exact ⟨by rw [hfin.out];rfl,bTrans hb hbq⟩
        · have hfin:Hid (isBundle r l=false):=BunInv.no HS (.inr (.inl (by simpa using hre)))
          have hrn:(ro != r)=true:=by simpa using hre
          go_wp2_with fail
          refine region_at fun W hW=>?_
          have hwb:Below wr.heap.size wr W:=by rw [hW.out];exact bAlloc (Below.refl _ _) _
          have c0:=cell_regrown (show W.cell? ⟨wr.heap.size,0,none⟩=some (.int .i64 f.id) by rw [hW.out];simp)
          have c1:=cell_regrown (show W.cell? ⟨wr.heap.size,1,none⟩=some (.int .i64 f.kind) by rw [hW.out];simp)
          have c2:=cell_regrown (show W.cell? ⟨wr.heap.size,2,none⟩=some (.string f.frm) by rw [hW.out];simp)
          have c3:=cell_regrown (show W.cell? ⟨wr.heap.size,3,none⟩=some (.string f.to) by rw [hW.out];simp)
          have c4:=cell_regrown (show W.cell? ⟨wr.heap.size,4,none⟩=some (.int .i64 f.pose.turn) by rw [hW.out];simp)
          have c5:=cell_regrown (show W.cell? ⟨wr.heap.size,5,none⟩=some (.int .i64 f.pose.x) by rw [hW.out];simp)
          have c6:=cell_regrown (show W.cell? ⟨wr.heap.size,6,none⟩=some (.int .i64 f.pose.y) by rw [hW.out];simp)
          have c7:=cell_regrown (show W.cell? ⟨wr.heap.size,7,none⟩=some (.int .i64 f.weight) by rw [hW.out];simp)
          have d0:=cell_regrown (bCell hwb b0)
          have d1:=cell_regrown (bCell hwb b1)
          have cV:∀ d os,Calls Tryz.prog 93 #[vFactor f.id f.kind f.frm f.to f.pose.turn f.pose.x f.pose.y f.weight] (Go.Sort.grow (redrawn W d) os) fun e w2=>e=.returned (.bool true)∧∃ p:Regrown,w2=Go.Sort.grow (redrawn W p.d) p.os:=fun d os=>Calls.regrown_of ((impl_IsValidFactor_c f.id f.kind f.frm f.to f.pose.turn f.pose.x f.pose.y f.weight _ hsz.1 hsz.2).mono (fun _ _ h=>⟨h.1.trans (congrArg rBool HV.out),h.2⟩))
          have cR:∀ d os,Calls Tryz.prog 35 #[.int .i64 f.id] (Go.Sort.grow (redrawn W d) os) fun e w2=>e=.returned (.int .i64 ro)∧∃ p:Regrown,w2=Go.Sort.grow (redrawn W p.d) p.os:=fun d os=>(impl_RobotOf_c _ _ hmi).mono (by rw [HR.out];rintro e w2 ⟨rfl,rfl⟩;exact ⟨rfl,⟨d,os⟩,rfl⟩)
          clear hW
          refine wp_region_quiet_below (by kernel_rfl) (by kernel_rfl) ?_
          repeat (go_big_quiet_step (first | exact cV _ _ | exact cR _ _))
          refine wpQuiet_nil ?_
          intro _ hw
          obtain ⟨⟨dq,osq⟩,hw⟩:=hw
          subst hw
          have hbq:=bTrans hwb (below_regrown W dq osq)
          clear c0 c1 c2 c3 c4 c5 c6 c7 d0 d1 cV cR
          go_wp2
          go_ret
          exact ⟨by rw [hfin.out];rfl,bTrans hb hbq⟩
    · have hd:=hi.done hl hlt
      have E:Hid (isBundle r l=true):=by rw [Hid,hAll.out,hd.out]
      go_wp2
      go_ret
      exact ⟨by rw [E.out];rfl,hb⟩
structure Bundle where
  robot:Int
  factors:List Factor
structure Chan where
  queue:List ByteArray
  base:Int
  expected:Int
  inbox:List ByteArray
  net:List Packet
  acks:List Packet
structure Robot where
  factors:List Factor
  journal:ByteArray
structure Team where
  robots:List Robot
  channels:List (List Chan)
def ascL:List Factor→Option Int→Bool
  | [],_=>true
  | f :: l,prev=>vldFactor f && ((match prev with | none=>true | some p=>decide (p < f.id)) && ascL l (some f.id))
def addNm (acc:List ByteArray) (s:ByteArray):List ByteArray:=if s.toList.isEmpty || hasStr acc s then acc else acc++[s]
def namesF (acc:List ByteArray) (f:Factor):List ByteArray:=addNm (addNm acc f.frm) f.to
def namesOf (l:List Factor):List ByteArray:=l.foldl namesF []
def isFL (l:List Factor):Bool:=decide (l.length≤40) && (ascL l none && decide ((namesOf l).length < 10))
def below (f:Factor) (g:Factor):Bool:=decide (g.id < f.id)
def insAt (l:List Factor) (f:Factor):Nat:=(l.takeWhile (below f)).length
def insF (l:List Factor) (f:Factor):List Factor:=l.take (insAt l f)++(f :: l.drop (insAt l f))
def addF (l:List Factor) (f:Factor):List Factor × Bool:=if isFL l && isFL (insF l f) then (insF l f,true) else (l,false)
theorem ascL_lt:∀ {l:List Factor} {p:Int},ascL l (some p)=true→∀ g∈l,p < g.id
  | f :: l,p,h,g,hg=>by
    simp only [ascL,Bool.and_eq_true,decide_eq_true_eq] at h
    rcases List.mem_cons.1 hg with rfl | hg
    · exact h.2.1
    · have:=ascL_lt h.2.2 g hg;omega
theorem insF_cons_lt {l:List Factor} {f g:Factor} (h:g.id < f.id):insF (g :: l) f=g :: insF l f:=by
  have:below f g=true:=by simp [below,h]
  unfold insF insAt
  rw [List.takeWhile_cons_of_pos this]
  rfl
theorem insF_cons_ge {l:List Factor} {f g:Factor} (h:¬ g.id < f.id):insF (g :: l) f=f :: g :: l:=by
  have:¬ below f g=true:=by simp [below,h]
  unfold insF insAt
  rw [List.takeWhile_cons_of_neg this]
  rfl
theorem ascL_ins:∀ {l:List Factor} {f:Factor} {p:Option Int},ascL l p=true→hasId l f.id=true→ascL (insF l f) p=false
  | [],f,p,_,h=>by simp [hasId] at h
  | g :: l,f,p,ha,hh=>by
    simp only [ascL,Bool.and_eq_true] at ha
    by_cases hlt:g.id < f.id
    · rw [insF_cons_lt hlt]
      have hh2:hasId l f.id=true:=by
        simp only [hasId,List.any_cons,Bool.or_eq_true] at hh
        rcases hh with h1 | h1
        · simp at h1;omega
        · exact h1
      have:=ascL_ins ha.2.2 hh2
      simp [ascL,this]
    · rw [insF_cons_ge hlt]
      have hge:¬ f.id < g.id:=by
        intro hc
        simp only [hasId,List.any_cons,Bool.or_eq_true] at hh
        rcases hh with h1 | h1
        · simp at h1;omega
        · obtain ⟨y,hy,he⟩:=List.any_eq_true.1 h1
          have:=ascL_lt ha.2.2 y hy
          simp at he;omega
      simp [ascL,hge]
theorem isFL_asc {l:List Factor} (h:isFL l=true):ascL l none=true:=by simp only [isFL,Bool.and_eq_true] at h;exact h.2.1
theorem isFL_len {l:List Factor} (h:isFL l=true):l.length≤40:=by simp only [isFL,Bool.and_eq_true,decide_eq_true_eq] at h;exact h.1
theorem isFL_ins {l:List Factor} {f:Factor} (h:isFL l=true) (hh:hasId l f.id=true):isFL (insF l f)=false:=by
  simp [isFL,ascL_ins (isFL_asc h) hh]
theorem addF_no {l:List Factor} {f:Factor} (h:isFL l=false):addF l f=(l,false):=by simp [addF,h]
theorem addF_has {l:List Factor} {f:Factor} (h:isFL l=true) (hh:hasId l f.id=true):addF l f=(l,false):=by simp [addF,isFL_ins h hh]
theorem addF_yes {l:List Factor} {f:Factor} (h:isFL l=true) (hh:isFL (insF l f)=true):addF l f=(insF l f,true):=by simp [addF,h,hh]
theorem addF_bad {l:List Factor} {f:Factor} (hh:isFL (insF l f)=false):addF l f=(l,false):=by simp [addF,hh]

def isChan (c:Chan):Bool:=c.queue.all (fun s=>decide (s.size≤300)) && (decide (c.queue.length≤8) && (inR c.base 0 1000000 && (inR c.expected c.base (c.base+c.queue.length) && (decide (c.net.length≤12) && decide (c.acks.length≤12)))))
def isTeam (t:Team):Bool:=inR t.robots.length 1 3 && (decide (t.channels.length=t.robots.length) && ((t.robots.all fun r=>isFL r.factors) && (t.channels.all fun row=>decide (row.length=t.robots.length) && row.all isChan)))
theorem mem_insF {l:List Factor} {f g:Factor}:g∈insF l f ↔ g=f∨g∈l:=by
  unfold insF
  rw [List.mem_append,List.mem_cons]
  constructor
  · rintro (h | h | h)
    · exact .inr (List.mem_of_mem_take h)
    · exact .inl h
    · exact .inr (List.mem_of_mem_drop h)
  · rintro (h | h)
    · exact .inr (.inl h)
    · rw [← List.take_append_drop (insAt l f) l] at h
      rcases List.mem_append.1 h with h | h
      · exact .inl h
      · exact .inr (.inr h)
def after (p:Option Int) (x:Int):Bool:=match p with | none=>true | some q=>decide (q < x)
theorem addF_cases {l:List Factor} {f:Factor} (h:(addF l f).2=true):(addF l f).1=insF l f∧isFL (insF l f)=true∧isFL l=true:=by
  unfold addF at h ⊢
  split
  · rename_i hc;simp only [Bool.and_eq_true] at hc;exact ⟨rfl,hc.2,hc.1⟩
  · rename_i hc;rw [if_neg hc] at h;cases h
end Go.Proofs.YtdfemnffpaopfaaGreatDoor

namespace Go.Proofs.YtdfemnffpaopfaaGreatDoor
open Go.RowKit
set_option linter.unusedVariables false
set_option linter.unusedSimpArgs false

structure Sv where
  A:Option Addr
  n:Nat
  c:Nat
def obl (A:Option Addr):List Nat:=(ob A).toList
theorem mem_obl {A:Option Addr} {k:Nat}:k∈obl A ↔ ob A=some k:=by
  unfold obl;cases ob A <;> simp [eq_comm]
structure Upd (fs:List Nat) (w w':World):Prop where
  os:w'.os=w.os
  tape:w'.tape=w.tape
  output:w'.output=w.output
  size:w.heap.size≤w'.heap.size
  block:∀ k,k < w.heap.size→k ∉ fs→w'.heap[k]? = w.heap[k]?
theorem Upd.refl (fs:List Nat) (w:World):Upd fs w w:=⟨rfl,rfl,rfl,Nat.le_refl _,fun _ _ _=>rfl⟩
theorem Upd.trans {fs:List Nat} {a b c:World} (h:Upd fs a b) (k:Upd fs b c):Upd fs a c :=
  ⟨k.os.trans h.os,k.tape.trans h.tape,k.output.trans h.output,Nat.le_trans h.size k.size,fun i hi hn=>(k.block i (Nat.lt_of_lt_of_le hi h.size) hn).trans (h.block i hi hn)⟩
theorem Upd.mono {fs fs':List Nat} {a b:World} (h:Upd fs a b) (hs:∀ k∈fs,k∈fs'):Upd fs' a b :=
  ⟨h.os,h.tape,h.output,h.size,fun i hi hn=>h.block i hi (fun hm=>hn (hs i hm))⟩
theorem Upd.of_below {fs:List Nat} {a b:World} (h:Below a.heap.size a b):Upd fs a b :=
  ⟨h.os,h.tape,h.output,h.size,fun i hi _=>h.block i hi⟩
theorem Upd.of_grown {fs:List Nat} {a b:World} {row:Option Nat} (h:a.grownBy b row) (hr:∀ k,row=some k→k∈fs):Upd fs a b :=
  ⟨h.os,h.tape,h.output,h.size,fun i hi hn=>h.block i hi (fun e=>hn (hr i e.symm))⟩
theorem Upd.then_below {fs:List Nat} {a b c:World} (h:Upd fs a b) (k:Below b.heap.size b c):Upd fs a c:=h.trans (Upd.of_below k)
theorem Upd.set_in {fs:List Nat} {a w:World} (h:Upd fs a w) {p:Addr} (hp:p.block∈fs) (u:Value):Upd fs a (w.setCell p u) :=
  ⟨h.os,h.tape,h.output,by simpa [World.setCell] using h.size,fun k hk hn=>(Below.heap_setCell _ _ _ _ (fun e=>hn (by rw [e];exact hp))).trans (h.block k hk hn)⟩
theorem Upd.alloc_ {fs:List Nat} {a w:World} (h:Upd fs a w) (o:Obj):Upd fs a (w.alloc o):=h.then_below (bAlloc (Below.refl _ _) o)
theorem Upd.apart {B e sz n c:Nat} {w:World} {A:Option Addr} {css:List (List Value)} (h:Own w B e sz A n c css) {fs:List Nat} (hf:∀ k∈fs,k < B):∀ k∈obl A,k ∉ fs :=
  fun k hk hm=>by have:=(h.lt k (mem_obl.1 hk)).1;have:=hf k hm;omega
theorem bUpd {fs:List Nat} {a w w':World} (h:Below a.heap.size a w) (hu:Upd fs w w') (hf:∀ k∈fs,a.heap.size≤k):Below a.heap.size a w' :=
  h.trans ⟨hu.os,hu.tape,hu.output,hu.size,fun k hk=>hu.block k (Nat.lt_of_lt_of_le hk h.size) (fun hm=>by have:=hf k hm;omega)⟩

structure Fresh (B:Nat) (w:World) (fs:List Nat):Prop where
  nodup:fs.Nodup
  lo:∀ g∈fs,B≤g
  hi:∀ g∈fs,g < w.heap.size
theorem Fresh.grow {B:Nat} {w w':World} {fs:List Nat} (h:Fresh B w fs) (hs:w.heap.size≤w'.heap.size):Fresh B w' fs:=⟨h.nodup,h.lo,fun g hg=>Nat.lt_of_lt_of_le (h.hi g hg) hs⟩
theorem Fresh.rebase {B B':Nat} {w:World} {fs:List Nat} (h:Fresh B w fs) (hb:B'≤B):Fresh B' w fs:=⟨h.nodup,fun g hg=>Nat.le_trans hb (h.lo g hg),h.hi⟩
theorem Fresh.nil (B:Nat) (w:World):Fresh B w []:=⟨List.nodup_nil,by simp,by simp⟩
theorem Fresh.append {B B2:Nat} {w:World} {fs gs:List Nat} (h:Fresh B w fs) (k:Fresh B2 w gs) (hb:B≤B2) (hf:∀ g∈fs,g < B2):Fresh B w (fs++gs) :=
  ⟨List.nodup_append.2 ⟨h.nodup,k.nodup,fun a ha b hb' e=>by subst e;have:=hf a ha;have:=k.lo a hb';omega⟩,
   fun g hg=>by rcases List.mem_append.1 hg with h1 | h1;exact h.lo g h1;exact Nat.le_trans hb (k.lo g h1),
   fun g hg=>by rcases List.mem_append.1 hg with h1 | h1;exact h.hi g h1;exact k.hi g h1⟩
theorem Fresh.then_ {B B2:Nat} {w wF:World} {fs gs:List Nat} (h:Fresh B w fs) (k:Fresh B2 wF gs) (h1:B≤B2) (h2:w.heap.size≤B2) (h3:w.heap.size≤wF.heap.size):Fresh B wF (fs++gs) :=
  (h.grow h3).append k h1 fun g hg=>Nat.lt_of_lt_of_le (h.hi g hg) h2
theorem Fresh.left {B:Nat} {w:World} {fs gs:List Nat} (h:Fresh B w (fs++gs)):Fresh B w fs :=
  ⟨(List.nodup_append.1 h.nodup).1,fun g hg=>h.lo g (List.mem_append.2 (.inl hg)),fun g hg=>h.hi g (List.mem_append.2 (.inl hg))⟩
theorem Fresh.right {B:Nat} {w:World} {fs gs:List Nat} (h:Fresh B w (fs++gs)):Fresh B w gs :=
  ⟨(List.nodup_append.1 h.nodup).2.1,fun g hg=>h.lo g (List.mem_append.2 (.inr hg)),fun g hg=>h.hi g (List.mem_append.2 (.inr hg))⟩
theorem Fresh.apart {B:Nat} {w:World} {fs gs:List Nat} (h:Fresh B w (fs++gs)):∀ k∈fs,k ∉ gs:=fun k hk hk2=>(List.nodup_append.1 h.nodup).2.2 k hk k hk2 rfl
theorem Fresh.obl_ {B e sz n c:Nat} {w:World} {A:Option Addr} {css:List (List Value)} (h:Own w B e sz A n c css):Fresh B w (obl A) :=
  ⟨by unfold obl;cases ob A <;> simp,fun g hg=>(h.lt g (mem_obl.1 hg)).1,fun g hg=>(h.lt g (mem_obl.1 hg)).2⟩
theorem Own.upd {B e sz n c:Nat} {w w':World} {A:Option Addr} {css:List (List Value)} {fs:List Nat} (h:Own w B e sz A n c css) (hu:Upd fs w w') (hd:∀ k∈obl A,k ∉ fs):Own w' B e sz A n c css :=
  h.keep fun g hg=>hu.block g (h.lt g hg).2 (hd g (mem_obl.2 hg))
theorem Own.zero {B e sz n c:Nat} {w:World} {A:Option Addr} {css:List (List Value)} (h:Own w B e sz A n c css):Own w 0 e sz A n c css:=h.rebase (Nat.zero_le _)
theorem Own.from_ {B B' e sz n c:Nat} {w:World} {A:Option Addr} {css:List (List Value)} (h:Own w B e sz A n c css) (hb:∀ g∈obl A,B'≤g):Own w B' e sz A n c css:=by
  refine ⟨⟨h.own.1,?_⟩,h.len,h.each⟩
  rcases h.own.2 with hn | ⟨g,cap,cur,hv,_,r⟩
  · exact .inl hn
  · refine .inr ⟨g,cap,cur,hv,hb g ?_,r⟩
    simp only [Value.slice.injEq] at hv
    rw [hv.1];simp [obl,ob]

theorem gBox {w w':World} {row:Option Nat} (hg:w.grownBy w' row) (b:Nat) (hb:b < w.heap.size) (hne:∀ k,row=some k→k≠b):∀ o,w'.cell? ⟨b,o,none⟩=w.cell? ⟨b,o,none⟩ :=
  fun o=>World.cell?_of_block (a:=⟨b,o,none⟩) (hg.block b hb (fun e=>hne b e.symm rfl))
theorem uBox {fs:List Nat} {w w':World} (hg:Upd fs w w') (b:Nat) (hb:b < w.heap.size) (hne:b ∉ fs):∀ o,w'.cell? ⟨b,o,none⟩=w.cell? ⟨b,o,none⟩ :=
  fun o=>World.cell?_of_block (a:=⟨b,o,none⟩) (hg.block b hb hne)
theorem uBoxF {fs:List Nat} {w w':World} (hg:Upd fs w w') (b:Nat) (hb:b < w.heap.size) (hne:b ∉ fs):∀ o,w'.frozen? ⟨b,o,none⟩=w.frozen? ⟨b,o,none⟩ :=
  fun o=>World.frozen?_of_block (a:=⟨b,o,none⟩) (hg.block b hb hne)
theorem Upd.of_row {A:Option Addr} {a b:World} (h:a.grownBy b (ob A)):Upd (obl A) a b:=Upd.of_grown h fun k hk=>mem_obl.2 hk
theorem Row.new1' (w:World) (t:TypeId) (cs:List Value) (sz a:Nat) (h:a=w.heap.size):Row (w.alloc (.cells cs.toArray t)) (some ⟨a,0,none⟩) 1 sz [cs]:=by subst h;exact Row.new1 w t cs sz
variable {α:Type}
def Each (K:List Nat→List Value→α→Prop):List (List Nat)→List (List Value)→List α→Prop
  | [],[],[]=>True
  | f :: fs,c :: cs,x :: xs=>K f c x∧Each K fs cs xs
  | _,_,_=>False
theorem Each.lens {K:List Nat→List Value→α→Prop}:∀ {fss:List (List Nat)} {css:List (List Value)} {l:List α},Each K fss css l→fss.length=l.length∧css.length=l.length
  | [],[],[],_=>⟨rfl,rfl⟩
  | _ :: _,_ :: _,_ :: _,h=>by have:=Each.lens h.2;simp [this.1,this.2]
theorem Each.at_ {K:List Nat→List Value→α→Prop}:∀ {fss:List (List Nat)} {css:List (List Value)} {l:List α} {i:Nat} {x:α},Each K fss css l→l[i]? = some x→∃ f cs,fss[i]? = some f∧css[i]? = some cs∧K f cs x
  | [],[],[],_,_,_,hx=>by simp at hx
  | f :: _,c :: _,y :: _,0,x,h,hx=>by simp only [List.getElem?_cons_zero,Option.some.injEq] at hx;subst hx;exact ⟨f,c,rfl,rfl,h.1⟩
  | _ :: _,_ :: _,_ :: _,i+1,x,h,hx=>by
    simp only [List.getElem?_cons_succ] at hx
    obtain ⟨f,cs,h1,h2,h3⟩:=Each.at_ h.2 hx
    exact ⟨f,cs,by simpa using h1,by simpa using h2,h3⟩
theorem Each.imp {K K':List Nat→List Value→α→Prop}:∀ {fss:List (List Nat)} {css:List (List Value)} {l:List α},Each K fss css l→(∀ (i:Nat) (f:List Nat) (cs:List Value) (x:α),fss[i]? = some f→css[i]? = some cs→l[i]? = some x→K f cs x→K' f cs x)→Each K' fss css l
  | [],[],[],_,_=>trivial
  | f :: _,c :: _,y :: _,h,hk=>⟨hk 0 f c y rfl rfl rfl h.1,Each.imp h.2 fun i f cs x h1 h2 h3=>hk (i+1) f cs x (by simpa using h1) (by simpa using h2) (by simpa using h3)⟩
theorem Each.append {K:List Nat→List Value→α→Prop}:∀ {fss gss:List (List Nat)} {css dss:List (List Value)} {l m:List α},Each K fss css l→Each K gss dss m→Each K (fss++gss) (css++dss) (l++m)
  | [],_,[],_,[],_,_,h=>h
  | _ :: _,_,_ :: _,_,_ :: _,_,h,k=>⟨h.1,Each.append h.2 k⟩
theorem Each.one {K:List Nat→List Value→α→Prop} {f:List Nat} {cs:List Value} {x:α} (h:K f cs x):Each K [f] [cs] [x]:=⟨h,trivial⟩
theorem Each.replicate {K:List Nat→List Value→α→Prop} {f:List Nat} {cs:List Value} {x:α} (h:K f cs x):∀ n,Each K (List.replicate n f) (List.replicate n cs) (List.replicate n x)
  | 0=>trivial
  | n+1=>⟨h,Each.replicate h n⟩
theorem mem_flat {fss:List (List Nat)} {i:Nat} {f:List Nat} (h:fss[i]? = some f) {k:Nat} (hk:k∈f):k∈fss.flatten:=List.mem_flatten.2 ⟨f,List.mem_of_getElem? h,hk⟩
theorem flat_nodup:∀ {fss:List (List Nat)} {f:List Nat},fss.flatten.Nodup→f∈fss→f.Nodup
  | a :: r,f,hn,hf=>by
    rw [List.flatten_cons] at hn
    rcases List.mem_cons.1 hf with rfl | hf
    · exact (List.nodup_append.1 hn).1
    · exact flat_nodup (List.nodup_append.1 hn).2.1 hf
theorem flat_apart:∀ {fss:List (List Nat)} {i j:Nat} {f g:List Nat},fss.flatten.Nodup→fss[i]? = some f→fss[j]? = some g→i≠j→∀ k∈f,k ∉ g
  | a :: r,0,0,f,g,hn,hi,hj,hne=>absurd rfl hne
  | a :: r,0,j+1,f,g,hn,hi,hj,hne=>fun k hk hg=>by
    simp only [List.getElem?_cons_zero,Option.some.injEq] at hi;subst hi
    simp only [List.getElem?_cons_succ] at hj
    rw [List.flatten_cons] at hn
    exact (List.nodup_append.1 hn).2.2 k hk k (mem_flat hj hg) rfl
  | a :: r,i+1,0,f,g,hn,hi,hj,hne=>fun k hk hg=>by
    simp only [List.getElem?_cons_zero,Option.some.injEq] at hj;subst hj
    simp only [List.getElem?_cons_succ] at hi
    rw [List.flatten_cons] at hn
    exact (List.nodup_append.1 hn).2.2 k hg k (mem_flat hi hk) rfl
  | a :: r,i+1,j+1,f,g,hn,hi,hj,hne=>by
    simp only [List.getElem?_cons_succ] at hi hj
    rw [List.flatten_cons] at hn
    exact flat_apart (List.nodup_append.1 hn).2.1 hi hj (by omega)

structure Loc (K:World→List Nat→List Value→α→Prop):Prop where
  keep:∀ {w w':World} {f:List Nat} {cs:List Value} {x:α},K w f cs x→(∀ k∈f,w'.heap[k]? = w.heap[k]?)→K w' f cs x
  lt:∀ {w:World} {f:List Nat} {cs:List Value} {x:α},K w f cs x→∀ k∈f,k < w.heap.size
def OwSl (K:World→List Nat→List Value→α→Prop) (w:World) (fs:List Nat) (e sz:Nat) (A:Option Addr) (n c:Nat) (l:List α):Prop :=
  ∃ css fss,Own w 0 e sz A n c css∧Each (K w) fss css l∧fs=obl A++fss.flatten
theorem OwSl.len {K:World→List Nat→List Value→α→Prop} {w:World} {fs:List Nat} {e sz n c:Nat} {A:Option Addr} {l:List α} (h:OwSl K w fs e sz A n c l):Hid (l.length=n):=by
  obtain ⟨css,fss,h1,h2,_⟩:=h
  exact (h2.lens.2.symm.trans h1.len)
theorem Each.lt_ {K:World→List Nat→List Value→α→Prop} (hK:Loc K) {w:World} {fss:List (List Nat)} {css:List (List Value)} {l:List α} (h:Each (K w) fss css l):∀ k∈fss.flatten,k < w.heap.size:=by
  intro k hk
  obtain ⟨f,hf,hkf⟩:=List.mem_flatten.1 hk
  obtain ⟨i,hi,rfl⟩:=List.mem_iff_getElem.1 hf
  have hl:=h.lens
  obtain ⟨f',cs,h1,_,h3⟩:=h.at_ (i:=i) (x:=l[i]'(by omega)) (List.getElem?_eq_getElem _)
  rw [List.getElem?_eq_getElem hi] at h1
  obtain rfl:=Option.some.inj h1
  exact hK.lt h3 k hkf
theorem Each.keep_ {K:World→List Nat→List Value→α→Prop} (hK:Loc K) {w w':World} {fss:List (List Nat)} {css:List (List Value)} {l:List α} (h:Each (K w) fss css l) (hw:∀ k∈fss.flatten,w'.heap[k]? = w.heap[k]?):Each (K w') fss css l :=
  h.imp fun i f cs x h1 _ _ hk=>hK.keep hk fun k hkf=>hw k (mem_flat h1 hkf)
theorem OwSl.keep {K:World→List Nat→List Value→α→Prop} (hK:Loc K) {w w':World} {fs:List Nat} {e sz n c:Nat} {A:Option Addr} {l:List α} (h:OwSl K w fs e sz A n c l) (hw:∀ k∈fs,w'.heap[k]? = w.heap[k]?):OwSl K w' fs e sz A n c l:=by
  obtain ⟨css,fss,h1,h2,rfl⟩:=h
  exact ⟨css,fss,h1.keep fun g hg=>hw g (List.mem_append.2 (.inl (mem_obl.2 hg))),h2.keep_ hK fun k hk=>hw k (List.mem_append.2 (.inr hk)),rfl⟩
theorem OwSl.lt {K:World→List Nat→List Value→α→Prop} (hK:Loc K) {w:World} {fs:List Nat} {e sz n c:Nat} {A:Option Addr} {l:List α} (h:OwSl K w fs e sz A n c l):∀ k∈fs,k < w.heap.size:=by
  obtain ⟨css,fss,h1,h2,rfl⟩:=h
  intro k hk
  rcases List.mem_append.1 hk with hk | hk
  · exact (h1.lt k (mem_obl.1 hk)).2
  · exact h2.lt_ hK k hk
theorem OwSl.below {K:World→List Nat→List Value→α→Prop} (hK:Loc K) {w w':World} {fs:List Nat} {e sz n c:Nat} {A:Option Addr} {l:List α} (h:OwSl K w fs e sz A n c l) (hb:Below w.heap.size w w'):OwSl K w' fs e sz A n c l :=
  h.keep hK fun k hk=>hb.block k (h.lt hK k hk)
theorem OwSl.upd {K:World→List Nat→List Value→α→Prop} (hK:Loc K) {w w':World} {fs gs:List Nat} {e sz n c:Nat} {A:Option Addr} {l:List α} (h:OwSl K w fs e sz A n c l) (hu:Upd gs w w') (hd:∀ k∈fs,k ∉ gs):OwSl K w' fs e sz A n c l :=
  h.keep hK fun k hk=>hu.block k (h.lt hK k hk) (hd k hk)
def RdSl (R:World→List Value→α→Prop) (w:World) (A:Option Addr) (n sz:Nat) (l:List α):Prop :=
  ∃ css fss,Row w A n sz css∧Each (fun _ cs x=>R w cs x) fss css l
theorem RdSl.len {R:World→List Value→α→Prop} {w:World} {A:Option Addr} {n sz:Nat} {l:List α} (h:RdSl R w A n sz l):Hid (l.length=n):=by
  obtain ⟨css,fss,h1,h2⟩:=h
  exact (h2.lens.2.symm.trans h1.1)
theorem RdSl.below {R:World→List Value→α→Prop} (hR:∀ {w w':World} {cs:List Value} {x:α},R w cs x→Below w.heap.size w w'→R w' cs x) {w w':World} {A:Option Addr} {n sz:Nat} {l:List α} (h:RdSl R w A n sz l) (hb:Below w.heap.size w w'):RdSl R w' A n sz l:=by
  obtain ⟨css,fss,h1,h2⟩:=h
  exact ⟨css,fss,h1.below hb,h2.imp fun i f cs x _ _ _ hk=>hR hk hb⟩
theorem RdSl.at_ {R:World→List Value→α→Prop} {w:World} {A:Option Addr} {n sz:Nat} {l:List α} (h:RdSl R w A n sz l) {k:Nat} (hk:k < n) :
    ∃ (x:α) (cs:List Value) (g off:Nat),Hid (l[k]? = some x)∧A=some ⟨g,off,none⟩∧R w cs x∧∀ j v,cs[j]? = some v→w.cell? ⟨g,off+k * sz+j,none⟩=some v:=by
  have hl:l.length=n:=h.len
  obtain ⟨css,fss,h1,h2⟩:=h
  obtain ⟨f,cs,_,h4,h5⟩:=h2.at_ (i:=k) (x:=l[k]'(by omega)) (List.getElem?_eq_getElem _)
  obtain ⟨g,off,hA,hc⟩:=h1.2 k cs h4
  exact ⟨l[k]'(by omega),cs,g,off,by simp [Hid],hA,h5,hc⟩
theorem OwSl.rd {K:World→List Nat→List Value→α→Prop} {R:World→List Value→α→Prop} (hKR:∀ {w:World} {f:List Nat} {cs:List Value} {x:α},K w f cs x→R w cs x) {w:World} {fs:List Nat} {e sz n c:Nat} {A:Option Addr} {l:List α} (h:OwSl K w fs e sz A n c l):RdSl R w A n sz l:=by
  obtain ⟨css,fss,h1,h2,_⟩:=h
  exact ⟨css,fss,h1.row,h2.imp fun i f cs x _ _ _ hk=>hKR hk⟩
theorem Each.put {K K':List Nat→List Value→α→Prop}:∀ {fss:List (List Nat)} {css:List (List Value)} {l:List α} {i:Nat} {f:List Nat} {cs':List Value} {x':α},Each K fss css l→fss[i]? = some f→K' f cs' x' →
    (∀ (j:Nat) (f2:List Nat) (cs2:List Value) (x2:α),j≠i→fss[j]? = some f2→css[j]? = some cs2→l[j]? = some x2→K f2 cs2 x2→K' f2 cs2 x2)→Each K' fss (css.set i cs') (l.set i x')
  | a :: r,c :: cr,y :: lr,0,f,cs',x',he,hf,hk',hall=>by
    simp only [List.getElem?_cons_zero,Option.some.injEq] at hf
    subst hf
    exact ⟨hk',he.2.imp fun j f2 cs2 x2 h1 h2 h3 h4=>hall (j+1) f2 cs2 x2 (by omega) (by simpa using h1) (by simpa using h2) (by simpa using h3) h4⟩
  | a :: r,c :: cr,y :: lr,i+1,f,cs',x',he,hf,hk',hall =>
    ⟨hall 0 a c y (by omega) rfl rfl rfl he.1,Each.put he.2 (by simpa using hf) hk' fun j f2 cs2 x2 hne h1 h2 h3 h4=>hall (j+1) f2 cs2 x2 (by omega) (by simpa using h1) (by simpa using h2) (by simpa using h3) h4⟩
theorem OwSl.focus {K:World→List Nat→List Value→α→Prop} (hK:Loc K) {w:World} {fs:List Nat} {e sz n c:Nat} {A:Option Addr} {l:List α} (h:OwSl K w fs e sz A n c l) (hn:fs.Nodup) {i:Nat} {x:α} (hx:l[i]? = some x) :
    ∃ css f cs g,Own w 0 e sz A n c css∧css[i]? = some cs∧K w f cs x∧A=some ⟨g,0,none⟩∧g ∉ f∧g∈fs∧(∀ k∈f,k∈fs)∧f.Nodup ∧
      (∀ w' cs' x',Own w' 0 e sz A n c (css.set i cs')→K w' f cs' x'→Upd (g :: f) w w'→OwSl K w' fs e sz A n c (l.set i x')):=by
  obtain ⟨css,fss,h1,h2,rfl⟩:=h
  obtain ⟨f,cs,hf,hcs,hk⟩:=h2.at_ hx
  obtain ⟨hno,hnf,hna⟩:=List.nodup_append.1 hn
  rcases h1.cases with ⟨_,_,_,rfl⟩ | ⟨g,rfl,_,hgl,_⟩
  · simp at hcs
  · have hgo:g∈obl (some ⟨g,0,none⟩):=by simp [obl,ob]
    have hgf:g ∉ fss.flatten:=fun hm=>hna g hgo g hm rfl
    refine ⟨css,f,cs,g,h1,hcs,hk,rfl,fun hm=>hgf (mem_flat hf hm),List.mem_append.2 (.inl hgo),fun k hk=>List.mem_append.2 (.inr (mem_flat hf hk)),?_,fun w' cs' x' ho hk' hu=>?_⟩
    · exact flat_nodup hnf (List.mem_of_getElem? hf)
    · refine ⟨css.set i cs',fss,ho,h2.put hf hk' fun j f2 cs2 x2 hne h3 _ _ hk2=>?_,rfl⟩
      refine hK.keep hk2 fun k hkf=>hu.block k (hK.lt hk2 k hkf) ?_
      simp only [List.mem_cons,not_or]
      exact ⟨fun e=>hgf (by rw [← e];exact mem_flat h3 hkf),flat_apart hnf h3 hf hne k hkf⟩
theorem OwSl.nil_ {K:World→List Nat→List Value→α→Prop} (w:World) (e sz:Nat):OwSl K w [] e sz none 0 0 []:=⟨[],[],Own.nil_ _ _ _ _,trivial,rfl⟩
end Go.Proofs.YtdfemnffpaopfaaGreatDoor

