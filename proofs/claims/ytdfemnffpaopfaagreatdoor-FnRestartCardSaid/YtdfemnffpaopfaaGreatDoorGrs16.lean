/- Texts of this proof, one behind the other: FL, Add. -/
import Derived.Outline
import Derived.Test.YtdfemnffpaopfaaGreatDoorGrs4
import Derived.Test.YtdfemnffpaopfaaGreatDoorGrs8
import Derived.Test.YtdfemnffpaopfaaGreatDoorGrs9
import Derived.Test.YtdfemnffpaopfaaGreatDoorGrs15
namespace Go.Proofs.YtdfemnffpaopfaaGreatDoor
open Go.RowKit
set_option linter.unusedVariables false
set_option linter.unusedSimpArgs false
set_option maxHeartbeats 2000000
set_option maxRecDepth 100000
def FlInv (l:List Factor) (k:Nat):Prop:=ascL l none=ascL (l.drop k) (prevId l k)
theorem FlInv.step {l:List Factor} {k:Nat} {f:Factor} (h:FlInv l k) (hf:Hid (l[k]? = some f)) :
    ascL l none=(vldFactor f && ((match prevId l k with | none=>true | some p=>decide (p < f.id)) && ascL (l.drop (k+1)) (prevId l (k+1)))):=by
  unfold FlInv at h
  rw [h,drop_at hf,prevId_succ hf]
  rfl
theorem FlInv.done {l:List Factor} {k n:Nat} (h:FlInv l k) (hl:Hid (l.length=n)) (hk:¬ k < n):Hid (ascL l none=true):=by
  unfold FlInv at h;rw [Hid,h,drop_end hl hk];rfl
theorem FlInv.no {l:List Factor} {X Z b:Bool} (h:Hid (ascL l none=(X && (Z && b)))) (hx:X=false∨Z=false):Hid (isFL l=false):=by
  rw [Hid,isFL,h.out]
  rcases hx with rfl | rfl <;> simp
set_option maxHeartbeats 8000000 in
theorem impl_IsFactorList_c (A:Option Addr) (n c:Nat) (l:List Factor) (w:World) (hn:n≤4194304) (hr:RowF w A n l) (hs:∀ f∈l,f.frm.size≤4194304∧f.to.size≤4194304) :
    Calls Tryz.prog 51 #[.slice A n c] w fun e w'=>e=rBool (isFL l)∧Below w.heap.size w w':=by
  have hl:=hr.len
  by_cases h40:40 < n
  · have hfin:Hid (isFL l=false):=by
      have:¬ l.length≤40:=by rw [hl.out];omega
      simp [Hid,isFL,this]
    go_enter Tryz.func51,Tryz.ntmps51
    go_wp2
    go_ret
    exact ⟨by rw [hfin.out];rfl,Below.refl _ _⟩
  have hn40:n≤40:=by omega
  go_enter Tryz.func51,Tryz.ntmps51
  go_wp2_with fail
  go_loopw [10,3] (fun i j wr=>∃ (k:Nat),k≤n∧i=.int .i64 k∧FlInv l k∧Below w.heap.size w wr) (fun i _ _=>n - (intOf i).toNat)
  case atStart=>exact ⟨0,by omega,rfl,rfl,Below.refl _ _⟩
  case round =>
    obtain ⟨k,hk,rfl,hi,hb⟩:=hrel
    by_cases hlt:k < n
    · obtain ⟨f,g,off,hf,rfl,g0,g1,g2,g3,g4,g5,g6,g7⟩:=RowF.at_ (hr.below hb) hlt
      have hst:=hi.step hf
      have hsz:=hs f (List.mem_of_getElem? hf.out)
      generalize hv:vldFactor f=bv at hst
      have HV:=Lib.hid hv
      have HS:=Lib.hid hst
      clear hv hst hi
      cases bv
      · have hfin:=FlInv.no HS (.inl rfl)
        go_wp2_with fail
        refine region_at fun W hW=>?_
        have hwb:Below wr.heap.size wr W:=by rw [hW.out];exact bAlloc (Below.refl _ _) _
        have c0:=cell_regrown (show W.cell? ⟨wr.heap.size,0,none⟩=some (.int .i64 f.id) by rw [hW.out];simp)
        have c1:=cell_regrown (show W.cell? ⟨wr.heap.size,1,none⟩=some (.int .i64 f.kind) by rw [hW.out];simp)
        have c2:=cell_regrown (show W.cell? ⟨wr.heap.size,2,none⟩=some (.string f.frm) by rw [hW.out];simp)
        have c3:=cell_regrown (show W.cell? ⟨wr.heap.size,3,none⟩=some (.string f.to) by rw [hW.out];simp)
        have c4:=cell_regrown (show W.cell? ⟨wr.heap.size,4,none⟩=some (.int .i64 f.pose.turn) by rw [hW.out];simp)
        have c5:=cell_regrown (show W.cell? ⟨wr.heap.size,5,none⟩=some (.int .i64 f.pose.x) by rw [hW.out];simp)
        have c6:=cell_regrown (show W.cell? ⟨wr.heap.size,6,none⟩=some (.int .i64 f.pose.y) by rw [hW.out];simp)
        have c7:=cell_regrown (show W.cell? ⟨wr.heap.size,7,none⟩=some (.int .i64 f.weight) by rw [hW.out];simp)
        have cV:∀ d os,Calls Tryz.prog 93 #[vFactor f.id f.kind f.frm f.to f.pose.turn f.pose.x f.pose.y f.weight] (Go.Sort.grow (redrawn W d) os) fun e w2=>e=.returned (.bool false)∧∃ p:Regrown,w2=Go.Sort.grow (redrawn W p.d) p.os:=fun d os=>Calls.regrown_of ((impl_IsValidFactor_c f.id f.kind f.frm f.to f.pose.turn f.pose.x f.pose.y f.weight _ hsz.1 hsz.2).mono (fun _ _ h=>⟨h.1.trans (congrArg rBool HV.out),h.2⟩))
        clear hW
        refine wp_region_quiet_below (by kernel_rfl) (by kernel_rfl) ?_
        repeat (go_big_quiet_step (first | exact cV _ _))
        refine wpQuiet_nil ?_
        intro _ hw
        obtain ⟨⟨dq,osq⟩,hw⟩:=hw
        subst hw
        have hbq:=bTrans hwb (below_regrown W dq osq)
        clear c0 c1 c2 c3 c4 c5 c6 c7 cV
        go_wp2
        go_ret
        exact ⟨by rw [hfin.out];rfl,bTrans hb hbq⟩
      · by_cases hk0:k=0
        · have hkz:¬ 0 < k:=by omega
          have hnx:FlInv l (k+1):=by
            have:=HS.out
            subst hk0
            simpa [FlInv,prevId] using this
          clear hk0
          go_wp2_with fail
          refine region_at fun W hW=>?_
          have hwb:Below wr.heap.size wr W:=by rw [hW.out];exact bAlloc (Below.refl _ _) _
          have c0:=cell_regrown (show W.cell? ⟨wr.heap.size,0,none⟩=some (.int .i64 f.id) by rw [hW.out];simp)
          have c1:=cell_regrown (show W.cell? ⟨wr.heap.size,1,none⟩=some (.int .i64 f.kind) by rw [hW.out];simp)
          have c2:=cell_regrown (show W.cell? ⟨wr.heap.size,2,none⟩=some (.string f.frm) by rw [hW.out];simp)
          have c3:=cell_regrown (show W.cell? ⟨wr.heap.size,3,none⟩=some (.string f.to) by rw [hW.out];simp)
          have c4:=cell_regrown (show W.cell? ⟨wr.heap.size,4,none⟩=some (.int .i64 f.pose.turn) by rw [hW.out];simp)
          have c5:=cell_regrown (show W.cell? ⟨wr.heap.size,5,none⟩=some (.int .i64 f.pose.x) by rw [hW.out];simp)
          have c6:=cell_regrown (show W.cell? ⟨wr.heap.size,6,none⟩=some (.int .i64 f.pose.y) by rw [hW.out];simp)
          have c7:=cell_regrown (show W.cell? ⟨wr.heap.size,7,none⟩=some (.int .i64 f.weight) by rw [hW.out];simp)
          have cV:∀ d os,Calls Tryz.prog 93 #[vFactor f.id f.kind f.frm f.to f.pose.turn f.pose.x f.pose.y f.weight] (Go.Sort.grow (redrawn W d) os) fun e w2=>e=.returned (.bool true)∧∃ p:Regrown,w2=Go.Sort.grow (redrawn W p.d) p.os:=fun d os=>Calls.regrown_of ((impl_IsValidFactor_c f.id f.kind f.frm f.to f.pose.turn f.pose.x f.pose.y f.weight _ hsz.1 hsz.2).mono (fun _ _ h=>⟨h.1.trans (congrArg rBool HV.out),h.2⟩))
          clear hW
          refine wp_region_quiet_below (by kernel_rfl) (by kernel_rfl) ?_
          repeat (go_big_quiet_step (first | exact cV _ _))
          refine wpQuiet_nil ?_
          intro _ hw
          obtain ⟨⟨dq,osq⟩,hw⟩:=hw
          subst hw
          have hbq:=bTrans hwb (below_regrown W dq osq)
          clear c0 c1 c2 c3 c4 c5 c6 c7 cV
          go_wp2
          exact ⟨⟨k+1,by omega,by simp,hnx,bTrans hb hbq⟩,by simp only [intOf];omega⟩
        · obtain ⟨m,rfl⟩:∃ m,k=m+1:=⟨k - 1,by omega⟩
          obtain ⟨p,g',off',hp,hA,p0,-⟩:=RowF.at_ (hr.below hb) (show m < n by omega)
          obtain ⟨rfl,rfl⟩:g=g'∧off=off':=by simpa using hA
          clear hA hk0
          have hpe:=Lib.hid (prevId_succ hp)
          by_cases hpf:p.id < f.id
          · have hpg:¬ f.id≤p.id:=by omega
            have hnx:FlInv l (m+1+1):=by
              have:=HS.out
              rw [hpe.out] at this
              simpa [FlInv,hpf] using this
            clear hpf
            go_wp2_with fail
            refine region_at fun W hW=>?_
            have hwb:Below wr.heap.size wr W:=by rw [hW.out];exact bAlloc (Below.refl _ _) _
            have c0:=cell_regrown (show W.cell? ⟨wr.heap.size,0,none⟩=some (.int .i64 f.id) by rw [hW.out];simp)
            have c1:=cell_regrown (show W.cell? ⟨wr.heap.size,1,none⟩=some (.int .i64 f.kind) by rw [hW.out];simp)
            have c2:=cell_regrown (show W.cell? ⟨wr.heap.size,2,none⟩=some (.string f.frm) by rw [hW.out];simp)
            have c3:=cell_regrown (show W.cell? ⟨wr.heap.size,3,none⟩=some (.string f.to) by rw [hW.out];simp)
            have c4:=cell_regrown (show W.cell? ⟨wr.heap.size,4,none⟩=some (.int .i64 f.pose.turn) by rw [hW.out];simp)
            have c5:=cell_regrown (show W.cell? ⟨wr.heap.size,5,none⟩=some (.int .i64 f.pose.x) by rw [hW.out];simp)
            have c6:=cell_regrown (show W.cell? ⟨wr.heap.size,6,none⟩=some (.int .i64 f.pose.y) by rw [hW.out];simp)
            have c7:=cell_regrown (show W.cell? ⟨wr.heap.size,7,none⟩=some (.int .i64 f.weight) by rw [hW.out];simp)
            have cV:∀ d os,Calls Tryz.prog 93 #[vFactor f.id f.kind f.frm f.to f.pose.turn f.pose.x f.pose.y f.weight] (Go.Sort.grow (redrawn W d) os) fun e w2=>e=.returned (.bool true)∧∃ p:Regrown,w2=Go.Sort.grow (redrawn W p.d) p.os:=fun d os=>Calls.regrown_of ((impl_IsValidFactor_c f.id f.kind f.frm f.to f.pose.turn f.pose.x f.pose.y f.weight _ hsz.1 hsz.2).mono (fun _ _ h=>⟨h.1.trans (congrArg rBool HV.out),h.2⟩))
            have e0:=cell_regrown (bCell hwb p0)
            clear hW
            refine wp_region_quiet_below (by kernel_rfl) (by kernel_rfl) ?_
            repeat (go_big_quiet_step (first | exact cV _ _))
            refine wpQuiet_nil ?_
            intro _ hw
            obtain ⟨⟨dq,osq⟩,hw⟩:=hw
            subst hw
            have hbq:=bTrans hwb (below_regrown W dq osq)
            clear c0 c1 c2 c3 c4 c5 c6 c7 cV e0
            go_wp2
            exact ⟨⟨m+1+1,by omega,by simp,hnx,bTrans hb hbq⟩,by simp only [intOf];omega⟩
          · have hpg:f.id≤p.id:=by omega
            have hfin:=FlInv.no HS (.inr (by rw [hpe.out];simpa using hpf))
            clear hpf
            go_wp2_with fail
            refine region_at fun W hW=>?_
            have hwb:Below wr.heap.size wr W:=by rw [hW.out];exact bAlloc (Below.refl _ _) _
            have c0:=cell_regrown (show W.cell? ⟨wr.heap.size,0,none⟩=some (.int .i64 f.id) by rw [hW.out];simp)
            have c1:=cell_regrown (show W.cell? ⟨wr.heap.size,1,none⟩=some (.int .i64 f.kind) by rw [hW.out];simp)
            have c2:=cell_regrown (show W.cell? ⟨wr.heap.size,2,none⟩=some (.string f.frm) by rw [hW.out];simp)
            have c3:=cell_regrown (show W.cell? ⟨wr.heap.size,3,none⟩=some (.string f.to) by rw [hW.out];simp)
            have c4:=cell_regrown (show W.cell? ⟨wr.heap.size,4,none⟩=some (.int .i64 f.pose.turn) by rw [hW.out];simp)
            have c5:=cell_regrown (show W.cell? ⟨wr.heap.size,5,none⟩=some (.int .i64 f.pose.x) by rw [hW.out];simp)
            have c6:=cell_regrown (show W.cell? ⟨wr.heap.size,6,none⟩=some (.int .i64 f.pose.y) by rw [hW.out];simp)
            have c7:=cell_regrown (show W.cell? ⟨wr.heap.size,7,none⟩=some (.int .i64 f.weight) by rw [hW.out];simp)
            have cV:∀ d os,Calls Tryz.prog 93 #[vFactor f.id f.kind f.frm f.to f.pose.turn f.pose.x f.pose.y f.weight] (Go.Sort.grow (redrawn W d) os) fun e w2=>e=.returned (.bool true)∧∃ p:Regrown,w2=Go.Sort.grow (redrawn W p.d) p.os:=fun d os=>Calls.regrown_of ((impl_IsValidFactor_c f.id f.kind f.frm f.to f.pose.turn f.pose.x f.pose.y f.weight _ hsz.1 hsz.2).mono (fun _ _ h=>⟨h.1.trans (congrArg rBool HV.out),h.2⟩))
            have e0:=cell_regrown (bCell hwb p0)
            clear hW
            refine wp_region_quiet_below (by kernel_rfl) (by kernel_rfl) ?_
            repeat (go_big_quiet_step (first | exact cV _ _))
            refine wpQuiet_nil ?_
            intro _ hw
            obtain ⟨⟨dq,osq⟩,hw⟩:=hw
            subst hw
            have hbq:=bTrans hwb (below_regrown W dq osq)
            clear c0 c1 c2 c3 c4 c5 c6 c7 cV e0
            go_wp2
            go_ret
            exact ⟨by rw [hfin.out];rfl,bTrans hb hbq⟩
    · have hd:=hi.done hl hlt
      go_wp2_with fail
      refine Calls.mono (impl_NamesOf_c A n c l _ (by omega) (hr.below hb)) ?_
      rintro e w2 ⟨v2,rfl,ho2,hb2,hn2⟩
      have hL:=Lib.hid ho2.len
      go_wp2_with fail
      go_ret
      refine ⟨ret_bool ?_,bTrans hb hb2⟩
      have h1:=hL.out
      have h2:l.length≤40:=by rw [hl.out];exact hn40
      simp only [List.length_map] at h1
      simp [isFL,hd.out,h1,h2];omega
def FPost (w:World) (v:Sv) (l:List Factor) (w':World):Prop:=OwF w' v l∧Fresh w.heap.size w' (fpF v)∧Below w.heap.size w w'
theorem one_F {l:List Factor}:∀ cs∈(l:List Factor).map Factor.cells,cs.length=8:=fun cs h=>by obtain ⟨f,_,rfl⟩:=List.mem_map.1 h;rfl
theorem cell_F {l:List Factor}:∀ cs∈(l:List Factor).map Factor.cells,∀ u∈cs,u.oneCell'=true:=fun cs h=>by obtain ⟨f,_,rfl⟩:=List.mem_map.1 h;exact one_of rfl
theorem Fresh.grown {B e sz n c:Nat} {w w':World} {A A':Option Addr} {css:List (List Value)} (h:Own w' B e sz A' n c css):Fresh B w' (obl A'):=Fresh.obl_ h
theorem copyFactors_k (v:Sv) (l:List Factor) (w:World) (hm:fewF l) (hr:RdF w v l) :
    Calls Tryz.prog 84 #[.slice v.A v.n v.c] w fun e w'=>∃ v':Sv,e=.returned (.slice v'.A v'.n v'.c)∧FPost w v' l w':=by
  obtain ⟨i0,hii,hq0,hq1,hq2⟩:=info_parts info_Factor
  have hl:=hr.len
  have hm1:v.n≤4194304:=by have:=hl.out;unfold fewF at hm;omega
  go_enter Tryz.func84,Tryz.ntmps84
  go_wp2_with (at_builtin;refine wpList_append rfl (.tmp 3) (.tmp 4) 23 rfl w.heap.size 34 8 80 i0 _ Tryz.underlying23 hii hq0 hq1 hq2 rfl (by omega) (some ⟨w.heap.size,0,none⟩) 0 0 [] rfl (Own.made0 w _ 8 (Nat.le_refl _)) v.A v.n v.c (l.map Factor.cells) rfl (Row.below hr (bAlloc (Below.refl _ _) _)) one_F cell_F (by simp only [maxLen];omega) (by omega) (by simp) ?_;intro A3 c3 w3 ho3 hg3 hat3)
  have hB:=bGrown (bAlloc (Below.refl w.heap.size w) _) hg3 (fun q hq=>by simp [ob] at hq;omega)
  go_ret
  simp only [Nat.zero_add,List.nil_append] at ho3
  exact ⟨⟨A3,v.n,c3⟩,by simp,ho3.zero,Fresh.obl_ ho3,hB⟩
def SlOk (v:Sv):Prop:=(v.A=none∧v.n=0∧v.c=0)∨∃ g off,v.A=some ⟨g,off,none⟩∧v.n≤v.c∧v.c≤maxLen
theorem SlOk.nc {v:Sv} (h:SlOk v):v.n≤v.c∧v.c≤maxLen:=by
  rcases h with ⟨_,h1,h2⟩ | ⟨_,_,_,h1,h2⟩
  · rw [h1,h2];exact ⟨Nat.le_refl _,Nat.zero_le _⟩
  · exact ⟨h1,h2⟩
theorem Own.slOk {w:World} {B e sz:Nat} {v:Sv} {css:List (List Value)} (h:Own w B e sz v.A v.n v.c css):SlOk v:=by
  rcases h.cases with ⟨h1,h2,h3,_⟩ | ⟨g,h1,_,_,h2,h3⟩
  · exact .inl ⟨h1,h2,h3⟩
  · exact .inr ⟨g,0,h1,h2,h3⟩
theorem Row.nil_ (w:World) (A:Option Addr) (sz:Nat):Row w A 0 sz []:=⟨rfl,fun i cs h=>by simp at h⟩
theorem Row.drop_ {α:Type} {w:World} {g off n sz:Nat} {l:List α} {c:α→List Value} (h:Row w (some ⟨g,off,none⟩) n sz (l.map c)) {k:Nat} (hk:k≤n):Row w (some ⟨g,off+k * sz,none⟩) (n - k) sz ((l.drop k).map c):=by
  have hl:l.length=n:=h.len
  refine ⟨by simp [hl],fun i cs hi=>⟨g,off+k * sz,rfl,fun j v hj=>?_⟩⟩
  have h1:(l.map c)[k+i]? = some cs:=by rw [← hi,List.map_drop,List.getElem?_drop]
  obtain ⟨g',off',hA,hc⟩:=h.2 (k+i) cs h1
  simp only [Option.some.injEq,Addr.mk.injEq,and_true] at hA
  obtain ⟨rfl,rfl⟩:=hA
  have:=hc j v hj
  rw [Nat.add_mul] at this
  rw [← this];congr 2;omega
def InsInv (l:List Factor) (f:Factor) (k:Nat):Prop:=insAt l f=k+insAt (l.drop k) f
theorem InsInv.start (l:List Factor) (f:Factor):InsInv l f 0:=by simp [InsInv]
theorem InsInv.step {l:List Factor} {f g:Factor} {k:Nat} (h:InsInv l f k) (hg:Hid (l[k]? = some g)) (hlt:g.id < f.id):InsInv l f (k+1):=by
  unfold InsInv at *
  rw [h,drop_at hg,insAt,List.takeWhile_cons_of_pos (by simp [below,hlt])]
  simp only [List.length_cons,insAt];omega
theorem InsInv.stop {l:List Factor} {f g:Factor} {k:Nat} (h:InsInv l f k) (hg:Hid (l[k]? = some g)) (hlt:¬ g.id < f.id):Hid (insAt l f=k):=by
  unfold InsInv at h
  rw [Hid,h,drop_at hg,insAt,List.takeWhile_cons_of_neg (by simp [below,hlt])]
  rfl
theorem InsInv.done {l:List Factor} {f:Factor} {k n:Nat} (h:InsInv l f k) (hl:Hid (l.length=n)) (hk:¬ k < n):Hid (insAt l f=k):=by
  unfold InsInv at h;rw [Hid,h,drop_end hl hk];rfl
def smallFs (l:List Factor):Prop:=∀ f∈l,f.frm.size≤4194304∧f.to.size≤4194304
theorem ins_small {l:List Factor} {f:Factor} (hs:smallFs l) (hf:f.frm.size≤4194304∧f.to.size≤4194304):smallFs (insF l f):=by
  intro g hg
  unfold insF at hg
  rcases List.mem_append.1 hg with h | h
  · exact hs g (List.mem_of_mem_take h)
  · rcases List.mem_cons.1 h with rfl | h
    · exact hf
    · exact hs g (List.mem_of_mem_drop h)
theorem findId_has {l:List Factor} {id:Int}:(0≤findId l id 0) ↔ hasId l id=true:=by
  have:=findId_neg l id 0 (by omega)
  cases h:hasId l id
  · rw [h] at this;simp at this;simp;omega
  · rw [h] at this;simp at this;simp;omega
theorem impl_AddFactor_k (v:Sv) (l:List Factor) (f:Factor) (w:World) (hm:fewF l) (hs:smallFs l) (hfs:f.frm.size≤4194304∧f.to.size≤4194304) (hsl:SlOk v) (hr:RdF w v l) :
    Calls Tryz.prog 36 #[.slice v.A v.n v.c,vFactor f.id f.kind f.frm f.to f.pose.turn f.pose.x f.pose.y f.weight] w fun e w'=>∃ v':Sv,e=.returned (.tuple #[.slice v'.A v'.n v'.c,.bool (addF l f).2])∧FPost w v' (addF l f).1 w':=by
  obtain ⟨A,n,c⟩:=v
  have hnc:=hsl.nc
  dsimp only [SlOk] at hnc hsl ⊢
  obtain ⟨hnc1,hnc2⟩:=hnc
  have hl:=hr.len
  have hm1:n≤4194304:=by have:=hl.out;unfold fewF at hm;simp only at this;omega
  generalize hb1:isFL l=b1
  have HB1:=Lib.hid hb1
  clear hb1
  cases b1
  · have E:=Lib.hid (addF_no (f:=f) HB1.out)
    go_enter Tryz.func36,Tryz.ntmps36
    go_wp2_with fail
    refine Calls.mono (impl_IsFactorList_c A n c l _ hm1 (Row.below hr (bAlloc (Below.refl _ _) _)) hs) ?_
    rintro e w1 ⟨rfl,hk1⟩
    rw [HB1.out]
    have H:=bTrans (bAlloc (Below.refl _ _) _) hk1
    go_wp2_with fail
    refine Calls.mono (copyFactors_k ⟨A,n,c⟩ l _ hm (Row.below hr H)) ?_
    rintro e w2 ⟨v2,rfl,ho2,hf2,hk2⟩
    have hs1:=H.size
    have H:=bTrans H hk2
    go_wp2_with fail
    go_ret2
    rw [E.out]
    exact ⟨v2,rfl,ho2,hf2.rebase hs1,H⟩
  generalize hb2:hasId l f.id=b2
  have HB2:=Lib.hid hb2
  clear hb2
  have hfl:=findId_lo l f.id 0 (by omega)
  have hff:=findId_has (l:=l) (id:=f.id)
  rw [HB2.out] at hff
  cases b2
  rotate_left
  · have E:=Lib.hid (addF_has (f:=f) HB1.out HB2.out)
    have hge:0≤findId l f.id 0:=hff.2 rfl
    have hdc:decide (0≤findId l f.id 0)=true:=by simpa using hge
    clear hff hfl
    go_enter Tryz.func36,Tryz.ntmps36
    go_wp2_with fail
    refine Calls.mono (impl_IsFactorList_c A n c l _ hm1 (Row.below hr (bAlloc (Below.refl _ _) _)) hs) ?_
    rintro e w1 ⟨rfl,hk1⟩
    rw [HB1.out]
    have H:=bTrans (bAlloc (Below.refl _ _) _) hk1
    have k1:=bBox hk1 w.heap.size (by simp)
    have z1:=bsz1 hk1
    go_wp2_with fail
    refine Calls.mono (findFactor_c A n c l f.id _ hm1 (Row.below hr H)) ?_
    rintro e w3 ⟨rfl,hk3⟩
    have H:=bTrans H hk3
    go_wp2_with fail
    refine Calls.mono (copyFactors_k ⟨A,n,c⟩ l _ hm (Row.below hr H)) ?_
    rintro e w2 ⟨v2,rfl,ho2,hf2,hk2⟩
    have hs1:=H.size
    have H:=bTrans H hk2
    go_wp2_with fail
    go_ret2
    rw [E.out]
    exact ⟨v2,rfl,ho2,hf2.rebase hs1,H⟩
  have hge:¬ 0≤findId l f.id 0:=fun h=>by have:=hff.1 h;cases this
  have hdc:decide (0≤findId l f.id 0)=false:=by simpa using hge
  clear hff hfl
  go_enter Tryz.func36,Tryz.ntmps36
  go_wp2_with fail
  refine Calls.mono (impl_IsFactorList_c A n c l _ hm1 (Row.below hr (bAlloc (Below.refl _ _) _)) hs) ?_
  rintro e w1 ⟨rfl,hk1⟩
  rw [HB1.out]
  have H:=bTrans (bAlloc (Below.refl _ _) _) hk1
  have k1:=bBox hk1 w.heap.size (by simp)
  have z1:=bsz1 hk1
  go_wp2_with fail
  refine Calls.mono (findFactor_c A n c l f.id _ hm1 (Row.below hr H)) ?_
  rintro e w2 ⟨rfl,hk2⟩
  have k2:=bBox hk2 w.heap.size (by omega)
  have z2:w.heap.size+1≤w2.heap.size:=by have:=hk2.size;omega
  have H:=bTrans H hk2
  go_wp2_with fail
  -- behind this row by program
  obtain ⟨i0,hii,hq0,hq1,hq2⟩:=info_parts info_Factor
  go_loopw [6] (fun i wr=>∃ (k:Nat),k≤n∧i=.int .i64 k∧InsInv l f k∧Below w2.heap.size w2 wr) (fun i _=>n - (intOf i).toNat)
  case atStart=>exact ⟨0,by omega,rfl,InsInv.start l f,Below.refl _ _⟩
  case round =>
    obtain ⟨k,hk,rfl,hi,hbr⟩:=hrel
    have kr:=bBox hbr w.heap.size (by omega)
    have zr:w.heap.size+1≤wr.heap.size:=by have:=hbr.size;omega
    by_cases hlt:k < n
    · obtain ⟨p,g,off,hf,rfl,g0,-⟩:=RowF.at_ (Row.below hr (bTrans H hbr)) hlt
      have h0:(0:Int)≤(k:Int):=by omega
      have h1:(k:Int) < (n:Int):=by omega
      by_cases hid:p.id < f.id
      · have hnx:=hi.step hf hid
        clear hi
        go_wp2_with fail
        go_quiet (fail)
        go_wp2_with fail
        go_roundw
        case rel=>exact ⟨k+1,by omega,by go_num,hnx,bDrewN hbr _⟩
        case measure=>simp [intOf];omega
      · have hat:=hi.stop hf hid
        clear hi
        go_wp2_with fail
        go_quiet (fail)
        have hkc:(k:Int)≤(c:Int):=by omega
        have hk00:(0:Int)≤(k:Int):=by omega
        go_wp2_with fail
        refine region_at fun W hW=>?_
        have hWb:Below wr.heap.size wr W:=by rw [hW.out];exact (by repeat (first | with_reducible exact Below.refl _ _ | with_reducible refine bAlloc ?_ _ | with_reducible refine bDrew ?_ | with_reducible refine bDrewN ?_ _))
        have kW:=bBox hWb w.heap.size (by omega)
        have zW:w.heap.size+1≤W.heap.size:=by have:=hWb.size;omega
        clear hW
        have gb0:W.cell? ⟨w.heap.size,0,none⟩=some (.int .i64 f.id):=by rw [kW,kr,k2,k1];simp
        have gb1:W.cell? ⟨w.heap.size,1,none⟩=some (.int .i64 f.kind):=by rw [kW,kr,k2,k1];simp
        have gb2:W.cell? ⟨w.heap.size,2,none⟩=some (.string f.frm):=by rw [kW,kr,k2,k1];simp
        have gb3:W.cell? ⟨w.heap.size,3,none⟩=some (.string f.to):=by rw [kW,kr,k2,k1];simp
        have gb4:W.cell? ⟨w.heap.size,4,none⟩=some (.int .i64 f.pose.turn):=by rw [kW,kr,k2,k1];simp
        have gb5:W.cell? ⟨w.heap.size,5,none⟩=some (.int .i64 f.pose.x):=by rw [kW,kr,k2,k1];simp
        have gb6:W.cell? ⟨w.heap.size,6,none⟩=some (.int .i64 f.pose.y):=by rw [kW,kr,k2,k1];simp
        have gb7:W.cell? ⟨w.heap.size,7,none⟩=some (.int .i64 f.weight):=by rw [kW,kr,k2,k1];simp
        clear kW kr k2 k1
        have HW:=bTrans (bTrans H hbr) hWb
        have hrW:=Row.below hr HW
        have hrk:RdF W ⟨some ⟨g,off,none⟩,k,c⟩ (l.take k):=Row.take_ hrW hk
        have hfk:fewF (l.take k):=by unfold fewF at *;rw [List.length_take];omega
        go_region_held3 (fun w'=>w'.cell? ⟨w.heap.size,0,none⟩=some (.int .i64 f.id)∧w'.cell? ⟨w.heap.size,1,none⟩=some (.int .i64 f.kind)∧w'.cell? ⟨w.heap.size,2,none⟩=some (.string f.frm)∧w'.cell? ⟨w.heap.size,3,none⟩=some (.string f.to)∧w'.cell? ⟨w.heap.size,4,none⟩=some (.int .i64 f.pose.turn)∧w'.cell? ⟨w.heap.size,5,none⟩=some (.int .i64 f.pose.x)∧w'.cell? ⟨w.heap.size,6,none⟩=some (.int .i64 f.pose.y)∧w'.cell? ⟨w.heap.size,7,none⟩=some (.int .i64 f.weight)) (first | go_keep | (go_split_ands;(repeat' apply And.intro) <;> (first | exact bCell hk3 (by assumption) | exact World.grownBy.cell hg4 (by assumption) (fun e=>by have h9:=hf3.lo _ (mem_obl.2 e.symm);(try simp at h9);omega)))) ((first | (go_at_call 84;refine Calls.mono (copyFactors_k ⟨some ⟨g,off,none⟩,k,c⟩ (l.take k) _ hfk ?_) ?_;exact Row.below hrk (by repeat (first | with_reducible exact Below.refl _ _ | with_reducible refine bAlloc ?_ _ | with_reducible refine bDrew ?_ | with_reducible refine bDrewN ?_ _));rintro e w3 ⟨v3,rfl,ho3,hf3,hk3⟩) | ((refine step_append rfl (.tmp 39) (.tmp 41) 23 rfl w.heap.size 34 8 80 i0 _ Tryz.underlying23 hii hq0 hq1 hq2 rfl (by omega) v3.A v3.n v3.c _ rfl (Own.from_ (OwF.own ho3) (fun g hg=>by have h9:=hf3.lo g hg;(try simp at h9);omega)) _ 1 1 [f.cells] rfl (Row.below (Row.below (Row.new1' _ _ f.cells 8 _ (by simp)) (bDrew (Below.refl _ _))) hk3) (by simp [Factor.cells]) (by simp [Factor.cells,Value.oneCell']) (by have h9:=(OwF.own ho3).len;simp at h9;simp only [maxLen];omega) (by have h9:=(OwF.own ho3).len;simp at h9;omega) (by have h9:=hk3.size;(try simp at h9);(try simp);omega) ?_;intro A4 c4 w4 ho4 hg4 hat4)) | ((refine step_append rfl (.tmp 39) (.tmp 41) 23 rfl w.heap.size 34 8 80 i0 _ Tryz.underlying23 hii hq0 hq1 hq2 rfl (by omega) v3.A v3.n v3.c _ rfl ((Own.from_ (OwF.own ho3) (fun g hg=>by have h9:=hf3.lo g hg;(try simp at h9);omega)).alloc_ _) _ 1 1 [f.cells] rfl (Row.new1' _ _ f.cells 8 _ (by simp)) (by simp [Factor.cells]) (by simp [Factor.cells,Value.oneCell']) (by have h9:=(OwF.own ho3).len;simp at h9;simp only [maxLen];omega) (by have h9:=(OwF.own ho3).len;simp at h9;omega) (by have h9:=hk3.size;(try simp at h9);(try simp);omega) ?_;intro A4 c4 w4 ho4 hg4 hat4))))
        all_goals
          have H3:=bTrans (show Below w.heap.size w _ from by repeat (first | with_reducible exact HW | with_reducible refine bAlloc ?_ _ | with_reducible refine bDrew ?_ | with_reducible refine bDrewN ?_ _)) hk3
          have H4:=bGrown (show Below w.heap.size w _ from by repeat (first | with_reducible exact H3 | with_reducible refine bAlloc ?_ _ | with_reducible refine bDrew ?_ | with_reducible refine bDrewN ?_ _)) hg4 (fun q hq=>by have h9:=hf3.lo q (mem_obl.2 hq);(try simp at h9);omega)
          have L3:=(OwF.own ho3).len
          simp only [List.length_map,List.length_take] at L3
          have L9:l.length=n:=hl.out
          go_wp2_with (at_builtin;(refine wpList_append rfl (.tmp 43) (.tmp 46) 23 rfl w.heap.size 34 8 80 i0 _ Tryz.underlying23 hii hq0 hq1 hq2 rfl (by omega) A4 (v3.n+1) c4 _ rfl ho4 (some ⟨g,off+k * 8,none⟩) (n - k) (c - k) ((l.drop k).map Factor.cells) rfl (Row.drop_ (Row.below hr H4) hk) one_F cell_F (by simp only [maxLen];omega) (by omega) H4.size ?_;intro A5 c5 w5 ho5 hg5 hat5))
          have H5:=bGrown H4 hg5 (fun q hq=>(ho4.lt q hq).1)
          have e6:((l.take k).map Factor.cells++[f.cells]++(l.drop k).map Factor.cells)=(insF l f).map Factor.cells:=by rw [insF,hat.out];simp
          rw [e6] at ho5
          have L40:=isFL_len HB1.out
          have hsm:smallFs (insF l f):=ins_small hs hfs
          generalize hb3:isFL (insF l f)=b3
          have HB3:=Lib.hid hb3
          clear hb3
          go_wp2_with fail
          refine Calls.mono (impl_IsFactorList_c A5 _ c5 (insF l f) _ ?_ ho5.row hsm) ?_
          · omega
          rintro e w6 ⟨rfl,hk6⟩
          rw [HB3.out]
          have H6:=bTrans H5 hk6
          have ho6:=ho5.below hk6
          cases b3
          · have E:=Lib.hid (addF_bad HB3.out)
            go_wp2_with fail
            refine Calls.mono (copyFactors_k ⟨some ⟨g,off,none⟩,n,c⟩ l _ hm (Row.below hr H6)) ?_
            rintro e w7 ⟨v7,rfl,ho7,hf7,hk7⟩
            have hs6:=H6.size
            go_wp2_with fail
            go_ret2
            rw [E.out]
            exact ⟨v7,rfl,ho7,hf7.rebase hs6,bTrans H6 hk7⟩
          · have E:=Lib.hid (addF_yes HB1.out HB3.out)
            go_wp2_with fail
            go_ret2
            rw [E.out]
            exact ⟨⟨A5,_,c5⟩,rfl,ho6.zero,Fresh.obl_ ho6,H6⟩
    · have hat:=hi.done hl hlt
      clear hi
      have h1:¬ (k:Int) < (n:Int):=by omega
      obtain rfl:k=n:=by omega
      rcases hsl with ⟨rfl,h00,hc0⟩ | ⟨g,off,rfl,hnc1,hnc2⟩
      · subst h00;subst hc0
        go_wp2_with fail
        go_quiet (fail)
        have hkc:((0:Nat):Int)≤((0:Nat):Int):=by omega
        have hk00:(0:Int)≤((0:Nat):Int):=by omega
        go_wp2_with fail
        refine region_at fun W hW=>?_
        have hWb:Below wr.heap.size wr W:=by rw [hW.out];exact (by repeat (first | with_reducible exact Below.refl _ _ | with_reducible refine bAlloc ?_ _ | with_reducible refine bDrew ?_ | with_reducible refine bDrewN ?_ _))
        have kW:=bBox hWb w.heap.size (by omega)
        have zW:w.heap.size+1≤W.heap.size:=by have:=hWb.size;omega
        clear hW
        have gb0:W.cell? ⟨w.heap.size,0,none⟩=some (.int .i64 f.id):=by rw [kW,kr,k2,k1];simp
        have gb1:W.cell? ⟨w.heap.size,1,none⟩=some (.int .i64 f.kind):=by rw [kW,kr,k2,k1];simp
        have gb2:W.cell? ⟨w.heap.size,2,none⟩=some (.string f.frm):=by rw [kW,kr,k2,k1];simp
        have gb3:W.cell? ⟨w.heap.size,3,none⟩=some (.string f.to):=by rw [kW,kr,k2,k1];simp
        have gb4:W.cell? ⟨w.heap.size,4,none⟩=some (.int .i64 f.pose.turn):=by rw [kW,kr,k2,k1];simp
        have gb5:W.cell? ⟨w.heap.size,5,none⟩=some (.int .i64 f.pose.x):=by rw [kW,kr,k2,k1];simp
        have gb6:W.cell? ⟨w.heap.size,6,none⟩=some (.int .i64 f.pose.y):=by rw [kW,kr,k2,k1];simp
        have gb7:W.cell? ⟨w.heap.size,7,none⟩=some (.int .i64 f.weight):=by rw [kW,kr,k2,k1];simp
        clear kW kr k2 k1
        have HW:=bTrans (bTrans H hbr) hWb
        have hrW:=Row.below hr HW
        have hrk:RdF W ⟨none,0,0⟩ (l.take 0):=Row.take_ hrW hk
        have hfk:fewF (l.take 0):=by unfold fewF at *;rw [List.length_take];omega
        go_region_held3 (fun w'=>w'.cell? ⟨w.heap.size,0,none⟩=some (.int .i64 f.id)∧w'.cell? ⟨w.heap.size,1,none⟩=some (.int .i64 f.kind)∧w'.cell? ⟨w.heap.size,2,none⟩=some (.string f.frm)∧w'.cell? ⟨w.heap.size,3,none⟩=some (.string f.to)∧w'.cell? ⟨w.heap.size,4,none⟩=some (.int .i64 f.pose.turn)∧w'.cell? ⟨w.heap.size,5,none⟩=some (.int .i64 f.pose.x)∧w'.cell? ⟨w.heap.size,6,none⟩=some (.int .i64 f.pose.y)∧w'.cell? ⟨w.heap.size,7,none⟩=some (.int .i64 f.weight)) (first | go_keep | (go_split_ands;(repeat' apply And.intro) <;> (first | exact bCell hk3 (by assumption) | exact World.grownBy.cell hg4 (by assumption) (fun e=>by have h9:=hf3.lo _ (mem_obl.2 e.symm);(try simp at h9);omega)))) ((first | (go_at_call 84;refine Calls.mono (copyFactors_k ⟨none,0,0⟩ (l.take 0) _ hfk ?_) ?_;exact Row.below hrk (by repeat (first | with_reducible exact Below.refl _ _ | with_reducible refine bAlloc ?_ _ | with_reducible refine bDrew ?_ | with_reducible refine bDrewN ?_ _));rintro e w3 ⟨v3,rfl,ho3,hf3,hk3⟩) | ((refine step_append rfl (.tmp 39) (.tmp 41) 23 rfl w.heap.size 34 8 80 i0 _ Tryz.underlying23 hii hq0 hq1 hq2 rfl (by omega) v3.A v3.n v3.c _ rfl (Own.from_ (OwF.own ho3) (fun g hg=>by have h9:=hf3.lo g hg;(try simp at h9);omega)) _ 1 1 [f.cells] rfl (Row.below (Row.below (Row.new1' _ _ f.cells 8 _ (by simp)) (bDrew (Below.refl _ _))) hk3) (by simp [Factor.cells]) (by simp [Factor.cells,Value.oneCell']) (by have h9:=(OwF.own ho3).len;simp at h9;simp only [maxLen];omega) (by have h9:=(OwF.own ho3).len;simp at h9;omega) (by have h9:=hk3.size;(try simp at h9);(try simp);omega) ?_;intro A4 c4 w4 ho4 hg4 hat4)) | ((refine step_append rfl (.tmp 39) (.tmp 41) 23 rfl w.heap.size 34 8 80 i0 _ Tryz.underlying23 hii hq0 hq1 hq2 rfl (by omega) v3.A v3.n v3.c _ rfl ((Own.from_ (OwF.own ho3) (fun g hg=>by have h9:=hf3.lo g hg;(try simp at h9);omega)).alloc_ _) _ 1 1 [f.cells] rfl (Row.new1' _ _ f.cells 8 _ (by simp)) (by simp [Factor.cells]) (by simp [Factor.cells,Value.oneCell']) (by have h9:=(OwF.own ho3).len;simp at h9;simp only [maxLen];omega) (by have h9:=(OwF.own ho3).len;simp at h9;omega) (by have h9:=hk3.size;(try simp at h9);(try simp);omega) ?_;intro A4 c4 w4 ho4 hg4 hat4))))
        all_goals
          have H3:=bTrans (show Below w.heap.size w _ from by repeat (first | with_reducible exact HW | with_reducible refine bAlloc ?_ _ | with_reducible refine bDrew ?_ | with_reducible refine bDrewN ?_ _)) hk3
          have H4:=bGrown (show Below w.heap.size w _ from by repeat (first | with_reducible exact H3 | with_reducible refine bAlloc ?_ _ | with_reducible refine bDrew ?_ | with_reducible refine bDrewN ?_ _)) hg4 (fun q hq=>by have h9:=hf3.lo q (mem_obl.2 hq);(try simp at h9);omega)
          have L3:=(OwF.own ho3).len
          simp only [List.length_map,List.length_take] at L3
          have L9:l.length=0:=hl.out
          go_wp2_with (at_builtin;(refine wpList_append rfl (.tmp 43) (.tmp 46) 23 rfl w.heap.size 34 8 80 i0 _ Tryz.underlying23 hii hq0 hq1 hq2 rfl (by omega) A4 (v3.n+1) c4 _ rfl ho4 _ 0 _ [] rfl (Row.nil_ _ _ _) (by simp) (by simp) (by simp only [maxLen];omega) (by omega) H4.size ?_;intro A5 c5 w5 ho5 hg5 hat5))
          have H5:=bGrown H4 hg5 (fun q hq=>(ho4.lt q hq).1)
          have e6:((l.take 0).map Factor.cells++[f.cells]++[])=(insF l f).map Factor.cells:=by rw [insF,hat.out];simp;first | omega | exact List.eq_nil_of_length_eq_zero L9 | (rw [List.eq_nil_of_length_eq_zero L9];rfl)
          rw [e6] at ho5
          have L40:=isFL_len HB1.out
          have hsm:smallFs (insF l f):=ins_small hs hfs
          generalize hb3:isFL (insF l f)=b3
          have HB3:=Lib.hid hb3
          clear hb3
          go_wp2_with fail
          refine Calls.mono (impl_IsFactorList_c A5 _ c5 (insF l f) _ ?_ ho5.row hsm) ?_
          · omega
          rintro e w6 ⟨rfl,hk6⟩
          rw [HB3.out]
          have H6:=bTrans H5 hk6
          have ho6:=ho5.below hk6
          cases b3
          · have E:=Lib.hid (addF_bad HB3.out)
            go_wp2_with fail
            refine Calls.mono (copyFactors_k ⟨none,0,0⟩ l _ hm (Row.below hr H6)) ?_
            rintro e w7 ⟨v7,rfl,ho7,hf7,hk7⟩
            have hs6:=H6.size
            go_wp2_with fail
            go_ret2
            rw [E.out]
            exact ⟨v7,rfl,ho7,hf7.rebase hs6,bTrans H6 hk7⟩
          · have E:=Lib.hid (addF_yes HB1.out HB3.out)
            go_wp2_with fail
            go_ret2
            rw [E.out]
            exact ⟨⟨A5,_,c5⟩,rfl,ho6.zero,Fresh.obl_ ho6,H6⟩
      · by_cases hkc2:k=c
        · subst hkc2
          go_wp2_with fail
          go_quiet (fail)
          have hkc:(k:Int)≤(k:Int):=by omega
          have hk00:(0:Int)≤(k:Int):=by omega
          go_wp2_with fail
          refine region_at fun W hW=>?_
          have hWb:Below wr.heap.size wr W:=by rw [hW.out];exact (by repeat (first | with_reducible exact Below.refl _ _ | with_reducible refine bAlloc ?_ _ | with_reducible refine bDrew ?_ | with_reducible refine bDrewN ?_ _))
          have kW:=bBox hWb w.heap.size (by omega)
          have zW:w.heap.size+1≤W.heap.size:=by have:=hWb.size;omega
          clear hW
          have gb0:W.cell? ⟨w.heap.size,0,none⟩=some (.int .i64 f.id):=by rw [kW,kr,k2,k1];simp
          have gb1:W.cell? ⟨w.heap.size,1,none⟩=some (.int .i64 f.kind):=by rw [kW,kr,k2,k1];simp
          have gb2:W.cell? ⟨w.heap.size,2,none⟩=some (.string f.frm):=by rw [kW,kr,k2,k1];simp
          have gb3:W.cell? ⟨w.heap.size,3,none⟩=some (.string f.to):=by rw [kW,kr,k2,k1];simp
          have gb4:W.cell? ⟨w.heap.size,4,none⟩=some (.int .i64 f.pose.turn):=by rw [kW,kr,k2,k1];simp
          have gb5:W.cell? ⟨w.heap.size,5,none⟩=some (.int .i64 f.pose.x):=by rw [kW,kr,k2,k1];simp
          have gb6:W.cell? ⟨w.heap.size,6,none⟩=some (.int .i64 f.pose.y):=by rw [kW,kr,k2,k1];simp
          have gb7:W.cell? ⟨w.heap.size,7,none⟩=some (.int .i64 f.weight):=by rw [kW,kr,k2,k1];simp
          clear kW kr k2 k1
          have HW:=bTrans (bTrans H hbr) hWb
          have hrW:=Row.below hr HW
          have hrk:RdF W ⟨some ⟨g,off,none⟩,k,k⟩ (l.take k):=Row.take_ hrW hk
          have hfk:fewF (l.take k):=by unfold fewF at *;rw [List.length_take];omega
          go_region_held3 (fun w'=>w'.cell? ⟨w.heap.size,0,none⟩=some (.int .i64 f.id)∧w'.cell? ⟨w.heap.size,1,none⟩=some (.int .i64 f.kind)∧w'.cell? ⟨w.heap.size,2,none⟩=some (.string f.frm)∧w'.cell? ⟨w.heap.size,3,none⟩=some (.string f.to)∧w'.cell? ⟨w.heap.size,4,none⟩=some (.int .i64 f.pose.turn)∧w'.cell? ⟨w.heap.size,5,none⟩=some (.int .i64 f.pose.x)∧w'.cell? ⟨w.heap.size,6,none⟩=some (.int .i64 f.pose.y)∧w'.cell? ⟨w.heap.size,7,none⟩=some (.int .i64 f.weight)) (first | go_keep | (go_split_ands;(repeat' apply And.intro) <;> (first | exact bCell hk3 (by assumption) | exact World.grownBy.cell hg4 (by assumption) (fun e=>by have h9:=hf3.lo _ (mem_obl.2 e.symm);(try simp at h9);omega)))) ((first | (go_at_call 84;refine Calls.mono (copyFactors_k ⟨some ⟨g,off,none⟩,k,k⟩ (l.take k) _ hfk ?_) ?_;exact Row.below hrk (by repeat (first | with_reducible exact Below.refl _ _ | with_reducible refine bAlloc ?_ _ | with_reducible refine bDrew ?_ | with_reducible refine bDrewN ?_ _));rintro e w3 ⟨v3,rfl,ho3,hf3,hk3⟩) | ((refine step_append rfl (.tmp 39) (.tmp 41) 23 rfl w.heap.size 34 8 80 i0 _ Tryz.underlying23 hii hq0 hq1 hq2 rfl (by omega) v3.A v3.n v3.c _ rfl (Own.from_ (OwF.own ho3) (fun g hg=>by have h9:=hf3.lo g hg;(try simp at h9);omega)) _ 1 1 [f.cells] rfl (Row.below (Row.below (Row.new1' _ _ f.cells 8 _ (by simp)) (bDrew (Below.refl _ _))) hk3) (by simp [Factor.cells]) (by simp [Factor.cells,Value.oneCell']) (by have h9:=(OwF.own ho3).len;simp at h9;simp only [maxLen];omega) (by have h9:=(OwF.own ho3).len;simp at h9;omega) (by have h9:=hk3.size;(try simp at h9);(try simp);omega) ?_;intro A4 c4 w4 ho4 hg4 hat4)) | ((refine step_append rfl (.tmp 39) (.tmp 41) 23 rfl w.heap.size 34 8 80 i0 _ Tryz.underlying23 hii hq0 hq1 hq2 rfl (by omega) v3.A v3.n v3.c _ rfl ((Own.from_ (OwF.own ho3) (fun g hg=>by have h9:=hf3.lo g hg;(try simp at h9);omega)).alloc_ _) _ 1 1 [f.cells] rfl (Row.new1' _ _ f.cells 8 _ (by simp)) (by simp [Factor.cells]) (by simp [Factor.cells,Value.oneCell']) (by have h9:=(OwF.own ho3).len;simp at h9;simp only [maxLen];omega) (by have h9:=(OwF.own ho3).len;simp at h9;omega) (by have h9:=hk3.size;(try simp at h9);(try simp);omega) ?_;intro A4 c4 w4 ho4 hg4 hat4))))
          all_goals
            have H3:=bTrans (show Below w.heap.size w _ from by repeat (first | with_reducible exact HW | with_reducible refine bAlloc ?_ _ | with_reducible refine bDrew ?_ | with_reducible refine bDrewN ?_ _)) hk3
            have H4:=bGrown (show Below w.heap.size w _ from by repeat (first | with_reducible exact H3 | with_reducible refine bAlloc ?_ _ | with_reducible refine bDrew ?_ | with_reducible refine bDrewN ?_ _)) hg4 (fun q hq=>by have h9:=hf3.lo q (mem_obl.2 hq);(try simp at h9);omega)
            have L3:=(OwF.own ho3).len
            simp only [List.length_map,List.length_take] at L3
            have L9:l.length=k:=hl.out
            go_wp2_with (at_builtin;(refine wpList_append rfl (.tmp 43) (.tmp 46) 23 rfl w.heap.size 34 8 80 i0 _ Tryz.underlying23 hii hq0 hq1 hq2 rfl (by omega) A4 (v3.n+1) c4 _ rfl ho4 _ 0 _ [] rfl (Row.nil_ _ _ _) (by simp) (by simp) (by simp only [maxLen];omega) (by omega) H4.size ?_;intro A5 c5 w5 ho5 hg5 hat5))
            have H5:=bGrown H4 hg5 (fun q hq=>(ho4.lt q hq).1)
            have e6:((l.take k).map Factor.cells++[f.cells]++[])=(insF l f).map Factor.cells:=by rw [insF,hat.out];simp;first | omega | exact List.eq_nil_of_length_eq_zero L9 | (rw [List.eq_nil_of_length_eq_zero L9];rfl)
            rw [e6] at ho5
            have L40:=isFL_len HB1.out
            have hsm:smallFs (insF l f):=ins_small hs hfs
            generalize hb3:isFL (insF l f)=b3
            have HB3:=Lib.hid hb3
            clear hb3
            go_wp2_with fail
            refine Calls.mono (impl_IsFactorList_c A5 _ c5 (insF l f) _ ?_ ho5.row hsm) ?_
            · omega
            rintro e w6 ⟨rfl,hk6⟩
            rw [HB3.out]
            have H6:=bTrans H5 hk6
            have ho6:=ho5.below hk6
            cases b3
            · have E:=Lib.hid (addF_bad HB3.out)
              go_wp2_with fail
              refine Calls.mono (copyFactors_k ⟨some ⟨g,off,none⟩,k,k⟩ l _ hm (Row.below hr H6)) ?_
              rintro e w7 ⟨v7,rfl,ho7,hf7,hk7⟩
              have hs6:=H6.size
              go_wp2_with fail
              go_ret2
              rw [E.out]
              exact ⟨v7,rfl,ho7,hf7.rebase hs6,bTrans H6 hk7⟩
            · have E:=Lib.hid (addF_yes HB1.out HB3.out)
              go_wp2_with fail
              go_ret2
              rw [E.out]
              exact ⟨⟨A5,_,c5⟩,rfl,ho6.zero,Fresh.obl_ ho6,H6⟩
        · have hkc3:k < c:=by omega
          go_wp2_with fail
          go_quiet (fail)
          have hkc:(k:Int)≤(c:Int):=by omega
          have hk00:(0:Int)≤(k:Int):=by omega
          go_wp2_with fail
          refine region_at fun W hW=>?_
          have hWb:Below wr.heap.size wr W:=by rw [hW.out];exact (by repeat (first | with_reducible exact Below.refl _ _ | with_reducible refine bAlloc ?_ _ | with_reducible refine bDrew ?_ | with_reducible refine bDrewN ?_ _))
          have kW:=bBox hWb w.heap.size (by omega)
          have zW:w.heap.size+1≤W.heap.size:=by have:=hWb.size;omega
          clear hW
          have gb0:W.cell? ⟨w.heap.size,0,none⟩=some (.int .i64 f.id):=by rw [kW,kr,k2,k1];simp
          have gb1:W.cell? ⟨w.heap.size,1,none⟩=some (.int .i64 f.kind):=by rw [kW,kr,k2,k1];simp
          have gb2:W.cell? ⟨w.heap.size,2,none⟩=some (.string f.frm):=by rw [kW,kr,k2,k1];simp
          have gb3:W.cell? ⟨w.heap.size,3,none⟩=some (.string f.to):=by rw [kW,kr,k2,k1];simp
          have gb4:W.cell? ⟨w.heap.size,4,none⟩=some (.int .i64 f.pose.turn):=by rw [kW,kr,k2,k1];simp
          have gb5:W.cell? ⟨w.heap.size,5,none⟩=some (.int .i64 f.pose.x):=by rw [kW,kr,k2,k1];simp
          have gb6:W.cell? ⟨w.heap.size,6,none⟩=some (.int .i64 f.pose.y):=by rw [kW,kr,k2,k1];simp
          have gb7:W.cell? ⟨w.heap.size,7,none⟩=some (.int .i64 f.weight):=by rw [kW,kr,k2,k1];simp
          clear kW kr k2 k1
          have HW:=bTrans (bTrans H hbr) hWb
          have hrW:=Row.below hr HW
          have hrk:RdF W ⟨some ⟨g,off,none⟩,k,c⟩ (l.take k):=Row.take_ hrW hk
          have hfk:fewF (l.take k):=by unfold fewF at *;rw [List.length_take];omega
          go_region_held3 (fun w'=>w'.cell? ⟨w.heap.size,0,none⟩=some (.int .i64 f.id)∧w'.cell? ⟨w.heap.size,1,none⟩=some (.int .i64 f.kind)∧w'.cell? ⟨w.heap.size,2,none⟩=some (.string f.frm)∧w'.cell? ⟨w.heap.size,3,none⟩=some (.string f.to)∧w'.cell? ⟨w.heap.size,4,none⟩=some (.int .i64 f.pose.turn)∧w'.cell? ⟨w.heap.size,5,none⟩=some (.int .i64 f.pose.x)∧w'.cell? ⟨w.heap.size,6,none⟩=some (.int .i64 f.pose.y)∧w'.cell? ⟨w.heap.size,7,none⟩=some (.int .i64 f.weight)) (first | go_keep | (go_split_ands;(repeat' apply And.intro) <;> (first | exact bCell hk3 (by assumption) | exact World.grownBy.cell hg4 (by assumption) (fun e=>by have h9:=hf3.lo _ (mem_obl.2 e.symm);(try simp at h9);omega)))) ((first | (go_at_call 84;refine Calls.mono (copyFactors_k ⟨some ⟨g,off,none⟩,k,c⟩ (l.take k) _ hfk ?_) ?_;exact Row.below hrk (by repeat (first | with_reducible exact Below.refl _ _ | with_reducible refine bAlloc ?_ _ | with_reducible refine bDrew ?_ | with_reducible refine bDrewN ?_ _));rintro e w3 ⟨v3,rfl,ho3,hf3,hk3⟩) | ((refine step_append rfl (.tmp 39) (.tmp 41) 23 rfl w.heap.size 34 8 80 i0 _ Tryz.underlying23 hii hq0 hq1 hq2 rfl (by omega) v3.A v3.n v3.c _ rfl (Own.from_ (OwF.own ho3) (fun g hg=>by have h9:=hf3.lo g hg;(try simp at h9);omega)) _ 1 1 [f.cells] rfl (Row.below (Row.below (Row.new1' _ _ f.cells 8 _ (by simp)) (bDrew (Below.refl _ _))) hk3) (by simp [Factor.cells]) (by simp [Factor.cells,Value.oneCell']) (by have h9:=(OwF.own ho3).len;simp at h9;simp only [maxLen];omega) (by have h9:=(OwF.own ho3).len;simp at h9;omega) (by have h9:=hk3.size;(try simp at h9);(try simp);omega) ?_;intro A4 c4 w4 ho4 hg4 hat4)) | ((refine step_append rfl (.tmp 39) (.tmp 41) 23 rfl w.heap.size 34 8 80 i0 _ Tryz.underlying23 hii hq0 hq1 hq2 rfl (by omega) v3.A v3.n v3.c _ rfl ((Own.from_ (OwF.own ho3) (fun g hg=>by have h9:=hf3.lo g hg;(try simp at h9);omega)).alloc_ _) _ 1 1 [f.cells] rfl (Row.new1' _ _ f.cells 8 _ (by simp)) (by simp [Factor.cells]) (by simp [Factor.cells,Value.oneCell']) (by have h9:=(OwF.own ho3).len;simp at h9;simp only [maxLen];omega) (by have h9:=(OwF.own ho3).len;simp at h9;omega) (by have h9:=hk3.size;(try simp at h9);(try simp);omega) ?_;intro A4 c4 w4 ho4 hg4 hat4))))
          all_goals
            have H3:=bTrans (show Below w.heap.size w _ from by repeat (first | with_reducible exact HW | with_reducible refine bAlloc ?_ _ | with_reducible refine bDrew ?_ | with_reducible refine bDrewN ?_ _)) hk3
            have H4:=bGrown (show Below w.heap.size w _ from by repeat (first | with_reducible exact H3 | with_reducible refine bAlloc ?_ _ | with_reducible refine bDrew ?_ | with_reducible refine bDrewN ?_ _)) hg4 (fun q hq=>by have h9:=hf3.lo q (mem_obl.2 hq);(try simp at h9);omega)
            have L3:=(OwF.own ho3).len
            simp only [List.length_map,List.length_take] at L3
            have L9:l.length=k:=hl.out
            go_wp2_with (at_builtin;(refine wpList_append rfl (.tmp 43) (.tmp 46) 23 rfl w.heap.size 34 8 80 i0 _ Tryz.underlying23 hii hq0 hq1 hq2 rfl (by omega) A4 (v3.n+1) c4 _ rfl ho4 _ 0 _ [] rfl (Row.nil_ _ _ _) (by simp) (by simp) (by simp only [maxLen];omega) (by omega) H4.size ?_;intro A5 c5 w5 ho5 hg5 hat5))
            have H5:=bGrown H4 hg5 (fun q hq=>(ho4.lt q hq).1)
            have e6:((l.take k).map Factor.cells++[f.cells]++[])=(insF l f).map Factor.cells:=by rw [insF,hat.out];simp;first | omega | exact List.eq_nil_of_length_eq_zero L9 | (rw [List.eq_nil_of_length_eq_zero L9];rfl)
            rw [e6] at ho5
            have L40:=isFL_len HB1.out
            have hsm:smallFs (insF l f):=ins_small hs hfs
            generalize hb3:isFL (insF l f)=b3
            have HB3:=Lib.hid hb3
            clear hb3
            go_wp2_with fail
            refine Calls.mono (impl_IsFactorList_c A5 _ c5 (insF l f) _ ?_ ho5.row hsm) ?_
            · omega
            rintro e w6 ⟨rfl,hk6⟩
            rw [HB3.out]
            have H6:=bTrans H5 hk6
            have ho6:=ho5.below hk6
            cases b3
            · have E:=Lib.hid (addF_bad HB3.out)
              go_wp2_with fail
              refine Calls.mono (copyFactors_k ⟨some ⟨g,off,none⟩,k,c⟩ l _ hm (Row.below hr H6)) ?_
              rintro e w7 ⟨v7,rfl,ho7,hf7,hk7⟩
              have hs6:=H6.size
              go_wp2_with fail
              go_ret2
              rw [E.out]
              exact ⟨v7,rfl,ho7,hf7.rebase hs6,bTrans H6 hk7⟩
            · have E:=Lib.hid (addF_yes HB1.out HB3.out)
              go_wp2_with fail
              go_ret2
              rw [E.out]
              exact ⟨⟨A5,_,c5⟩,rfl,ho6.zero,Fresh.obl_ ho6,H6⟩
end Go.Proofs.YtdfemnffpaopfaaGreatDoor
