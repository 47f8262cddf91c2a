/- Texts of this proof, one behind the other: Add, Rem, Team. -/
import Derived.Outline
import Derived.Test.YtdfemnffpaopfaaGreatDoorGmf6
import Derived.Test.YtdfemnffpaopfaaGreatDoorGmf7
import Derived.Test.YtdfemnffpaopfaaGreatDoorGmf12
namespace Go.Proofs.YtdfemnffpaopfaaGreatDoor
open Go.RowKit
set_option linter.unusedVariables false
set_option linter.unusedSimpArgs false
set_option maxHeartbeats 4000000
set_option maxRecDepth 100000
def FPost (w:World) (v:Sv) (l:List Factor) (w':World):Prop:=OwF w' v l∧Fresh w.heap.size w' (fpF v)∧Below w.heap.size w w'
theorem one_F {l:List Factor}:∀ cs∈(l:List Factor).map Factor.cells,cs.length=8:=fun cs h=>by obtain ⟨f,_,rfl⟩:=List.mem_map.1 h;rfl
theorem cell_F {l:List Factor}:∀ cs∈(l:List Factor).map Factor.cells,∀ u∈cs,u.oneCell'=true:=fun cs h=>by obtain ⟨f,_,rfl⟩:=List.mem_map.1 h;exact one_of rfl
theorem Fresh.grown {B e sz n c:Nat} {w w':World} {A A':Option Addr} {css:List (List Value)} (h:Own w' B e sz A' n c css):Fresh B w' (obl A'):=Fresh.obl_ h
theorem copyFactors_k (v:Sv) (l:List Factor) (w:World) (hm:fewF l) (hr:RdF w v l) :
    Calls Tryz.prog 84 #[.slice v.A v.n v.c] w fun e w'=>∃ v':Sv,e=.returned (.slice v'.A v'.n v'.c)∧FPost w v' l w':=by
  obtain ⟨i0,hii,hq0,hq1,hq2⟩:=info_parts info_Factor
  have hl:=hr.len
  have hm1:v.n≤4194304:=by have:=hl.out;unfold fewF at hm;omega
  go_enter Tryz.func84,Tryz.ntmps84
  go_wp2_with (at_builtin;refine wpList_append rfl (.tmp 3) (.tmp 4) 23 rfl w.heap.size 34 8 80 i0 _ Tryz.underlying23 hii hq0 hq1 hq2 rfl (by omega) (some ⟨w.heap.size,0,none⟩) 0 0 [] rfl (Own.made0 w _ 8 (Nat.le_refl _)) v.A v.n v.c (l.map Factor.cells) rfl (Row.below hr (bAlloc (Below.refl _ _) _)) one_F cell_F (by simp only [maxLen];omega) (by omega) (by simp) ?_;intro A3 c3 w3 ho3 hg3 hat3)
  have hB:=bGrown (bAlloc (Below.refl w.heap.size w) _) hg3 (fun q hq=>by simp [ob] at hq;omega)
  go_ret
  simp only [Nat.zero_add,List.nil_append] at ho3
  exact ⟨⟨A3,v.n,c3⟩,by simp,ho3.zero,Fresh.obl_ ho3,hB⟩
def SlOk (v:Sv):Prop:=(v.A=none∧v.n=0∧v.c=0)∨∃ g off,v.A=some ⟨g,off,none⟩∧v.n≤v.c∧v.c≤maxLen
theorem SlOk.nc {v:Sv} (h:SlOk v):v.n≤v.c∧v.c≤maxLen:=by
  rcases h with ⟨_,h1,h2⟩ | ⟨_,_,_,h1,h2⟩
  · rw [h1,h2];exact ⟨Nat.le_refl _,Nat.zero_le _⟩
  · exact ⟨h1,h2⟩
theorem Own.slOk {w:World} {B e sz:Nat} {v:Sv} {css:List (List Value)} (h:Own w B e sz v.A v.n v.c css):SlOk v:=by
  rcases h.cases with ⟨h1,h2,h3,_⟩ | ⟨g,h1,_,_,h2,h3⟩
  · exact .inl ⟨h1,h2,h3⟩
  · exact .inr ⟨g,0,h1,h2,h3⟩
theorem Row.nil_ (w:World) (A:Option Addr) (sz:Nat):Row w A 0 sz []:=⟨rfl,fun i cs h=>by simp at h⟩
theorem Row.drop_ {α:Type} {w:World} {g off n sz:Nat} {l:List α} {c:α→List Value} (h:Row w (some ⟨g,off,none⟩) n sz (l.map c)) {k:Nat} (hk:k≤n):Row w (some ⟨g,off+k * sz,none⟩) (n - k) sz ((l.drop k).map c):=by
  have hl:l.length=n:=h.len
  refine ⟨by simp [hl],fun i cs hi=>⟨g,off+k * sz,rfl,fun j v hj=>?_⟩⟩
  have h1:(l.map c)[k+i]? = some cs:=by rw [← hi,List.map_drop,List.getElem?_drop]
  obtain ⟨g',off',hA,hc⟩:=h.2 (k+i) cs h1
  simp only [Option.some.injEq,Addr.mk.injEq,and_true] at hA
  obtain ⟨rfl,rfl⟩:=hA
  have:=hc j v hj
  rw [Nat.add_mul] at this
  rw [← this];congr 2;omega
def InsInv (l:List Factor) (f:Factor) (k:Nat):Prop:=insAt l f=k+insAt (l.drop k) f
theorem InsInv.start (l:List Factor) (f:Factor):InsInv l f 0:=by simp [InsInv]
theorem InsInv.step {l:List Factor} {f g:Factor} {k:Nat} (h:InsInv l f k) (hg:Hid (l[k]? = some g)) (hlt:g.id < f.id):InsInv l f (k+1):=by
  unfold InsInv at *
  rw [h,drop_at hg,insAt,List.takeWhile_cons_of_pos (by simp [below,hlt])]
  simp only [List.length_cons,insAt];omega
theorem InsInv.stop {l:List Factor} {f g:Factor} {k:Nat} (h:InsInv l f k) (hg:Hid (l[k]? = some g)) (hlt:¬ g.id < f.id):Hid (insAt l f=k):=by
  unfold InsInv at h
  rw [Hid,h,drop_at hg,insAt,List.takeWhile_cons_of_neg (by simp [below,hlt])]
  rfl
theorem InsInv.done {l:List Factor} {f:Factor} {k n:Nat} (h:InsInv l f k) (hl:Hid (l.length=n)) (hk:¬ k < n):Hid (insAt l f=k):=by
  unfold InsInv at h;rw [Hid,h,drop_end hl hk];rfl
def smallFs (l:List Factor):Prop:=∀ f∈l,f.frm.size≤4194304∧f.to.size≤4194304
theorem ins_small {l:List Factor} {f:Factor} (hs:smallFs l) (hf:f.frm.size≤4194304∧f.to.size≤4194304):smallFs (insF l f):=by
  intro g hg
  unfold insF at hg
  rcases List.mem_append.1 hg with h | h
  · exact hs g (List.mem_of_mem_take h)
  · rcases List.mem_cons.1 h with rfl | h
    · exact hf
    · exact hs g (List.mem_of_mem_drop h)
theorem findId_has {l:List Factor} {id:Int}:(0≤findId l id 0) ↔ hasId l id=true:=by
  have:=findId_neg l id 0 (by omega)
  cases h:hasId l id
  · rw [h] at this;simp at this;simp;omega
  · rw [h] at this;simp at this;simp;omega
theorem impl_AddFactor_k (v:Sv) (l:List Factor) (f:Factor) (w:World) (hm:fewF l) (hs:smallFs l) (hfs:f.frm.size≤4194304∧f.to.size≤4194304) (hsl:SlOk v) (hr:RdF w v l) :
    Calls Tryz.prog 36 #[.slice v.A v.n v.c,vFactor f.id f.kind f.frm f.to f.pose.turn f.pose.x f.pose.y f.weight] w fun e w'=>∃ v':Sv,e=.returned (.tuple #[.slice v'.A v'.n v'.c,.bool (addF l f).2])∧FPost w v' (addF l f).1 w':=by
  obtain ⟨A,n,c⟩:=v
  have hnc:=hsl.nc
  dsimp only [SlOk] at hnc hsl ⊢
  obtain ⟨hnc1,hnc2⟩:=hnc
  have hl:=hr.len
  have hm1:n≤4194304:=by have:=hl.out;unfold fewF at hm;simp only at this;omega
  generalize hb1:isFL l=b1
  have HB1:=Lib.hid hb1
  clear hb1
  cases b1
  · have E:=Lib.hid (addF_no (f:=f) HB1.out)
    go_enter Tryz.func36,Tryz.ntmps36
    go_wp2_with fail
    refine Calls.mono (impl_IsFactorList_c A n c l _ hm1 (Row.below hr (bAlloc (Below.refl _ _) _)) hs) ?_
    rintro e w1 ⟨rfl,hk1⟩
    rw [HB1.out]
    have H:=bTrans (bAlloc (Below.refl _ _) _) hk1
    go_wp2_with fail
    refine Calls.mono (copyFactors_k ⟨A,n,c⟩ l _ hm (Row.below hr H)) ?_
    rintro e w2 ⟨v2,rfl,ho2,hf2,hk2⟩
    have hs1:=H.size
    have H:=bTrans H hk2
    go_wp2_with fail
    go_ret2
    rw [E.out]
    exact ⟨v2,rfl,ho2,hf2.rebase hs1,H⟩
  generalize hb2:hasId l f.id=b2
  have HB2:=Lib.hid hb2
  clear hb2
  have hfl:=findId_lo l f.id 0 (by omega)
  have hff:=findId_has (l:=l) (id:=f.id)
  rw [HB2.out] at hff
  cases b2
  rotate_left
  · have E:=Lib.hid (addF_has (f:=f) HB1.out HB2.out)
    have hge:0≤findId l f.id 0:=hff.2 rfl
    have hdc:decide (0≤findId l f.id 0)=true:=by simpa using hge
    clear hff hfl
    go_enter Tryz.func36,Tryz.ntmps36
    go_wp2_with fail
    refine Calls.mono (impl_IsFactorList_c A n c l _ hm1 (Row.below hr (bAlloc (Below.refl _ _) _)) hs) ?_
    rintro e w1 ⟨rfl,hk1⟩
    rw [HB1.out]
    have H:=bTrans (bAlloc (Below.refl _ _) _) hk1
    have k1:=bBox hk1 w.heap.size (by simp)
    have z1:=bsz1 hk1
    go_wp2_with fail
    refine Calls.mono (findFactor_c A n c l f.id _ hm1 (Row.below hr H)) ?_
    rintro e w3 ⟨rfl,hk3⟩
    have H:=bTrans H hk3
    go_wp2_with fail
    refine Calls.mono (copyFactors_k ⟨A,n,c⟩ l _ hm (Row.below hr H)) ?_
    rintro e w2 ⟨v2,rfl,ho2,hf2,hk2⟩
    have hs1:=H.size
    have H:=bTrans H hk2
    go_wp2_with fail
    go_ret2
    rw [E.out]
    exact ⟨v2,rfl,ho2,hf2.rebase hs1,H⟩
  have hge:¬ 0≤findId l f.id 0:=fun h=>by have:=hff.1 h;cases this
  have hdc:decide (0≤findId l f.id 0)=false:=by simpa using hge
  clear hff hfl
  go_enter Tryz.func36,Tryz.ntmps36
  go_wp2_with fail
  refine Calls.mono (impl_IsFactorList_c A n c l _ hm1 (Row.below hr (bAlloc (Below.refl _ _) _)) hs) ?_
  rintro e w1 ⟨rfl,hk1⟩
  rw [HB1.out]
  have H:=bTrans (bAlloc (Below.refl _ _) _) hk1
  have k1:=bBox hk1 w.heap.size (by simp)
  have z1:=bsz1 hk1
  go_wp2_with fail
  refine Calls.mono (findFactor_c A n c l f.id _ hm1 (Row.below hr H)) ?_
  rintro e w2 ⟨rfl,hk2⟩
  have k2:=bBox hk2 w.heap.size (by omega)
  have z2:w.heap.size+1≤w2.heap.size:=by have:=hk2.size;omega
  have H:=bTrans H hk2
  go_wp2_with fail
  -- behind this row by program
  obtain ⟨i0,hii,hq0,hq1,hq2⟩:=info_parts info_Factor
  go_loopw [6] (fun i wr=>∃ (k:Nat),k≤n∧i=.int .i64 k∧InsInv l f k∧Below w2.heap.size w2 wr) (fun i _=>n - (intOf i).toNat)
  case atStart=>exact ⟨0,by omega,rfl,InsInv.start l f,Below.refl _ _⟩
  case round =>
    obtain ⟨k,hk,rfl,hi,hbr⟩:=hrel
    have kr:=bBox hbr w.heap.size (by omega)
    have zr:w.heap.size+1≤wr.heap.size:=by have:=hbr.size;omega
    by_cases hlt:k < n
    · obtain ⟨p,g,off,hf,rfl,g0,-⟩:=RowF.at_ (Row.below hr (bTrans H hbr)) hlt
      have h0:(0:Int)≤(k:Int):=by omega
      have h1:(k:Int) < (n:Int):=by omega
      by_cases hid:p.id < f.id
      · have hnx:=hi.step hf hid
        clear hi
        go_wp2_with fail
        go_quiet (fail)
        go_wp2_with fail
        go_roundw
        case rel=>exact ⟨k+1,by omega,by go_num,hnx,bDrewN hbr _⟩
        case measure=>simp [intOf];omega
      · have hat:=hi.stop hf hid
        clear hi
        go_wp2_with fail
        go_quiet (fail)
        have hkc:(k:Int)≤(c:Int):=by omega
        have hk00:(0:Int)≤(k:Int):=by omega
        go_wp2_with fail
        refine region_at fun W hW=>?_
        have hWb:Below wr.heap.size wr W:=by rw [hW.out];exact (by repeat (first | with_reducible exact Below.refl _ _ | with_reducible refine bAlloc ?_ _ | with_reducible refine bDrew ?_ | with_reducible refine bDrewN ?_ _))
        have kW:=bBox hWb w.heap.size (by omega)
        have zW:w.heap.size+1≤W.heap.size:=by have:=hWb.size;omega
        clear hW
        have gb0:W.cell? ⟨w.heap.size,0,none⟩=some (.int .i64 f.id):=by rw [kW,kr,k2,k1];simp
        have gb1:W.cell? ⟨w.heap.size,1,none⟩=some (.int .i64 f.kind):=by rw [kW,kr,k2,k1];simp
        have gb2:W.cell? ⟨w.heap.size,2,none⟩=some (.string f.frm):=by rw [kW,kr,k2,k1];simp
        have gb3:W.cell? ⟨w.heap.size,3,none⟩=some (.string f.to):=by rw [kW,kr,k2,k1];simp
        have gb4:W.cell? ⟨w.heap.size,4,none⟩=some (.int .i64 f.pose.turn):=by rw [kW,kr,k2,k1];simp
        have gb5:W.cell? ⟨w.heap.size,5,none⟩=some (.int .i64 f.pose.x):=by rw [kW,kr,k2,k1];simp
        have gb6:W.cell? ⟨w.heap.size,6,none⟩=some (.int .i64 f.pose.y):=by rw [kW,kr,k2,k1];simp
        have gb7:W.cell? ⟨w.heap.size,7,none⟩=some (.int .i64 f.weight):=by rw [kW,kr,k2,k1];simp
        clear kW kr k2 k1
        have HW:=bTrans (bTrans H hbr) hWb
        have hrW:=Row.below hr HW
        have hrk:RdF W ⟨some ⟨g,off,none⟩,k,c⟩ (l.take k):=Row.take_ hrW hk
        have hfk:fewF (l.take k):=by unfold fewF at *;rw [List.length_take];omega
        go_region_held3 (fun w'=>w'.cell? ⟨w.heap.size,0,none⟩=some (.int .i64 f.id)∧w'.cell? ⟨w.heap.size,1,none⟩=some (.int .i64 f.kind)∧w'.cell? ⟨w.heap.size,2,none⟩=some (.string f.frm)∧w'.cell? ⟨w.heap.size,3,none⟩=some (.string f.to)∧w'.cell? ⟨w.heap.size,4,none⟩=some (.int .i64 f.pose.turn)∧w'.cell? ⟨w.heap.size,5,none⟩=some (.int .i64 f.pose.x)∧w'.cell? ⟨w.heap.size,6,none⟩=some (.int .i64 f.pose.y)∧w'.cell? ⟨w.heap.size,7,none⟩=some (.int .i64 f.weight)) (first | go_keep | (go_split_ands;(repeat' apply And.intro) <;> (first | exact bCell hk3 (by assumption) | exact World.grownBy.cell hg4 (by assumption) (fun e=>by have h9:=hf3.lo _ (mem_obl.2 e.symm);(try simp at h9);omega)))) ((first | (go_at_call 84;refine Calls.mono (copyFactors_k ⟨some ⟨g,off,none⟩,k,c⟩ (l.take k) _ hfk ?_) ?_;exact Row.below hrk (by repeat (first | with_reducible exact Below.refl _ _ | with_reducible refine bAlloc ?_ _ | with_reducible refine bDrew ?_ | with_reducible refine bDrewN ?_ _));rintro e w3 ⟨v3,rfl,ho3,hf3,hk3⟩) | ((refine step_append rfl (.tmp 39) (.tmp 41) 23 rfl w.heap.size 34 8 80 i0 _ Tryz.underlying23 hii hq0 hq1 hq2 rfl (by omega) v3.A v3.n v3.c _ rfl (Own.from_ (OwF.own ho3) (fun g hg=>by have h9:=hf3.lo g hg;(try simp at h9);omega)) _ 1 1 [f.cells] rfl (Row.below (Row.below (Row.new1' _ _ f.cells 8 _ (by simp)) (bDrew (Below.refl _ _))) hk3) (by simp [Factor.cells]) (by simp [Factor.cells,Value.oneCell']) (by have h9:=(OwF.own ho3).len;simp at h9;simp only [maxLen];omega) (by have h9:=(OwF.own ho3).len;simp at h9;omega) (by have h9:=hk3.size;(try simp at h9);(try simp);omega) ?_;intro A4 c4 w4 ho4 hg4 hat4)) | ((refine step_append rfl (.tmp 39) (.tmp 41) 23 rfl w.heap.size 34 8 80 i0 _ Tryz.underlying23 hii hq0 hq1 hq2 rfl (by omega) v3.A v3.n v3.c _ rfl ((Own.from_ (OwF.own ho3) (fun g hg=>by have h9:=hf3.lo g hg;(try simp at h9);omega)).alloc_ _) _ 1 1 [f.cells] rfl (Row.new1' _ _ f.cells 8 _ (by simp)) (by simp [Factor.cells]) (by simp [Factor.cells,Value.oneCell']) (by have h9:=(OwF.own ho3).len;simp at h9;simp only [maxLen];omega) (by have h9:=(OwF.own ho3).len;simp at h9;omega) (by have h9:=hk3.size;(try simp at h9);(try simp);omega) ?_;intro A4 c4 w4 ho4 hg4 hat4))))
        all_goals
          have H3:=bTrans (show Below w.heap.size w _ from by repeat (first | with_reducible exact HW | with_reducible refine bAlloc ?_ _ | with_reducible refine bDrew ?_ | with_reducible refine bDrewN ?_ _)) hk3
          have H4:=bGrown (show Below w.heap.size w _ from by repeat (first | with_reducible exact H3 | with_reducible refine bAlloc ?_ _ | with_reducible refine bDrew ?_ | with_reducible refine bDrewN ?_ _)) hg4 (fun q hq=>by have h9:=hf3.lo q (mem_obl.2 hq);(try simp at h9);omega)
          have L3:=(OwF.own ho3).len
          simp only [List.length_map,List.length_take] at L3
          have L9:l.length=n:=hl.out
          go_wp2_with (at_builtin;(refine wpList_append rfl (.tmp 43) (.tmp 46) 23 rfl w.heap.size 34 8 80 i0 _ Tryz.underlying23 hii hq0 hq1 hq2 rfl (by omega) A4 (v3.n+1) c4 _ rfl ho4 (some ⟨g,off+k * 8,none⟩) (n - k) (c - k) ((l.drop k).map Factor.cells) rfl (Row.drop_ (Row.below hr H4) hk) one_F cell_F (by simp only [maxLen];omega) (by omega) H4.size ?_;intro A5 c5 w5 ho5 hg5 hat5))
          have H5:=bGrown H4 hg5 (fun q hq=>(ho4.lt q hq).1)
          have e6:((l.take k).map Factor.cells++[f.cells]++(l.drop k).map Factor.cells)=(insF l f).map Factor.cells:=by rw [insF,hat.out];simp
          rw [e6] at ho5
          have L40:=isFL_len HB1.out
          have hsm:smallFs (insF l f):=ins_small hs hfs
          generalize hb3:isFL (insF l f)=b3
          have HB3:=Lib.hid hb3
          clear hb3
          go_wp2_with fail
          refine Calls.mono (impl_IsFactorList_c A5 _ c5 (insF l f) _ ?_ ho5.row hsm) ?_
          · omega
          rintro e w6 ⟨rfl,hk6⟩
          rw [HB3.out]
          have H6:=bTrans H5 hk6
          have ho6:=ho5.below hk6
          cases b3
          · have E:=Lib.hid (addF_bad HB3.out)
            go_wp2_with fail
            refine Calls.mono (copyFactors_k ⟨some ⟨g,off,none⟩,n,c⟩ l _ hm (Row.below hr H6)) ?_
            rintro e w7 ⟨v7,rfl,ho7,hf7,hk7⟩
            have hs6:=H6.size
            go_wp2_with fail
            go_ret2
            rw [E.out]
            exact ⟨v7,rfl,ho7,hf7.rebase hs6,bTrans H6 hk7⟩
          · have E:=Lib.hid (addF_yes HB1.out HB3.out)
            go_wp2_with fail
            go_ret2
            rw [E.out]
            exact ⟨⟨A5,_,c5⟩,rfl,ho6.zero,Fresh.obl_ ho6,H6⟩
    · have hat:=hi.done hl hlt
      clear hi
      have h1:¬ (k:Int) < (n:Int):=by omega
      obtain rfl:k=n:=by omega
      rcases hsl with ⟨rfl,h00,hc0⟩ | ⟨g,off,rfl,hnc1,hnc2⟩
      · subst h00;subst hc0
        go_wp2_with fail
        go_quiet (fail)
        have hkc:((0:Nat):Int)≤((0:Nat):Int):=by omega
        have hk00:(0:Int)≤((0:Nat):Int):=by omega
        go_wp2_with fail
        refine region_at fun W hW=>?_
        have hWb:Below wr.heap.size wr W:=by rw [hW.out];exact (by repeat (first | with_reducible exact Below.refl _ _ | with_reducible refine bAlloc ?_ _ | with_reducible refine bDrew ?_ | with_reducible refine bDrewN ?_ _))
        have kW:=bBox hWb w.heap.size (by omega)
        have zW:w.heap.size+1≤W.heap.size:=by have:=hWb.size;omega
        clear hW
        have gb0:W.cell? ⟨w.heap.size,0,none⟩=some (.int .i64 f.id):=by rw [kW,kr,k2,k1];simp
        have gb1:W.cell? ⟨w.heap.size,1,none⟩=some (.int .i64 f.kind):=by rw [kW,kr,k2,k1];simp
        have gb2:W.cell? ⟨w.heap.size,2,none⟩=some (.string f.frm):=by rw [kW,kr,k2,k1];simp
        have gb3:W.cell? ⟨w.heap.size,3,none⟩=some (.string f.to):=by rw [kW,kr,k2,k1];simp
        have gb4:W.cell? ⟨w.heap.size,4,none⟩=some (.int .i64 f.pose.turn):=by rw [kW,kr,k2,k1];simp
        have gb5:W.cell? ⟨w.heap.size,5,none⟩=some (.int .i64 f.pose.x):=by rw [kW,kr,k2,k1];simp
        have gb6:W.cell? ⟨w.heap.size,6,none⟩=some (.int .i64 f.pose.y):=by rw [kW,kr,k2,k1];simp
        have gb7:W.cell? ⟨w.heap.size,7,none⟩=some (.int .i64 f.weight):=by rw [kW,kr,k2,k1];simp
        clear kW kr k2 k1
        have HW:=bTrans (bTrans H hbr) hWb
        have hrW:=Row.below hr HW
        have hrk:RdF W ⟨none,0,0⟩ (l.take 0):=Row.take_ hrW hk
        have hfk:fewF (l.take 0):=by unfold fewF at *;rw [List.length_take];omega
        go_region_held3 (fun w'=>w'.cell? ⟨w.heap.size,0,none⟩=some (.int .i64 f.id)∧w'.cell? ⟨w.heap.size,1,none⟩=some (.int .i64 f.kind)∧w'.cell? ⟨w.heap.size,2,none⟩=some (.string f.frm)∧w'.cell? ⟨w.heap.size,3,none⟩=some (.string f.to)∧w'.cell? ⟨w.heap.size,4,none⟩=some (.int .i64 f.pose.turn)∧w'.cell? ⟨w.heap.size,5,none⟩=some (.int .i64 f.pose.x)∧w'.cell? ⟨w.heap.size,6,none⟩=some (.int .i64 f.pose.y)∧w'.cell? ⟨w.heap.size,7,none⟩=some (.int .i64 f.weight)) (first | go_keep | (go_split_ands;(repeat' apply And.intro) <;> (first | exact bCell hk3 (by assumption) | exact World.grownBy.cell hg4 (by assumption) (fun e=>by have h9:=hf3.lo _ (mem_obl.2 e.symm);(try simp at h9);omega)))) ((first | (go_at_call 84;refine Calls.mono (copyFactors_k ⟨none,0,0⟩ (l.take 0) _ hfk ?_) ?_;exact Row.below hrk (by repeat (first | with_reducible exact Below.refl _ _ | with_reducible refine bAlloc ?_ _ | with_reducible refine bDrew ?_ | with_reducible refine bDrewN ?_ _));rintro e w3 ⟨v3,rfl,ho3,hf3,hk3⟩) | ((refine step_append rfl (.tmp 39) (.tmp 41) 23 rfl w.heap.size 34 8 80 i0 _ Tryz.underlying23 hii hq0 hq1 hq2 rfl (by omega) v3.A v3.n v3.c _ rfl (Own.from_ (OwF.own ho3) (fun g hg=>by have h9:=hf3.lo g hg;(try simp at h9);omega)) _ 1 1 [f.cells] rfl (Row.below (Row.below (Row.new1' _ _ f.cells 8 _ (by simp)) (bDrew (Below.refl _ _))) hk3) (by simp [Factor.cells]) (by simp [Factor.cells,Value.oneCell']) (by have h9:=(OwF.own ho3).len;simp at h9;simp only [maxLen];omega) (by have h9:=(OwF.own ho3).len;simp at h9;omega) (by have h9:=hk3.size;(try simp at h9);(try simp);omega) ?_;intro A4 c4 w4 ho4 hg4 hat4)) | ((refine step_append rfl (.tmp 39) (.tmp 41) 23 rfl w.heap.size 34 8 80 i0 _ Tryz.underlying23 hii hq0 hq1 hq2 rfl (by omega) v3.A v3.n v3.c _ rfl ((Own.from_ (OwF.own ho3) (fun g hg=>by have h9:=hf3.lo g hg;(try simp at h9);omega)).alloc_ _) _ 1 1 [f.cells] rfl (Row.new1' _ _ f.cells 8 _ (by simp)) (by simp [Factor.cells]) (by simp [Factor.cells,Value.oneCell']) (by have h9:=(OwF.own ho3).len;simp at h9;simp only [maxLen];omega) (by have h9:=(OwF.own ho3).len;simp at h9;omega) (by have h9:=hk3.size;(try simp at h9);(try simp);omega) ?_;intro A4 c4 w4 ho4 hg4 hat4))))
        all_goals
          have H3:=bTrans (show Below w.heap.size w _ from by repeat (first | with_reducible exact HW | with_reducible refine bAlloc ?_ _ | with_reducible refine bDrew ?_ | with_reducible refine bDrewN ?_ _)) hk3
          have H4:=bGrown (show Below w.heap.size w _ from by repeat (first | with_reducible exact H3 | with_reducible refine bAlloc ?_ _ | with_reducible refine bDrew ?_ | with_reducible refine bDrewN ?_ _)) hg4 (fun q hq=>by have h9:=hf3.lo q (mem_obl.2 hq);(try simp at h9);omega)
          have L3:=(OwF.own ho3).len
          simp only [List.length_map,List.length_take] at L3
          have L9:l.length=0:=hl.out
          go_wp2_with (at_builtin;(refine wpList_append rfl (.tmp 43) (.tmp 46) 23 rfl w.heap.size 34 8 80 i0 _ Tryz.underlying23 hii hq0 hq1 hq2 rfl (by omega) A4 (v3.n+1) c4 _ rfl ho4 _ 0 _ [] rfl (Row.nil_ _ _ _) (by simp) (by simp) (by simp only [maxLen];omega) (by omega) H4.size ?_;intro A5 c5 w5 ho5 hg5 hat5))
          have H5:=bGrown H4 hg5 (fun q hq=>(ho4.lt q hq).1)
          have e6:((l.take 0).map Factor.cells++[f.cells]++[])=(insF l f).map Factor.cells:=by rw [insF,hat.out];simp;first | omega | exact List.eq_nil_of_length_eq_zero L9 | (rw [List.eq_nil_of_length_eq_zero L9];rfl)
          rw [e6] at ho5
          have L40:=isFL_len HB1.out
          have hsm:smallFs (insF l f):=ins_small hs hfs
          generalize hb3:isFL (insF l f)=b3
          have HB3:=Lib.hid hb3
          clear hb3
          go_wp2_with fail
          refine Calls.mono (impl_IsFactorList_c A5 _ c5 (insF l f) _ ?_ ho5.row hsm) ?_
          · omega
          rintro e w6 ⟨rfl,hk6⟩
          rw [HB3.out]
          have H6:=bTrans H5 hk6
          have ho6:=ho5.below hk6
          cases b3
          · have E:=Lib.hid (addF_bad HB3.out)
            go_wp2_with fail
            refine Calls.mono (copyFactors_k ⟨none,0,0⟩ l _ hm (Row.below hr H6)) ?_
            rintro e w7 ⟨v7,rfl,ho7,hf7,hk7⟩
            have hs6:=H6.size
            go_wp2_with fail
            go_ret2
            rw [E.out]
            exact ⟨v7,rfl,ho7,hf7.rebase hs6,bTrans H6 hk7⟩
          · have E:=Lib.hid (addF_yes HB1.out HB3.out)
            go_wp2_with fail
            go_ret2
            rw [E.out]
            exact ⟨⟨A5,_,c5⟩,rfl,ho6.zero,Fresh.obl_ ho6,H6⟩
      · by_cases hkc2:k=c
        · subst hkc2
          go_wp2_with fail
          go_quiet (fail)
          have hkc:(k:Int)≤(k:Int):=by omega
          have hk00:(0:Int)≤(k:Int):=by omega
          go_wp2_with fail
          refine region_at fun W hW=>?_
          have hWb:Below wr.heap.size wr W:=by rw [hW.out];exact (by repeat (first | with_reducible exact Below.refl _ _ | with_reducible refine bAlloc ?_ _ | with_reducible refine bDrew ?_ | with_reducible refine bDrewN ?_ _))
          have kW:=bBox hWb w.heap.size (by omega)
          have zW:w.heap.size+1≤W.heap.size:=by have:=hWb.size;omega
          clear hW
          have gb0:W.cell? ⟨w.heap.size,0,none⟩=some (.int .i64 f.id):=by rw [kW,kr,k2,k1];simp
          have gb1:W.cell? ⟨w.heap.size,1,none⟩=some (.int .i64 f.kind):=by rw [kW,kr,k2,k1];simp
          have gb2:W.cell? ⟨w.heap.size,2,none⟩=some (.string f.frm):=by rw [kW,kr,k2,k1];simp
          have gb3:W.cell? ⟨w.heap.size,3,none⟩=some (.string f.to):=by rw [kW,kr,k2,k1];simp
          have gb4:W.cell? ⟨w.heap.size,4,none⟩=some (.int .i64 f.pose.turn):=by rw [kW,kr,k2,k1];simp
          have gb5:W.cell? ⟨w.heap.size,5,none⟩=some (.int .i64 f.pose.x):=by rw [kW,kr,k2,k1];simp
          have gb6:W.cell? ⟨w.heap.size,6,none⟩=some (.int .i64 f.pose.y):=by rw [kW,kr,k2,k1];simp
          have gb7:W.cell? ⟨w.heap.size,7,none⟩=some (.int .i64 f.weight):=by rw [kW,kr,k2,k1];simp
          clear kW kr k2 k1
          have HW:=bTrans (bTrans H hbr) hWb
          have hrW:=Row.below hr HW
          have hrk:RdF W ⟨some ⟨g,off,none⟩,k,k⟩ (l.take k):=Row.take_ hrW hk
          have hfk:fewF (l.take k):=by unfold fewF at *;rw [List.length_take];omega
          go_region_held3 (fun w'=>w'.cell? ⟨w.heap.size,0,none⟩=some (.int .i64 f.id)∧w'.cell? ⟨w.heap.size,1,none⟩=some (.int .i64 f.kind)∧w'.cell? ⟨w.heap.size,2,none⟩=some (.string f.frm)∧w'.cell? ⟨w.heap.size,3,none⟩=some (.string f.to)∧w'.cell? ⟨w.heap.size,4,none⟩=some (.int .i64 f.pose.turn)∧w'.cell? ⟨w.heap.size,5,none⟩=some (.int .i64 f.pose.x)∧w'.cell? ⟨w.heap.size,6,none⟩=some (.int .i64 f.pose.y)∧w'.cell? ⟨w.heap.size,7,none⟩=some (.int .i64 f.weight)) (first | go_keep | (go_split_ands;(repeat' apply And.intro) <;> (first | exact bCell hk3 (by assumption) | exact World.grownBy.cell hg4 (by assumption) (fun e=>by have h9:=hf3.lo _ (mem_obl.2 e.symm);(try simp at h9);omega)))) ((first | (go_at_call 84;refine Calls.mono (copyFactors_k ⟨some ⟨g,off,none⟩,k,k⟩ (l.take k) _ hfk ?_) ?_;exact Row.below hrk (by repeat (first | with_reducible exact Below.refl _ _ | with_reducible refine bAlloc ?_ _ | with_reducible refine bDrew ?_ | with_reducible refine bDrewN ?_ _));rintro e w3 ⟨v3,rfl,ho3,hf3,hk3⟩) | ((refine step_append rfl (.tmp 39) (.tmp 41) 23 rfl w.heap.size 34 8 80 i0 _ Tryz.underlying23 hii hq0 hq1 hq2 rfl (by omega) v3.A v3.n v3.c _ rfl (Own.from_ (OwF.own ho3) (fun g hg=>by have h9:=hf3.lo g hg;(try simp at h9);omega)) _ 1 1 [f.cells] rfl (Row.below (Row.below (Row.new1' _ _ f.cells 8 _ (by simp)) (bDrew (Below.refl _ _))) hk3) (by simp [Factor.cells]) (by simp [Factor.cells,Value.oneCell']) (by have h9:=(OwF.own ho3).len;simp at h9;simp only [maxLen];omega) (by have h9:=(OwF.own ho3).len;simp at h9;omega) (by have h9:=hk3.size;(try simp at h9);(try simp);omega) ?_;intro A4 c4 w4 ho4 hg4 hat4)) | ((refine step_append rfl (.tmp 39) (.tmp 41) 23 rfl w.heap.size 34 8 80 i0 _ Tryz.underlying23 hii hq0 hq1 hq2 rfl (by omega) v3.A v3.n v3.c _ rfl ((Own.from_ (OwF.own ho3) (fun g hg=>by have h9:=hf3.lo g hg;(try simp at h9);omega)).alloc_ _) _ 1 1 [f.cells] rfl (Row.new1' _ _ f.cells 8 _ (by simp)) (by simp [Factor.cells]) (by simp [Factor.cells,Value.oneCell']) (by have h9:=(OwF.own ho3).len;simp at h9;simp only [maxLen];omega) (by have h9:=(OwF.own ho3).len;simp at h9;omega) (by have h9:=hk3.size;(try simp at h9);(try simp);omega) ?_;intro A4 c4 w4 ho4 hg4 hat4))))
          all_goals
            have H3:=bTrans (show Below w.heap.size w _ from by repeat (first | with_reducible exact HW | with_reducible refine bAlloc ?_ _ | with_reducible refine bDrew ?_ | with_reducible refine bDrewN ?_ _)) hk3
            have H4:=bGrown (show Below w.heap.size w _ from by repeat (first | with_reducible exact H3 | with_reducible refine bAlloc ?_ _ | with_reducible refine bDrew ?_ | with_reducible refine bDrewN ?_ _)) hg4 (fun q hq=>by have h9:=hf3.lo q (mem_obl.2 hq);(try simp at h9);omega)
            have L3:=(OwF.own ho3).len
            simp only [List.length_map,List.length_take] at L3
            have L9:l.length=k:=hl.out
            go_wp2_with (at_builtin;(refine wpList_append rfl (.tmp 43) (.tmp 46) 23 rfl w.heap.size 34 8 80 i0 _ Tryz.underlying23 hii hq0 hq1 hq2 rfl (by omega) A4 (v3.n+1) c4 _ rfl ho4 _ 0 _ [] rfl (Row.nil_ _ _ _) (by simp) (by simp) (by simp only [maxLen];omega) (by omega) H4.size ?_;intro A5 c5 w5 ho5 hg5 hat5))
            have H5:=bGrown H4 hg5 (fun q hq=>(ho4.lt q hq).1)
            have e6:((l.take k).map Factor.cells++[f.cells]++[])=(insF l f).map Factor.cells:=by rw [insF,hat.out];simp;first | omega | exact List.eq_nil_of_length_eq_zero L9 | (rw [List.eq_nil_of_length_eq_zero L9];rfl)
            rw [e6] at ho5
            have L40:=isFL_len HB1.out
            have hsm:smallFs (insF l f):=ins_small hs hfs
            generalize hb3:isFL (insF l f)=b3
            have HB3:=Lib.hid hb3
            clear hb3
            go_wp2_with fail
            refine Calls.mono (impl_IsFactorList_c A5 _ c5 (insF l f) _ ?_ ho5.row hsm) ?_
            · omega
            rintro e w6 ⟨rfl,hk6⟩
            rw [HB3.out]
            have H6:=bTrans H5 hk6
            have ho6:=ho5.below hk6
            cases b3
            · have E:=Lib.hid (addF_bad HB3.out)
              go_wp2_with fail
              refine Calls.mono (copyFactors_k ⟨some ⟨g,off,none⟩,k,k⟩ l _ hm (Row.below hr H6)) ?_
              rintro e w7 ⟨v7,rfl,ho7,hf7,hk7⟩
              have hs6:=H6.size
              go_wp2_with fail
              go_ret2
              rw [E.out]
              exact ⟨v7,rfl,ho7,hf7.rebase hs6,bTrans H6 hk7⟩
            · have E:=Lib.hid (addF_yes HB1.out HB3.out)
              go_wp2_with fail
              go_ret2
              rw [E.out]
              exact ⟨⟨A5,_,c5⟩,rfl,ho6.zero,Fresh.obl_ ho6,H6⟩
        · have hkc3:k < c:=by omega
          go_wp2_with fail
          go_quiet (fail)
          have hkc:(k:Int)≤(c:Int):=by omega
          have hk00:(0:Int)≤(k:Int):=by omega
          go_wp2_with fail
          refine region_at fun W hW=>?_
          have hWb:Below wr.heap.size wr W:=by rw [hW.out];exact (by repeat (first | with_reducible exact Below.refl _ _ | with_reducible refine bAlloc ?_ _ | with_reducible refine bDrew ?_ | with_reducible refine bDrewN ?_ _))
          have kW:=bBox hWb w.heap.size (by omega)
          have zW:w.heap.size+1≤W.heap.size:=by have:=hWb.size;omega
          clear hW
          have gb0:W.cell? ⟨w.heap.size,0,none⟩=some (.int .i64 f.id):=by rw [kW,kr,k2,k1];simp
          have gb1:W.cell? ⟨w.heap.size,1,none⟩=some (.int .i64 f.kind):=by rw [kW,kr,k2,k1];simp
          have gb2:W.cell? ⟨w.heap.size,2,none⟩=some (.string f.frm):=by rw [kW,kr,k2,k1];simp
          have gb3:W.cell? ⟨w.heap.size,3,none⟩=some (.string f.to):=by rw [kW,kr,k2,k1];simp
          have gb4:W.cell? ⟨w.heap.size,4,none⟩=some (.int .i64 f.pose.turn):=by rw [kW,kr,k2,k1];simp
          have gb5:W.cell? ⟨w.heap.size,5,none⟩=some (.int .i64 f.pose.x):=by rw [kW,kr,k2,k1];simp
          have gb6:W.cell? ⟨w.heap.size,6,none⟩=some (.int .i64 f.pose.y):=by rw [kW,kr,k2,k1];simp
          have gb7:W.cell? ⟨w.heap.size,7,none⟩=some (.int .i64 f.weight):=by rw [kW,kr,k2,k1];simp
          clear kW kr k2 k1
          have HW:=bTrans (bTrans H hbr) hWb
          have hrW:=Row.below hr HW
          have hrk:RdF W ⟨some ⟨g,off,none⟩,k,c⟩ (l.take k):=Row.take_ hrW hk
          have hfk:fewF (l.take k):=by unfold fewF at *;rw [List.length_take];omega
          go_region_held3 (fun w'=>w'.cell? ⟨w.heap.size,0,none⟩=some (.int .i64 f.id)∧w'.cell? ⟨w.heap.size,1,none⟩=some (.int .i64 f.kind)∧w'.cell? ⟨w.heap.size,2,none⟩=some (.string f.frm)∧w'.cell? ⟨w.heap.size,3,none⟩=some (.string f.to)∧w'.cell? ⟨w.heap.size,4,none⟩=some (.int .i64 f.pose.turn)∧w'.cell? ⟨w.heap.size,5,none⟩=some (.int .i64 f.pose.x)∧w'.cell? ⟨w.heap.size,6,none⟩=some (.int .i64 f.pose.y)∧w'.cell? ⟨w.heap.size,7,none⟩=some (.int .i64 f.weight)) (first | go_keep | (go_split_ands;(repeat' apply And.intro) <;> (first | exact bCell hk3 (by assumption) | exact World.grownBy.cell hg4 (by assumption) (fun e=>by have h9:=hf3.lo _ (mem_obl.2 e.symm);(try simp at h9);omega)))) ((first | (go_at_call 84;refine Calls.mono (copyFactors_k ⟨some ⟨g,off,none⟩,k,c⟩ (l.take k) _ hfk ?_) ?_;exact Row.below hrk (by repeat (first | with_reducible exact Below.refl _ _ | with_reducible refine bAlloc ?_ _ | with_reducible refine bDrew ?_ | with_reducible refine bDrewN ?_ _));rintro e w3 ⟨v3,rfl,ho3,hf3,hk3⟩) | ((refine step_append rfl (.tmp 39) (.tmp 41) 23 rfl w.heap.size 34 8 80 i0 _ Tryz.underlying23 hii hq0 hq1 hq2 rfl (by omega) v3.A v3.n v3.c _ rfl (Own.from_ (OwF.own ho3) (fun g hg=>by have h9:=hf3.lo g hg;(try simp at h9);omega)) _ 1 1 [f.cells] rfl (Row.below (Row.below (Row.new1' _ _ f.cells 8 _ (by simp)) (bDrew (Below.refl _ _))) hk3) (by simp [Factor.cells]) (by simp [Factor.cells,Value.oneCell']) (by have h9:=(OwF.own ho3).len;simp at h9;simp only [maxLen];omega) (by have h9:=(OwF.own ho3).len;simp at h9;omega) (by have h9:=hk3.size;(try simp at h9);(try simp);omega) ?_;intro A4 c4 w4 ho4 hg4 hat4)) | ((refine step_append rfl (.tmp 39) (.tmp 41) 23 rfl w.heap.size 34 8 80 i0 _ Tryz.underlying23 hii hq0 hq1 hq2 rfl (by omega) v3.A v3.n v3.c _ rfl ((Own.from_ (OwF.own ho3) (fun g hg=>by have h9:=hf3.lo g hg;(try simp at h9);omega)).alloc_ _) _ 1 1 [f.cells] rfl (Row.new1' _ _ f.cells 8 _ (by simp)) (by simp [Factor.cells]) (by simp [Factor.cells,Value.oneCell']) (by have h9:=(OwF.own ho3).len;simp at h9;simp only [maxLen];omega) (by have h9:=(OwF.own ho3).len;simp at h9;omega) (by have h9:=hk3.size;(try simp at h9);(try simp);omega) ?_;intro A4 c4 w4 ho4 hg4 hat4))))
          all_goals
            have H3:=bTrans (show Below w.heap.size w _ from by repeat (first | with_reducible exact HW | with_reducible refine bAlloc ?_ _ | with_reducible refine bDrew ?_ | with_reducible refine bDrewN ?_ _)) hk3
            have H4:=bGrown (show Below w.heap.size w _ from by repeat (first | with_reducible exact H3 | with_reducible refine bAlloc ?_ _ | with_reducible refine bDrew ?_ | with_reducible refine bDrewN ?_ _)) hg4 (fun q hq=>by have h9:=hf3.lo q (mem_obl.2 hq);(try simp at h9);omega)
            have L3:=(OwF.own ho3).len
            simp only [List.length_map,List.length_take] at L3
            have L9:l.length=k:=hl.out
            go_wp2_with (at_builtin;(refine wpList_append rfl (.tmp 43) (.tmp 46) 23 rfl w.heap.size 34 8 80 i0 _ Tryz.underlying23 hii hq0 hq1 hq2 rfl (by omega) A4 (v3.n+1) c4 _ rfl ho4 _ 0 _ [] rfl (Row.nil_ _ _ _) (by simp) (by simp) (by simp only [maxLen];omega) (by omega) H4.size ?_;intro A5 c5 w5 ho5 hg5 hat5))
            have H5:=bGrown H4 hg5 (fun q hq=>(ho4.lt q hq).1)
            have e6:((l.take k).map Factor.cells++[f.cells]++[])=(insF l f).map Factor.cells:=by rw [insF,hat.out];simp;first | omega | exact List.eq_nil_of_length_eq_zero L9 | (rw [List.eq_nil_of_length_eq_zero L9];rfl)
            rw [e6] at ho5
            have L40:=isFL_len HB1.out
            have hsm:smallFs (insF l f):=ins_small hs hfs
            generalize hb3:isFL (insF l f)=b3
            have HB3:=Lib.hid hb3
            clear hb3
            go_wp2_with fail
            refine Calls.mono (impl_IsFactorList_c A5 _ c5 (insF l f) _ ?_ ho5.row hsm) ?_
            · omega
            rintro e w6 ⟨rfl,hk6⟩
            rw [HB3.out]
            have H6:=bTrans H5 hk6
            have ho6:=ho5.below hk6
            cases b3
            · have E:=Lib.hid (addF_bad HB3.out)
              go_wp2_with fail
              refine Calls.mono (copyFactors_k ⟨some ⟨g,off,none⟩,k,c⟩ l _ hm (Row.below hr H6)) ?_
              rintro e w7 ⟨v7,rfl,ho7,hf7,hk7⟩
              have hs6:=H6.size
              go_wp2_with fail
              go_ret2
              rw [E.out]
              exact ⟨v7,rfl,ho7,hf7.rebase hs6,bTrans H6 hk7⟩
            · have E:=Lib.hid (addF_yes HB1.out HB3.out)
              go_wp2_with fail
              go_ret2
              rw [E.out]
              exact ⟨⟨A5,_,c5⟩,rfl,ho6.zero,Fresh.obl_ ho6,H6⟩

theorem szRobot_k (v:Sv) (x:Robot) (left:Int) (w:World) (h1:0≤left) (h2:left≤4194304) (hl:lenF v) (hok:x.ok) (hr:RdF w v x.factors) :
    Calls Tryz.prog 102 #[vRobot v x,.int .i64 left] w fun e w'=>SzPost left x.bulk e∧Below w.heap.size w w':=by
  have ok2:=hok.1
  have okj:=hok.2
  unfold maxLen at okj
  go_enter Tryz.func102,Tryz.ntmps102
  go_wp2_with fail
  refine Calls.mono (szFactorS_k v x.factors left _ h1 h2 hl ok2 ?_) ?_
  · exact RdF.below hr (bAlloc (Below.refl _ _) _)
  rintro e w1 ⟨⟨r0,rfl,hp⟩,hb1⟩
  have hk:=bBox hb1 w.heap.size (by simp)
  have H:=bTrans (bAlloc (Below.refl w.heap.size w) _) hb1
  rcases hp with rfl | ⟨hp0,hp1⟩
  · go_wp2_with fail
    go_ret
    exact ⟨⟨_,rfl,.inl rfl⟩,H⟩
  · have hp2:¬ r0 < 0:=by omega
    have hp3:r0≤4194304:=by have:=hp1.out;omega
    go_wp2_with fail
    · go_ret
      exact ⟨⟨_,rfl,.inl rfl⟩,H⟩
    · go_ret
      exact ⟨⟨_,rfl,.inr ⟨by omega,by have:=hp1.out;unfold Hid Robot.bulk;push_cast;omega⟩⟩,H⟩
theorem toRobot_k (v:Sv) (x:Robot) (w:World) (hm:fewF x.factors) (hr:RdF w v x.factors) :
    Calls Tryz.prog 110 #[vRobot v x] w fun e w'=>∃ v':Sv,e=.returned (vRobot v' x)∧OwF w' v' x.factors∧Fresh w.heap.size w' (fpF v')∧Below w.heap.size w w':=by
  go_enter Tryz.func110,Tryz.ntmps110
  go_wp2_with fail
  refine Calls.mono (toFactorS_k v x.factors _ hm ?_) ?_
  · exact RdF.below hr (by repeat (first | with_reducible exact Below.refl _ _ | with_reducible refine bAlloc ?_ _ | (with_reducible refine bSet ?_ ?_ _;rotate_left;simp;try omega)))
  rintro e w1 ⟨v1,rfl,ho,hf,hb1⟩
  have H:=bTrans (by repeat (first | with_reducible exact Below.refl _ _ | with_reducible refine bAlloc ?_ _ | (with_reducible refine bSet ?_ ?_ _;rotate_left;simp;try omega)):Below w.heap.size w _) hb1
  have hz1:w.heap.size+3≤w1.heap.size:=by have:=hb1.size;simp at this;omega
  have k0:=bBox hb1 (w.heap.size) (by simp;try omega)
  have k1:=bBox hb1 (w.heap.size+1) (by simp;try omega)
  have k2:=bBox hb1 (w.heap.size+1+1) (by simp;try omega)
  have f1:=bBoxF hb1 (w.heap.size+1) (by simp;try omega)
  have f2:=bBoxF hb1 (w.heap.size+1+1) (by simp;try omega)
  have hlo:Hid (∀ q∈fpF v1,w.heap.size+3≤q):=fun q hq=>by have h1:=hf.lo q hq;simp at h1;omega
  go_wp2_with fail
  refine bodyPost_ret (v:=vRobot v1 x) (by simp [*,results,Tryz.results110,go_sem]) rfl ⟨v1,rfl,?_⟩
  exact bun_end (b:=⟨0,x.factors⟩) hlo ho hf H hz1 (by repeat (first | with_reducible exact Upd.refl _ _ | (with_reducible refine Upd.set_in ?_ ?_ _);rotate_left;simp))
theorem eqRobot_k (v v2:Sv) (x:Robot) (w:World) (hm:fewF x.factors) (hr:RdF w v x.factors) (hr2:RdF w v2 x.factors) :
    Calls Tryz.prog 112 #[vRobot v x,vRobot v2 x] w fun e w'=>e=rBool true∧Below w.heap.size w w':=by
  go_enter Tryz.func112,Tryz.ntmps112
  go_wp2_with fail
  refine Calls.mono (eqFactorS_k v v2 x.factors _ hm ?_ ?_) ?_
  · exact RdF.below hr (bAlloc (bAlloc (Below.refl _ _) _) _)
  · exact RdF.below hr2 (bAlloc (bAlloc (Below.refl _ _) _) _)
  rintro e w1 ⟨rfl,hb1⟩
  have k1:=bBox hb1 (w.heap.size) (by simp;try omega)
  have k2:=bBox hb1 (w.heap.size+1) (by simp;try omega)
  go_wp2_with fail
  go_ret
  exact ⟨rfl,bTrans (bAlloc (bAlloc (Below.refl _ _) _) _) hb1⟩

theorem szRobotS_k (A:Option Addr) (n c:Nat) (l:List (Robot)) (left:Int) (w:World) (h1:0≤left) (h2:left≤4194304) (hn:n≤maxLen) (hok:∀ x∈l,Robot.ok x) (hr:RdSl RdRo w A n 2 l) :
    Calls Tryz.prog 53 #[.slice A n c,.int .i64 left] w fun e w'=>SzPost left (n+sumBulk Robot.bulk l) e∧Below w.heap.size w w':=by
  unfold maxLen at hn
  go_enter Tryz.func53,Tryz.ntmps53
  go_wp2
  · go_ret
    exact ⟨⟨_,rfl,.inl rfl⟩,Below.refl _ _⟩
  · go_loopw [1,5,23] (fun le i t0 wr=>∃ (k:Nat) (lf:Int),k≤n∧i=.int .i64 k∧le=.int .i64 lf∧0≤lf∧lf≤4194304∧Hid (lf+(sumBulk Robot.bulk l:Int)=left - n+(sumBulk Robot.bulk (l.drop k):Int))∧Below w.heap.size w wr) (fun _ i _ _=>n - (intOf i).toNat)
    case atStart=>exact ⟨0,left - n,by omega,rfl,by go_num,by omega,by omega,by simp [Hid],Below.refl _ _⟩
    case round =>
      obtain ⟨k,lf,hk,rfl,rfl,h3,h4,he,hb⟩:=hrel
      by_cases hlt:k < n
      · obtain ⟨x,csv,g,off,hx,rfl,hRv,hcv⟩:=RdSl.at_ (hr.below (R:=RdRo) RdRo.below hb) hlt
        obtain ⟨v,rfl,hRdv,hLnv⟩:=hRv
        have g0:wr.cell? ⟨g,off+k * 2,none⟩=some (.slice v.A v.n v.c):=hcv 0 _ rfl
        have g1:wr.cell? ⟨g,off+k * 2+1,none⟩=some (.string x.journal):=hcv 1 _ rfl
        clear hcv
        have hd:=Lib.hid (drop_at hx)
        have hm:=hok x (List.mem_of_getElem? hx.out)
        go_wp2_with fail
        refine Calls.mono (szRobot_k v x _ _ h3 h4 hLnv hm ?_) ?_
        · exact RdF.below hRdv (by repeat (first | with_reducible exact Below.refl _ _ | with_reducible refine bAlloc ?_ _ | with_reducible refine bDrew ?_))
        rintro e w1 ⟨⟨r,rfl,hp⟩,hb1⟩
        have hb2:Below wr.heap.size wr w1:=bTrans (by repeat (first | with_reducible exact Below.refl _ _ | with_reducible refine bAlloc ?_ _ | with_reducible refine bDrew ?_)) hb1
        rcases hp with rfl | ⟨hp0,hp1⟩
        · go_wp2_with fail
          go_ret
          exact ⟨⟨_,rfl,.inl rfl⟩,bTrans hb hb2⟩
        · have hp2:r≤4194304:=by have:=hp1.out;omega
          have hp1':=hp1
          clear hp1
          go_wp2_with fail
          go_roundw
          case rel=>exact ⟨k+1,r,by omega,by go_num,rfl,hp0,hp2,by have:=he.out;have:=hp1'.out;rw [hd.out] at *;simp only [Hid,sumBulk] at *;omega,bTrans hb hb2⟩
          case measure=>simp [intOf];omega
      · have hd:=Lib.hid (drop_end hr.len hlt)
        go_wp2
        go_ret
        refine ⟨⟨_,rfl,.inr ⟨h3,?_⟩⟩,hb⟩
        have:=he.out;rw [hd.out] at this;simp only [Hid,sumBulk] at *;omega

theorem info_RobotS:(Tryz.prog.info? 47).map (fun i=>(i.zero,i.size,i.bytes))=some (some (.agg #[.slice none 0 0,.string ByteArray.empty]),2,40):=by kernel_rfl
theorem size_RobotS:(Tryz.prog.info? 47).map (·.size)=some 2:=by kernel_rfl
def zeroRobotS:List Value:=[.slice none 0 0,.string ByteArray.empty]
theorem toRobotS_k (A:Option Addr) (n c:Nat) (l:List (Robot)) (w:World) (hm:sumBulk Robot.num l≤4194304) (hr:RdSl RdRo w A n 2 l) :
    Calls Tryz.prog 60 #[.slice A n c] w fun e w'=>∃ A' c' fs,e=.returned (.slice A' n c')∧OwSl KRo w' fs 47 2 A' n c' l∧Fresh w.heap.size w' fs∧Below w.heap.size w w':=by
  obtain ⟨i0,hi,hz0,hz1,hz2⟩:=info_parts info_RobotS
  have hn:n≤4194304:=by have:=hr.len.out;have:=sum_one (c:=Robot.num) (fun x=>by unfold Robot.num;omega) l;omega
  have HM:=Lib.hid hm
  clear hm
  go_enter Tryz.func60,Tryz.ntmps60
  go_wp2_with (refine wpList_make rfl (.tmp 6) (.tmp 6) _ rfl w.heap.size 47 2 40 i0 _ Tryz.underlying25 hi hz0 hz1 hz2 .i64 .i64 n rfl rfl zeroRobotS rfl rfl (by omega) (by omega) (by simp only [maxLen];omega) (Nat.le_refl _) ?_;intro w1 hown1 hg1)
  have hb1:=bGrown (Below.refl _ _) hg1 (by simp)
  have hfill:FillK KRo zeroRobotS 47 2 w w1 n l 0:=FillK.zero hown1
  clear hown1
  go_loopw [4,20] (fun i t0 wr=>∃ (k:Nat),k≤n∧i=.int .i64 k∧FillK KRo zeroRobotS 47 2 w wr n l k∧Below w.heap.size w wr) (fun i _ _=>n - (intOf i).toNat)
  case atStart=>exact ⟨0,by omega,rfl,hfill,hb1⟩
  case round =>
    obtain ⟨k,hk,rfl,hfill,hb⟩:=hrel
    by_cases hlt:k < n
    · obtain ⟨x,csv,g,off,hx,rfl,hRv,hcv⟩:=RdSl.at_ (hr.below (R:=RdRo) RdRo.below hb) hlt
      obtain ⟨v,rfl,hRdv,hLnv⟩:=hRv
      have g0:wr.cell? ⟨g,off+k * 2,none⟩=some (.slice v.A v.n v.c):=hcv 0 _ rfl
      have g1:wr.cell? ⟨g,off+k * 2+1,none⟩=some (.string x.journal):=hcv 1 _ rfl
      clear hcv
      have hfew:=few_Ro (Nat.le_trans (mem_bulk (c:=Robot.num) (List.mem_of_getElem? hx.out)) HM.out)
      go_wp2_with fail
      refine Calls.mono (toRobot_k v x _ hfew ?_) ?_
      · exact RdF.below hRdv (by repeat (first | with_reducible exact Below.refl _ _ | with_reducible refine bAlloc ?_ _ | with_reducible refine bDrew ?_))
      rintro e w2 ⟨v2,rfl,ho2,hf2,hb1⟩
      have hb2:Below wr.heap.size wr w2:=bTrans (by repeat (first | with_reducible exact Below.refl _ _ | with_reducible refine bAlloc ?_ _ | with_reducible refine bDrew ?_)) hb1
      have hf3:Fresh wr.heap.size w2 _:=hf2.rebase (by first | exact Nat.le_refl _ | (simp;done) | (simp;omega))
      obtain ⟨css,hown2,hnext⟩:=hfill.step (f:=_) (cs:=cRobot v2 x) loc_Ro hx hlt hb2 ⟨v2,rfl,ho2,rfl⟩ hf3
      clear hfill hf2 hf3
      go_wp2_with (refine wpList_store_elem rfl _ (.tmp 21) (.tmp 20) rfl w.heap.size 47 2 n n w.heap.size k _ (by first | rfl | omega) _ rfl _ (cRobot v2 x) rfl rfl rfl (one_of rfl) size_RobotS hown2 hlt ?_;intro w3 hown3 hg3)
      have hfill:=hnext w3 hown3 hg3
      go_roundw
      case rel=>exact ⟨k+1,by omega,by go_num,hfill,bGrown (bTrans hb hb2) hg3 (by simp)⟩
      case measure=>simp [intOf];omega
    · obtain ⟨fs,ho,hf⟩:=hfill.full hr.len hlt
      go_wp2
      go_ret
      exact ⟨_,_,_,rfl,ho,hf,hb⟩

theorem eqRobotS_k (A A2:Option Addr) (n n2 c c2:Nat) (l:List (Robot)) (w:World) (hm:sumBulk Robot.num l≤4194304) (hr:RdSl RdRo w A n 2 l) (hr2:RdSl RdRo w A2 n2 2 l) :
    Calls Tryz.prog 62 #[.slice A n c,.slice A2 n2 c2] w fun e w'=>e=rBool true∧Below w.heap.size w w':=by
  obtain rfl:n=n2:=hr.len.out.symm.trans hr2.len.out
  have hn:n≤4194304:=by have:=hr.len.out;have:=sum_one (c:=Robot.num) (fun x=>by unfold Robot.num;omega) l;omega
  have HM:=Lib.hid hm
  clear hm
  go_enter Tryz.func62,Tryz.ntmps62
  go_wp2
  go_loopw [5,25] (fun i t0 wr=>∃ (k:Nat),k≤n∧i=.int .i64 k∧Below w.heap.size w wr) (fun i _ _=>n - (intOf i).toNat)
  case atStart=>exact ⟨0,by omega,rfl,Below.refl _ _⟩
  case round =>
    obtain ⟨k,hk,rfl,hb⟩:=hrel
    by_cases hlt:k < n
    · obtain ⟨x,csv,g,off,hx,rfl,hRv,hcv⟩:=RdSl.at_ (hr.below (R:=RdRo) RdRo.below hb) hlt
      obtain ⟨v,rfl,hRdv,hLnv⟩:=hRv
      have g0:wr.cell? ⟨g,off+k * 2,none⟩=some (.slice v.A v.n v.c):=hcv 0 _ rfl
      have g1:wr.cell? ⟨g,off+k * 2+1,none⟩=some (.string x.journal):=hcv 1 _ rfl
      clear hcv
      obtain ⟨x2,csv2,g2,off2,hx2,rfl,hRv2,hcv2⟩:=RdSl.at_ (hr2.below (R:=RdRo) RdRo.below hb) hlt
      obtain ⟨v2,rfl,hRdv2,hLnv2⟩:=hRv2
      have k0:wr.cell? ⟨g2,off2+k * 2,none⟩=some (.slice v2.A v2.n v2.c):=hcv2 0 _ rfl
      have k1:wr.cell? ⟨g2,off2+k * 2+1,none⟩=some (.string x2.journal):=hcv2 1 _ rfl
      clear hcv2
      obtain rfl:x=x2:=Option.some.inj (hx.out.symm.trans hx2.out)
      have hfew:=few_Ro (Nat.le_trans (mem_bulk (c:=Robot.num) (List.mem_of_getElem? hx.out)) HM.out)
      have h0:(0:Int)≤(k:Int):=by omega
      have h1:(k:Int) < (n:Int):=by omega
      go_wp2_with fail
      go_region_held3 (fun w'=>w'.cell? ⟨g,off+k * 2,none⟩=some (.slice v.A v.n v.c)∧w'.cell? ⟨g,off+k * 2+1,none⟩=some (.string x.journal)∧w'.cell? ⟨g2,off2+k * 2,none⟩=some (.slice v2.A v2.n v2.c)∧w'.cell? ⟨g2,off2+k * 2+1,none⟩=some (.string x.journal))
        (first | go_keep | ((repeat' apply And.intro) <;> exact bCell hb1 (by assumption))) ((go_at_call 112;refine Calls.mono (eqRobot_k v v2 x _ hfew (RdF.below hRdv (bDrew (Below.refl _ _))) (RdF.below hRdv2 (bDrew (Below.refl _ _)))) ?_;rintro e w1 ⟨rfl,hb1⟩))
      go_wp2_with fail
      go_roundw
      case rel=>exact ⟨k+1,by omega,by go_num,bTrans (bDrew hb) hb1⟩
      case measure=>simp [intOf];omega
    · go_wp2
      go_ret
      exact ⟨rfl,hb⟩

theorem szChannelS_k (A:Option Addr) (n c:Nat) (l:List (Chan)) (left:Int) (w:World) (h1:0≤left) (h2:left≤4194304) (hn:n≤maxLen) (hok:∀ x∈l,okC x) (hr:RdSl RdCe w A n 6 l) :
    Calls Tryz.prog 103 #[.slice A n c,.int .i64 left] w fun e w'=>SzPost left (n+sumBulk bulkC l) e∧Below w.heap.size w w':=by
  unfold maxLen at hn
  go_enter Tryz.func103,Tryz.ntmps103
  go_wp2
  · go_ret
    exact ⟨⟨_,rfl,.inl rfl⟩,Below.refl _ _⟩
  · go_loopw [1,5,23] (fun le i t0 wr=>∃ (k:Nat) (lf:Int),k≤n∧i=.int .i64 k∧le=.int .i64 lf∧0≤lf∧lf≤4194304∧Hid (lf+(sumBulk bulkC l:Int)=left - n+(sumBulk bulkC (l.drop k):Int))∧Below w.heap.size w wr) (fun _ i _ _=>n - (intOf i).toNat)
    case atStart=>exact ⟨0,left - n,by omega,rfl,by go_num,by omega,by omega,by simp [Hid],Below.refl _ _⟩
    case round =>
      obtain ⟨k,lf,hk,rfl,rfl,h3,h4,he,hb⟩:=hrel
      by_cases hlt:k < n
      · obtain ⟨x,csv,g,off,hx,rfl,hRv,hcv⟩:=RdSl.at_ (hr.below (R:=RdCe) RdCe.below hb) hlt
        obtain ⟨v,rfl,hRdv,hLnv⟩:=hRv
        have g0:wr.cell? ⟨g,off+k * 6,none⟩=some (.slice v.q.A v.q.n v.q.c):=hcv 0 _ rfl
        have g1:wr.cell? ⟨g,off+k * 6+1,none⟩=some (.int .i64 x.base):=hcv 1 _ rfl
        have g2:wr.cell? ⟨g,off+k * 6+2,none⟩=some (.int .i64 x.expected):=hcv 2 _ rfl
        have g3:wr.cell? ⟨g,off+k * 6+3,none⟩=some (.slice v.i.A v.i.n v.i.c):=hcv 3 _ rfl
        have g4:wr.cell? ⟨g,off+k * 6+4,none⟩=some (.slice v.n.A v.n.n v.n.c):=hcv 4 _ rfl
        have g5:wr.cell? ⟨g,off+k * 6+5,none⟩=some (.slice v.a.A v.a.n v.a.c):=hcv 5 _ rfl
        clear hcv
        have hd:=Lib.hid (drop_at hx)
        have hm:=hok x (List.mem_of_getElem? hx.out)
        go_wp2_with fail
        refine Calls.mono (szChannel_k v x _ _ h3 h4 hLnv hm ?_) ?_
        · exact RdC.below hRdv (by repeat (first | with_reducible exact Below.refl _ _ | with_reducible refine bAlloc ?_ _ | with_reducible refine bDrew ?_))
        rintro e w1 ⟨⟨r,rfl,hp⟩,hb1⟩
        have hb2:Below wr.heap.size wr w1:=bTrans (by repeat (first | with_reducible exact Below.refl _ _ | with_reducible refine bAlloc ?_ _ | with_reducible refine bDrew ?_)) hb1
        rcases hp with rfl | ⟨hp0,hp1⟩
        · go_wp2_with fail
          go_ret
          exact ⟨⟨_,rfl,.inl rfl⟩,bTrans hb hb2⟩
        · have hp2:r≤4194304:=by have:=hp1.out;omega
          have hp1':=hp1
          clear hp1
          go_wp2_with fail
          go_roundw
          case rel=>exact ⟨k+1,r,by omega,by go_num,rfl,hp0,hp2,by have:=he.out;have:=hp1'.out;rw [hd.out] at *;simp only [Hid,sumBulk] at *;omega,bTrans hb hb2⟩
          case measure=>simp [intOf];omega
      · have hd:=Lib.hid (drop_end hr.len hlt)
        go_wp2
        go_ret
        refine ⟨⟨_,rfl,.inr ⟨h3,?_⟩⟩,hb⟩
        have:=he.out;rw [hd.out] at this;simp only [Hid,sumBulk] at *;omega

theorem info_ChannelS:(Tryz.prog.info? 84).map (fun i=>(i.zero,i.size,i.bytes))=some (some (.agg #[.slice none 0 0,.int .i64 0,.int .i64 0,.slice none 0 0,.slice none 0 0,.slice none 0 0]),6,112):=by kernel_rfl
theorem size_ChannelS:(Tryz.prog.info? 84).map (·.size)=some 6:=by kernel_rfl
def zeroChannelS:List Value:=[.slice none 0 0,.int .i64 0,.int .i64 0,.slice none 0 0,.slice none 0 0,.slice none 0 0]
theorem toChannelS_k (A:Option Addr) (n c:Nat) (l:List (Chan)) (w:World) (hm:sumBulk Chan.num l≤4194304) (hr:RdSl RdCe w A n 6 l) :
    Calls Tryz.prog 111 #[.slice A n c] w fun e w'=>∃ A' c' fs,e=.returned (.slice A' n c')∧OwSl KCe w' fs 84 6 A' n c' l∧Fresh w.heap.size w' fs∧Below w.heap.size w w':=by
  obtain ⟨i0,hi,hz0,hz1,hz2⟩:=info_parts info_ChannelS
  have hn:n≤4194304:=by have:=hr.len.out;have:=sum_one (c:=Chan.num) (fun x=>by unfold Chan.num;omega) l;omega
  have HM:=Lib.hid hm
  clear hm
  go_enter Tryz.func111,Tryz.ntmps111
  go_wp2_with (refine wpList_make rfl (.tmp 6) (.tmp 6) _ rfl w.heap.size 84 6 112 i0 _ Tryz.underlying71 hi hz0 hz1 hz2 .i64 .i64 n rfl rfl zeroChannelS rfl rfl (by omega) (by omega) (by simp only [maxLen];omega) (Nat.le_refl _) ?_;intro w1 hown1 hg1)
  have hb1:=bGrown (Below.refl _ _) hg1 (by simp)
  have hfill:FillK KCe zeroChannelS 84 6 w w1 n l 0:=FillK.zero hown1
  clear hown1
  go_loopw [4,20] (fun i t0 wr=>∃ (k:Nat),k≤n∧i=.int .i64 k∧FillK KCe zeroChannelS 84 6 w wr n l k∧Below w.heap.size w wr) (fun i _ _=>n - (intOf i).toNat)
  case atStart=>exact ⟨0,by omega,rfl,hfill,hb1⟩
  case round =>
    obtain ⟨k,hk,rfl,hfill,hb⟩:=hrel
    by_cases hlt:k < n
    · obtain ⟨x,csv,g,off,hx,rfl,hRv,hcv⟩:=RdSl.at_ (hr.below (R:=RdCe) RdCe.below hb) hlt
      obtain ⟨v,rfl,hRdv,hLnv⟩:=hRv
      have g0:wr.cell? ⟨g,off+k * 6,none⟩=some (.slice v.q.A v.q.n v.q.c):=hcv 0 _ rfl
      have g1:wr.cell? ⟨g,off+k * 6+1,none⟩=some (.int .i64 x.base):=hcv 1 _ rfl
      have g2:wr.cell? ⟨g,off+k * 6+2,none⟩=some (.int .i64 x.expected):=hcv 2 _ rfl
      have g3:wr.cell? ⟨g,off+k * 6+3,none⟩=some (.slice v.i.A v.i.n v.i.c):=hcv 3 _ rfl
      have g4:wr.cell? ⟨g,off+k * 6+4,none⟩=some (.slice v.n.A v.n.n v.n.c):=hcv 4 _ rfl
      have g5:wr.cell? ⟨g,off+k * 6+5,none⟩=some (.slice v.a.A v.a.n v.a.c):=hcv 5 _ rfl
      clear hcv
      have hfew:=few_Ce (Nat.le_trans (mem_bulk (c:=Chan.num) (List.mem_of_getElem? hx.out)) HM.out)
      go_wp2_with fail
      refine Calls.mono (toChannel_k v x _ hfew ?_) ?_
      · exact RdC.below hRdv (by repeat (first | with_reducible exact Below.refl _ _ | with_reducible refine bAlloc ?_ _ | with_reducible refine bDrew ?_))
      rintro e w2 ⟨v2,rfl,ho2,hf2,hb1⟩
      have hb2:Below wr.heap.size wr w2:=bTrans (by repeat (first | with_reducible exact Below.refl _ _ | with_reducible refine bAlloc ?_ _ | with_reducible refine bDrew ?_)) hb1
      have hf3:Fresh wr.heap.size w2 _:=hf2.rebase (by first | exact Nat.le_refl _ | (simp;done) | (simp;omega))
      obtain ⟨css,hown2,hnext⟩:=hfill.step (f:=_) (cs:=cChan v2 x.base x.expected) loc_Ce hx hlt hb2 ⟨v2,rfl,ho2,rfl⟩ hf3
      clear hfill hf2 hf3
      go_wp2_with (refine wpList_store_elem rfl _ (.tmp 21) (.tmp 20) rfl w.heap.size 84 6 n n w.heap.size k _ (by first | rfl | omega) _ rfl _ (cChan v2 x.base x.expected) rfl rfl rfl (one_of rfl) size_ChannelS hown2 hlt ?_;intro w3 hown3 hg3)
      have hfill:=hnext w3 hown3 hg3
      go_roundw
      case rel=>exact ⟨k+1,by omega,by go_num,hfill,bGrown (bTrans hb hb2) hg3 (by simp)⟩
      case measure=>simp [intOf];omega
    · obtain ⟨fs,ho,hf⟩:=hfill.full hr.len hlt
      go_wp2
      go_ret
      exact ⟨_,_,_,rfl,ho,hf,hb⟩

theorem eqChannelS_k (A A2:Option Addr) (n n2 c c2:Nat) (l:List (Chan)) (w:World) (hm:sumBulk Chan.num l≤4194304) (hr:RdSl RdCe w A n 6 l) (hr2:RdSl RdCe w A2 n2 6 l) :
    Calls Tryz.prog 113 #[.slice A n c,.slice A2 n2 c2] w fun e w'=>e=rBool true∧Below w.heap.size w w':=by
  obtain rfl:n=n2:=hr.len.out.symm.trans hr2.len.out
  have hn:n≤4194304:=by have:=hr.len.out;have:=sum_one (c:=Chan.num) (fun x=>by unfold Chan.num;omega) l;omega
  have HM:=Lib.hid hm
  clear hm
  go_enter Tryz.func113,Tryz.ntmps113
  go_wp2
  go_loopw [5,25] (fun i t0 wr=>∃ (k:Nat),k≤n∧i=.int .i64 k∧Below w.heap.size w wr) (fun i _ _=>n - (intOf i).toNat)
  case atStart=>exact ⟨0,by omega,rfl,Below.refl _ _⟩
  case round =>
    obtain ⟨k,hk,rfl,hb⟩:=hrel
    by_cases hlt:k < n
    · obtain ⟨x,csv,g,off,hx,rfl,hRv,hcv⟩:=RdSl.at_ (hr.below (R:=RdCe) RdCe.below hb) hlt
      obtain ⟨v,rfl,hRdv,hLnv⟩:=hRv
      have g0:wr.cell? ⟨g,off+k * 6,none⟩=some (.slice v.q.A v.q.n v.q.c):=hcv 0 _ rfl
      have g1:wr.cell? ⟨g,off+k * 6+1,none⟩=some (.int .i64 x.base):=hcv 1 _ rfl
      have g2:wr.cell? ⟨g,off+k * 6+2,none⟩=some (.int .i64 x.expected):=hcv 2 _ rfl
      have g3:wr.cell? ⟨g,off+k * 6+3,none⟩=some (.slice v.i.A v.i.n v.i.c):=hcv 3 _ rfl
      have g4:wr.cell? ⟨g,off+k * 6+4,none⟩=some (.slice v.n.A v.n.n v.n.c):=hcv 4 _ rfl
      have g5:wr.cell? ⟨g,off+k * 6+5,none⟩=some (.slice v.a.A v.a.n v.a.c):=hcv 5 _ rfl
      clear hcv
      obtain ⟨x2,csv2,g2,off2,hx2,rfl,hRv2,hcv2⟩:=RdSl.at_ (hr2.below (R:=RdCe) RdCe.below hb) hlt
      obtain ⟨v2,rfl,hRdv2,hLnv2⟩:=hRv2
      have k0:wr.cell? ⟨g2,off2+k * 6,none⟩=some (.slice v2.q.A v2.q.n v2.q.c):=hcv2 0 _ rfl
      have k1:wr.cell? ⟨g2,off2+k * 6+1,none⟩=some (.int .i64 x2.base):=hcv2 1 _ rfl
      have k2:wr.cell? ⟨g2,off2+k * 6+2,none⟩=some (.int .i64 x2.expected):=hcv2 2 _ rfl
      have k3:wr.cell? ⟨g2,off2+k * 6+3,none⟩=some (.slice v2.i.A v2.i.n v2.i.c):=hcv2 3 _ rfl
      have k4:wr.cell? ⟨g2,off2+k * 6+4,none⟩=some (.slice v2.n.A v2.n.n v2.n.c):=hcv2 4 _ rfl
      have k5:wr.cell? ⟨g2,off2+k * 6+5,none⟩=some (.slice v2.a.A v2.a.n v2.a.c):=hcv2 5 _ rfl
      clear hcv2
      obtain rfl:x=x2:=Option.some.inj (hx.out.symm.trans hx2.out)
      have hfew:=few_Ce (Nat.le_trans (mem_bulk (c:=Chan.num) (List.mem_of_getElem? hx.out)) HM.out)
      have h0:(0:Int)≤(k:Int):=by omega
      have h1:(k:Int) < (n:Int):=by omega
      go_wp2_with fail
      go_region_held3 (fun w'=>w'.cell? ⟨g,off+k * 6,none⟩=some (.slice v.q.A v.q.n v.q.c)∧w'.cell? ⟨g,off+k * 6+1,none⟩=some (.int .i64 x.base)∧w'.cell? ⟨g,off+k * 6+2,none⟩=some (.int .i64 x.expected)∧w'.cell? ⟨g,off+k * 6+3,none⟩=some (.slice v.i.A v.i.n v.i.c)∧w'.cell? ⟨g,off+k * 6+4,none⟩=some (.slice v.n.A v.n.n v.n.c)∧w'.cell? ⟨g,off+k * 6+5,none⟩=some (.slice v.a.A v.a.n v.a.c)∧w'.cell? ⟨g2,off2+k * 6,none⟩=some (.slice v2.q.A v2.q.n v2.q.c)∧w'.cell? ⟨g2,off2+k * 6+1,none⟩=some (.int .i64 x.base)∧w'.cell? ⟨g2,off2+k * 6+2,none⟩=some (.int .i64 x.expected)∧w'.cell? ⟨g2,off2+k * 6+3,none⟩=some (.slice v2.i.A v2.i.n v2.i.c)∧w'.cell? ⟨g2,off2+k * 6+4,none⟩=some (.slice v2.n.A v2.n.n v2.n.c)∧w'.cell? ⟨g2,off2+k * 6+5,none⟩=some (.slice v2.a.A v2.a.n v2.a.c))
        (first | go_keep | ((repeat' apply And.intro) <;> exact bCell hb1 (by assumption))) ((go_at_call 156;refine Calls.mono (eqChannel_k v v2 x _ hfew (RdC.below hRdv (bDrew (Below.refl _ _))) (RdC.below hRdv2 (bDrew (Below.refl _ _)))) ?_;rintro e w1 ⟨rfl,hb1⟩))
      go_wp2_with fail
      go_roundw
      case rel=>exact ⟨k+1,by omega,by go_num,bTrans (bDrew hb) hb1⟩
      case measure=>simp [intOf];omega
    · go_wp2
      go_ret
      exact ⟨rfl,hb⟩

theorem szChannelSS_k (A:Option Addr) (n c:Nat) (l:List (List Chan)) (left:Int) (w:World) (h1:0≤left) (h2:left≤4194304) (hn:n≤maxLen) (hok:∀ x∈l,okCs x) (hr:RdSl RdCs w A n 1 l) :
    Calls Tryz.prog 54 #[.slice A n c,.int .i64 left] w fun e w'=>SzPost left (n+sumBulk bulkCs l) e∧Below w.heap.size w w':=by
  unfold maxLen at hn
  go_enter Tryz.func54,Tryz.ntmps54
  go_wp2
  · go_ret
    exact ⟨⟨_,rfl,.inl rfl⟩,Below.refl _ _⟩
  · go_loopw [1,5,23] (fun le i t0 wr=>∃ (k:Nat) (lf:Int),k≤n∧i=.int .i64 k∧le=.int .i64 lf∧0≤lf∧lf≤4194304∧Hid (lf+(sumBulk bulkCs l:Int)=left - n+(sumBulk bulkCs (l.drop k):Int))∧Below w.heap.size w wr) (fun _ i _ _=>n - (intOf i).toNat)
    case atStart=>exact ⟨0,left - n,by omega,rfl,by go_num,by omega,by omega,by simp [Hid],Below.refl _ _⟩
    case round =>
      obtain ⟨k,lf,hk,rfl,rfl,h3,h4,he,hb⟩:=hrel
      by_cases hlt:k < n
      · obtain ⟨x,csv,g,off,hx,rfl,hRv,hcv⟩:=RdSl.at_ (hr.below (R:=RdCs) RdCs.below hb) hlt
        obtain ⟨v,rfl,hRdv,hLnv⟩:=hRv
        have g0:wr.cell? ⟨g,off+k,none⟩=some (.slice v.A v.n v.c):=by simpa using hcv 0 _ rfl
        clear hcv
        have hd:=Lib.hid (drop_at hx)
        have hm:=hok x (List.mem_of_getElem? hx.out)
        have hbx:Hid (bulkCs x=v.n+sumBulk bulkC x):=by unfold bulkCs;rw [hRdv.len.out];rfl
        go_wp2_with fail
        refine Calls.mono (szChannelS_k v.A v.n v.c x _ _ h3 h4 hLnv hm ?_) ?_
        · exact RdSl.below (R:=RdCe) RdCe.below hRdv (by repeat (first | with_reducible exact Below.refl _ _ | with_reducible refine bAlloc ?_ _ | with_reducible refine bDrew ?_))
        rintro e w1 ⟨⟨r,rfl,hp⟩,hb1⟩
        have hb2:Below wr.heap.size wr w1:=bTrans (by repeat (first | with_reducible exact Below.refl _ _ | with_reducible refine bAlloc ?_ _ | with_reducible refine bDrew ?_)) hb1
        rcases hp with rfl | ⟨hp0,hp1⟩
        · go_wp2_with fail
          go_ret
          exact ⟨⟨_,rfl,.inl rfl⟩,bTrans hb hb2⟩
        · have hp2:r≤4194304:=by have:=hp1.out;omega
          have hp1':=hp1
          clear hp1
          go_wp2_with fail
          go_roundw
          case rel=>exact ⟨k+1,r,by omega,by go_num,rfl,hp0,hp2,by have:=he.out;have:=hp1'.out;have:=hbx.out;rw [hd.out] at *;simp only [Hid,sumBulk] at *;omega,bTrans hb hb2⟩
          case measure=>simp [intOf];omega
      · have hd:=Lib.hid (drop_end hr.len hlt)
        go_wp2
        go_ret
        refine ⟨⟨_,rfl,.inr ⟨h3,?_⟩⟩,hb⟩
        have:=he.out;rw [hd.out] at this;simp only [Hid,sumBulk] at *;omega

theorem info_ChannelSS:(Tryz.prog.info? 71).map (fun i=>(i.zero,i.size,i.bytes))=some (some (.slice none 0 0),1,24):=by kernel_rfl
theorem size_ChannelSS:(Tryz.prog.info? 71).map (·.size)=some 1:=by kernel_rfl
def zeroChannelSS:List Value:=[.slice none 0 0]
theorem toChannelSS_k (A:Option Addr) (n c:Nat) (l:List (List Chan)) (w:World) (hm:sumBulk numCs l≤4194304) (hr:RdSl RdCs w A n 1 l) :
    Calls Tryz.prog 61 #[.slice A n c] w fun e w'=>∃ A' c' fs,e=.returned (.slice A' n c')∧OwSl KCs w' fs 71 1 A' n c' l∧Fresh w.heap.size w' fs∧Below w.heap.size w w':=by
  obtain ⟨i0,hi,hz0,hz1,hz2⟩:=info_parts info_ChannelSS
  have hn:n≤4194304:=by have:=hr.len.out;have:=sum_one (c:=numCs) (fun x=>by unfold numCs;omega) l;omega
  have HM:=Lib.hid hm
  clear hm
  go_enter Tryz.func61,Tryz.ntmps61
  go_wp2_with (refine wpList_make rfl (.tmp 6) (.tmp 6) _ rfl w.heap.size 71 1 24 i0 _ Tryz.underlying26 hi hz0 hz1 hz2 .i64 .i64 n rfl rfl zeroChannelSS rfl rfl (by omega) (by omega) (by simp only [maxLen];omega) (Nat.le_refl _) ?_;intro w1 hown1 hg1)
  have hb1:=bGrown (Below.refl _ _) hg1 (by simp)
  have hfill:FillK KCs zeroChannelSS 71 1 w w1 n l 0:=FillK.zero hown1
  clear hown1
  go_loopw [4,20] (fun i t0 wr=>∃ (k:Nat),k≤n∧i=.int .i64 k∧FillK KCs zeroChannelSS 71 1 w wr n l k∧Below w.heap.size w wr) (fun i _ _=>n - (intOf i).toNat)
  case atStart=>exact ⟨0,by omega,rfl,hfill,hb1⟩
  case round =>
    obtain ⟨k,hk,rfl,hfill,hb⟩:=hrel
    by_cases hlt:k < n
    · obtain ⟨x,csv,g,off,hx,rfl,hRv,hcv⟩:=RdSl.at_ (hr.below (R:=RdCs) RdCs.below hb) hlt
      obtain ⟨v,rfl,hRdv,hLnv⟩:=hRv
      have g0:wr.cell? ⟨g,off+k,none⟩=some (.slice v.A v.n v.c):=by simpa using hcv 0 _ rfl
      clear hcv
      have hfew:=few_Cs (Nat.le_trans (mem_bulk (c:=numCs) (List.mem_of_getElem? hx.out)) HM.out)
      go_wp2_with fail
      refine Calls.mono (toChannelS_k v.A v.n v.c x _ hfew ?_) ?_
      · exact RdSl.below (R:=RdCe) RdCe.below hRdv (by repeat (first | with_reducible exact Below.refl _ _ | with_reducible refine bAlloc ?_ _ | with_reducible refine bDrew ?_))
      rintro e w2 ⟨A2,c2,fs2,rfl,ho2,hf2,hb1⟩
      have hb2:Below wr.heap.size wr w2:=bTrans (by repeat (first | with_reducible exact Below.refl _ _ | with_reducible refine bAlloc ?_ _ | with_reducible refine bDrew ?_)) hb1
      have hf3:Fresh wr.heap.size w2 _:=hf2.rebase (by first | exact Nat.le_refl _ | (simp;done) | (simp;omega))
      obtain ⟨css,hown2,hnext⟩:=hfill.step (f:=_) (cs:=[.slice A2 v.n c2]) loc_Cs hx hlt hb2 ⟨⟨A2,v.n,c2⟩,rfl,ho2⟩ hf3
      clear hfill hf2 hf3
      go_wp2_with (refine wpList_store_elem rfl _ (.tmp 21) (.tmp 20) rfl w.heap.size 71 1 n n w.heap.size k _ (by first | rfl | omega) _ rfl _ ([.slice A2 v.n c2]) rfl rfl rfl (one_of rfl) size_ChannelSS hown2 hlt ?_;intro w3 hown3 hg3)
      have hfill:=hnext w3 hown3 hg3
      go_roundw
      case rel=>exact ⟨k+1,by omega,by go_num,hfill,bGrown (bTrans hb hb2) hg3 (by simp)⟩
      case measure=>simp [intOf];omega
    · obtain ⟨fs,ho,hf⟩:=hfill.full hr.len hlt
      go_wp2
      go_ret
      exact ⟨_,_,_,rfl,ho,hf,hb⟩

theorem eqChannelSS_k (A A2:Option Addr) (n n2 c c2:Nat) (l:List (List Chan)) (w:World) (hm:sumBulk numCs l≤4194304) (hr:RdSl RdCs w A n 1 l) (hr2:RdSl RdCs w A2 n2 1 l) :
    Calls Tryz.prog 63 #[.slice A n c,.slice A2 n2 c2] w fun e w'=>e=rBool true∧Below w.heap.size w w':=by
  obtain rfl:n=n2:=hr.len.out.symm.trans hr2.len.out
  have hn:n≤4194304:=by have:=hr.len.out;have:=sum_one (c:=numCs) (fun x=>by unfold numCs;omega) l;omega
  have HM:=Lib.hid hm
  clear hm
  go_enter Tryz.func63,Tryz.ntmps63
  go_wp2
  go_loopw [5,25] (fun i t0 wr=>∃ (k:Nat),k≤n∧i=.int .i64 k∧Below w.heap.size w wr) (fun i _ _=>n - (intOf i).toNat)
  case atStart=>exact ⟨0,by omega,rfl,Below.refl _ _⟩
  case round =>
    obtain ⟨k,hk,rfl,hb⟩:=hrel
    by_cases hlt:k < n
    · obtain ⟨x,csv,g,off,hx,rfl,hRv,hcv⟩:=RdSl.at_ (hr.below (R:=RdCs) RdCs.below hb) hlt
      obtain ⟨v,rfl,hRdv,hLnv⟩:=hRv
      have g0:wr.cell? ⟨g,off+k,none⟩=some (.slice v.A v.n v.c):=by simpa using hcv 0 _ rfl
      clear hcv
      obtain ⟨x2,csv2,g2,off2,hx2,rfl,hRv2,hcv2⟩:=RdSl.at_ (hr2.below (R:=RdCs) RdCs.below hb) hlt
      obtain ⟨v2,rfl,hRdv2,hLnv2⟩:=hRv2
      have k0:wr.cell? ⟨g2,off2+k,none⟩=some (.slice v2.A v2.n v2.c):=by simpa using hcv2 0 _ rfl
      clear hcv2
      obtain rfl:x=x2:=Option.some.inj (hx.out.symm.trans hx2.out)
      have hfew:=few_Cs (Nat.le_trans (mem_bulk (c:=numCs) (List.mem_of_getElem? hx.out)) HM.out)
      have h0:(0:Int)≤(k:Int):=by omega
      have h1:(k:Int) < (n:Int):=by omega
      go_wp2_with fail
      go_region_held3 (fun w'=>w'.cell? ⟨g,off+k,none⟩=some (.slice v.A v.n v.c)∧w'.cell? ⟨g2,off2+k,none⟩=some (.slice v2.A v2.n v2.c))
        (first | go_keep | ((repeat' apply And.intro) <;> exact bCell hb1 (by assumption))) ((go_at_call 113;refine Calls.mono (eqChannelS_k v.A v2.A v.n v2.n v.c v2.c x _ hfew (RdSl.below (R:=RdCe) RdCe.below hRdv (bDrew (Below.refl _ _))) (RdSl.below (R:=RdCe) RdCe.below hRdv2 (bDrew (Below.refl _ _)))) ?_;rintro e w1 ⟨rfl,hb1⟩))
      go_wp2_with fail
      go_roundw
      case rel=>exact ⟨k+1,by omega,by go_num,bTrans (bDrew hb) hb1⟩
      case measure=>simp [intOf];omega
    · go_wp2
      go_ret
      exact ⟨rfl,hb⟩


theorem team_end {w w1 w2 X1 X2:World} {vr vc:Sv} {fr fc:List Nat} {t:Team} (H:Below w.heap.size w w1) (hz:w.heap.size+3≤w1.heap.size)
    (hor:OwSl KRo w1 fr 47 2 vr.A vr.n vr.c t.robots) (hlo:Hid (∀ q∈fr,w.heap.size+3≤q)) (hfr:Fresh 0 w1 fr) (u1:Upd [w.heap.size+1,w.heap.size+1+1] w1 X1) (hb2:Below X1.heap.size X1 w2)
    (hoc:OwSl KCs w2 fc 71 1 vc.A vc.n vc.c t.channels) (hfc:Fresh X1.heap.size w2 fc) (u2:Upd [w.heap.size+1,w.heap.size+1+1] w2 X2) :
    OwT X2 ⟨vr,vc,fr,fc⟩ t∧Fresh w.heap.size X2 (fpT ⟨vr,vc,fr,fc⟩)∧Below w.heap.size w X2:=by
  have U1:=(u1.then_below hb2).trans u2
  have a0:∀ k∈[w.heap.size+1,w.heap.size+1+1],k < w.heap.size+3:=by intro k hk;simp at hk;omega
  have s1:=u1.size;have s2:=u2.size;have y2:=hb2.size
  refine ⟨⟨hor.upd loc_Ro U1 (fun k hk hm=>by have h1:=hlo.out k hk;have h2:=a0 k hm;omega),hoc.upd loc_Cs u2 (fun k hk hm=>by have h1:=hfc.lo k hk;have h2:=a0 k hm;omega)⟩,?_,bUpd H U1 (fun k hk=>by simp at hk;omega)⟩
  have hfr':Fresh w.heap.size w1 fr:=⟨hfr.nodup,fun g hg=>by have:=hlo.out g hg;omega,hfr.hi⟩
  exact hfr'.then_ (hfc.grow s2) (by omega) (by omega) (by omega)
theorem szTeam_k (v:TV) (t:Team) (left:Int) (w:World) (h1:0≤left) (h2:left≤4194304) (hl:lenT v) (hok:okT t) (hr:RdT w v t) :
    Calls Tryz.prog 19 #[vTeam v,.int .i64 left] w fun e w'=>SzPost left (bulkT t) e∧Below w.heap.size w w':=by
  have e0:=hr.r.len;have e1:=hr.c.len
  obtain ⟨l0,l1⟩:=hl
  obtain ⟨o0,o1⟩:=hok
  go_enter Tryz.func19,Tryz.ntmps19
  go_wp2_with fail
  refine Calls.mono (szRobotS_k v.r.A v.r.n v.r.c t.robots left _ h1 h2 l0 o0 ?_) ?_
  · exact hr.r.below (R:=RdRo) RdRo.below (bAlloc (Below.refl _ _) _)
  rintro e w1 ⟨⟨r0,rfl,hp⟩,hb1⟩
  have hk:=bBox hb1 w.heap.size (by simp)
  have H:=bTrans (bAlloc (Below.refl w.heap.size w) _) hb1
  rcases hp with rfl | ⟨p0,s0⟩
  · go_wp2_with fail
    go_ret
    exact ⟨⟨_,rfl,.inl rfl⟩,H⟩
  have q0:r0≤4194304:=by have:=s0.out;omega
  have n0:¬ r0 < 0:=by omega
  go_wp2_with fail
  refine Calls.mono (szChannelSS_k v.c.A v.c.n v.c.c t.channels r0 _ p0 q0 l1 o1 ?_) ?_
  · exact hr.c.below (R:=RdCs) RdCs.below H
  rintro e w2 ⟨⟨r1,rfl,hp⟩,hb2⟩
  have H:=bTrans H hb2
  rcases hp with rfl | ⟨p1,s1⟩
  · go_wp2_with fail
    go_ret
    exact ⟨⟨_,rfl,.inl rfl⟩,H⟩
  have n1:¬ r1 < 0:=by omega
  go_wp2_with fail
  go_ret
  refine ⟨⟨_,rfl,.inr ⟨p1,?_⟩⟩,H⟩
  have:=s0.out;have:=s1.out;have:=e0.out;have:=e1.out
  unfold bulkT Hid;push_cast;omega
theorem fewT_parts {t:Team} (h:fewT t):sumBulk Robot.num t.robots≤4194304∧sumBulk numCs t.channels≤4194304:=by unfold fewT numT at h;omega
theorem toTeam_k (v:TV) (t:Team) (w:World) (hm:fewT t) (hr:RdT w v t) :
    Calls Tryz.prog 21 #[vTeam v] w fun e w'=>∃ v':TV,e=.returned (vTeam v')∧OwT w' v' t∧Fresh w.heap.size w' (fpT v')∧Below w.heap.size w w':=by
  obtain ⟨m0,m1⟩:=fewT_parts hm
  go_enter Tryz.func21,Tryz.ntmps21
  go_wp2_with fail
  refine Calls.mono (toRobotS_k v.r.A v.r.n v.r.c t.robots _ m0 ?_) ?_
  · exact hr.r.below (R:=RdRo) RdRo.below (by repeat (first | with_reducible exact Below.refl _ _ | with_reducible refine bAlloc ?_ _))
  rintro e w1 ⟨A1,c1,fr,rfl,ho1,hf1,hb1⟩
  have H:=bTrans (by repeat (first | with_reducible exact Below.refl _ _ | with_reducible refine bAlloc ?_ _):Below w.heap.size w _) hb1
  have H1:=H
  have hz1:w.heap.size+3≤w1.heap.size:=by have:=hb1.size;simp at this;omega
  have hlo:Hid (∀ q∈fr,w.heap.size+3≤q):=fun q hq=>by have h1:=hf1.lo q hq;simp at h1;omega
  have k0:=bBox hb1 (w.heap.size) (by simp;try omega)
  have k1:=bBox hb1 (w.heap.size+1) (by simp;try omega)
  have k2:=bBox hb1 (w.heap.size+1+1) (by simp;try omega)
  have f1:=bBoxF hb1 (w.heap.size+1) (by simp;try omega)
  have f2:=bBoxF hb1 (w.heap.size+1+1) (by simp;try omega)
  go_wp2_with fail
  refine Calls.mono (toChannelSS_k v.c.A v.c.n v.c.c t.channels _ m1 ?_) ?_
  · exact hr.c.below (R:=RdCs) RdCs.below (by repeat (first | exact H | refine bSet ?_ (by simp;omega) _))
  rintro e w2 ⟨A2,c2,fc,rfl,ho2,hf2,hb2⟩
  have H:=bTrans (by repeat (first | exact H | refine bSet ?_ (by simp;omega) _):Below w.heap.size w _) hb2
  have hz2:w.heap.size+3≤w2.heap.size:=by have:=hb2.size;simp at this;omega
  have k20:=bBox hb2 (w.heap.size) (by simp;try omega)
  have k21:=bBox hb2 (w.heap.size+1) (by simp;try omega)
  have k22:=bBox hb2 (w.heap.size+1+1) (by simp;try omega)
  have f21:=bBoxF hb2 (w.heap.size+1) (by simp;try omega)
  have f22:=bBoxF hb2 (w.heap.size+1+1) (by simp;try omega)
  go_wp2_with fail
  refine bodyPost_ret (v:=vTeam ⟨⟨A1,v.r.n,c1⟩,⟨A2,v.c.n,c2⟩,fr,fc⟩) (by simp [*,results,Tryz.results21,go_sem]) rfl ⟨_,rfl,?_⟩
  exact team_end H1 hz1 ho1 hlo (hf1.rebase (Nat.zero_le _)) (by repeat (first | with_reducible exact Upd.refl _ _ | (with_reducible refine Upd.set_in ?_ ?_ _);rotate_left;simp)) hb2 ho2 hf2 (by repeat (first | with_reducible exact Upd.refl _ _ | (with_reducible refine Upd.set_in ?_ ?_ _);rotate_left;simp))
theorem eqTeam_k (v v2:TV) (t:Team) (w:World) (hm:fewT t) (hr:RdT w v t) (hr2:RdT w v2 t) :
    Calls Tryz.prog 22 #[vTeam v,vTeam v2] w fun e w'=>e=rBool true∧Below w.heap.size w w':=by
  obtain ⟨m0,m1⟩:=fewT_parts hm
  go_enter Tryz.func22,Tryz.ntmps22
  go_wp2_with fail
  refine Calls.mono (eqRobotS_k v.r.A v2.r.A v.r.n v2.r.n v.r.c v2.r.c t.robots _ m0 ?_ ?_) ?_
  · exact hr.r.below (R:=RdRo) RdRo.below (bAlloc (bAlloc (Below.refl _ _) _) _)
  · exact hr2.r.below (R:=RdRo) RdRo.below (bAlloc (bAlloc (Below.refl _ _) _) _)
  rintro e w1 ⟨rfl,hb1⟩
  have H:=bTrans (bAlloc (bAlloc (Below.refl _ _) _) _) hb1
  have k1:=bBox hb1 (w.heap.size) (by simp;try omega)
  have k2:=bBox hb1 (w.heap.size+1) (by simp;try omega)
  go_wp2_with fail
  refine Calls.mono (eqChannelSS_k v.c.A v2.c.A v.c.n v2.c.n v.c.c v2.c.c t.channels _ m1 ?_ ?_) ?_
  · exact hr.c.below (R:=RdCs) RdCs.below H
  · exact hr2.c.below (R:=RdCs) RdCs.below H
  rintro e w2 ⟨rfl,hb2⟩
  go_wp2_with fail
  go_ret
  exact ⟨rfl,bTrans H hb2⟩
theorem each_of {α:Type} {R:List Value→α→Prop} {ok:α→Prop}:∀ (css:List (List Value)),(∀ es∈css,∃ x,R es x∧ok x)→∃ fss l,Each (fun _ cs x=>R cs x) fss css l∧∀ x∈l,ok x
  | [],_=>⟨[],[],trivial,by simp⟩
  | e :: r,h=>by
    obtain ⟨x,h1,h2⟩:=h e (by simp)
    obtain ⟨fss,l,h3,h4⟩:=each_of r (fun es hes=>h es (by simp [hes]))
    exact ⟨[] :: fss,x :: l,⟨h1,h3⟩,fun y hy=>by rcases List.mem_cons.1 hy with rfl | hy;exact h2;exact h4 y hy⟩
theorem rdSl_of {α:Type} {R:World→List Value→α→Prop} {ok:α→Prop} {w:World} {sz:Nat} {good:List Value→Prop} {cs:List Value} (h:gSlice w sz good cs) (hg:∀ es,good es→∃ x,R w es x∧ok x) :
    ∃ (v:Sv) (l:List α),cs=[.slice v.A v.n v.c]∧v.n≤maxLen∧RdSl R w v.A v.n sz l∧∀ x∈l,ok x:=by
  obtain ⟨A,n,c,css,rfl,h1,h2,h3,h4⟩:=h
  obtain ⟨fss,l,h5,h6⟩:=each_of (R:=R w) css (fun es hes=>hg es (h4 es hes).2)
  exact ⟨⟨A,n,c⟩,l,rfl,Nat.le_trans h1 h2,⟨css,fss,h3,h5⟩,h6⟩
theorem cells_facSl:Tryz.prog.cellsOf 141=1:=by kernel_rfl
theorem cells_Robot:Tryz.prog.cellsOf 143=2:=by kernel_rfl
def gRobot (w:World) (cs:List Value):Prop:=∃ r:Robot,RdRo w cs r∧r.ok
theorem opens_Robot (w:World):Opens Tryz.prog w 143 (gRobot w):=fun H enc base fuel spare held cs x h=>by
  obtain ⟨hl,hf⟩:=opens_field Tryz.underlying143 h
  rw [cells_Robot] at hl
  obtain ⟨a,b,rfl⟩:=len2 hl
  obtain ⟨A,n,c,l,e0,h1,h2,h3⟩:=rowF_of (hf 0 _ _ rfl (opens_FactorS w))
  obtain ⟨s,e1,w1⟩:=hf 1 _ gStr rfl (opens_str Tryz.underlying9)
  simp [cells_string,cells_facSl] at e0 e1
  subst e0 e1
  exact ⟨⟨l,s⟩,⟨⟨A,n,c⟩,rfl,h2,h1⟩,h3,w1⟩
theorem cells_chS:Tryz.prog.cellsOf 145=1:=by kernel_rfl
theorem cells_chSS:Tryz.prog.cellsOf 51=1:=by kernel_rfl
theorem cells_roS:Tryz.prog.cellsOf 50=1:=by kernel_rfl
theorem cells_Team:Tryz.prog.cellsOf 53=2:=by kernel_rfl
def gTeam (w:World) (cs:List Value):Prop:=∃ (v:TV) (t:Team),cs=[.slice v.r.A v.r.n v.r.c,.slice v.c.A v.c.n v.c.c]∧RdT w v t∧okT t∧lenT v
theorem opens_Team (w:World):Opens Tryz.prog w 53 (gTeam w):=fun H enc base fuel spare held cs x h=>by
  obtain ⟨hl,hf⟩:=opens_field Tryz.underlying53 h
  rw [cells_Team] at hl
  obtain ⟨a,b,rfl⟩:=len2 hl
  obtain ⟨vr,l0,e0,n0,r0,k0⟩:=rdSl_of (R:=RdRo) (ok:=Robot.ok) (hf 0 _ _ rfl (opens_slice Tryz.underlying50 cells_Robot (opens_Robot w) (by omega))) (fun es h=>h)
  obtain ⟨vc,l1,e1,n1,r1,k1⟩:=rdSl_of (R:=RdCs) (ok:=okCs) (hf 1 _ _ rfl (opens_slice Tryz.underlying51 cells_chS (opens_slice Tryz.underlying145 cells_Channel (opens_Channel w) (by omega)) (by omega)))
    (fun es h=>by
      obtain ⟨v,l,rfl,h1,h2,h3⟩:=rdSl_of (R:=RdCe) (ok:=okC) h (fun es ⟨v,c,h1,h2,h3,h4⟩=>⟨c,⟨v,h1,h2,h4⟩,h3⟩)
      exact ⟨l,⟨v,rfl,h2,h1⟩,h3⟩)
  simp [cells_roS,cells_chSS] at e0 e1
  subst e0 e1
  exact ⟨⟨vr,vc,[],[]⟩,⟨l0,l1⟩,rfl,⟨r0,r1⟩,⟨k0,k1⟩,n0,n1⟩
end Go.Proofs.YtdfemnffpaopfaaGreatDoor
