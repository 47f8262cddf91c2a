/- Texts of this proof, one behind the other: NmOf, NmOf2. -/
import Derived.Test.YtdfemnffpaopfaaGreatDoorGrs8
namespace Go.Proofs.YtdfemnffpaopfaaGreatDoor
open Go.RowKit
set_option linter.unusedVariables false
set_option linter.unusedSimpArgs false
set_option maxHeartbeats 800000
set_option maxRecDepth 100000
def NmOfInv (l:List Factor) (k:Nat) (L:List ByteArray):Prop:=namesOf l=(l.drop k).foldl namesF L
theorem NmOfInv.start (l:List Factor):NmOfInv l 0 []:=rfl
theorem NmOfInv.step {l:List Factor} {k:Nat} {L:List ByteArray} {f:Factor} (h:NmOfInv l k L) (hf:Hid (l[k]? = some f)):NmOfInv l (k+1) (namesF L f):=by
  unfold NmOfInv at *;rw [h,drop_at hf];rfl
theorem NmOfInv.done {l:List Factor} {k n:Nat} {L:List ByteArray} (h:NmOfInv l k L) (hl:Hid (l.length=n)) (hk:¬ k < n):Hid (namesOf l=L):=by
  unfold NmOfInv at h;rw [Hid,h,drop_end hl hk];rfl
theorem addNm_empty {L:List ByteArray} {s:ByteArray} (h:Hid (s.toList.isEmpty=true)):addNm L s=L:=by simp [addNm,h.out]
theorem addNm_has {L:List ByteArray} {s:ByteArray} (h:Hid (hasStr L s=true)):addNm L s=L:=by simp [addNm,h.out]
theorem addNm_new {L:List ByteArray} {s:ByteArray} (h:Hid (s.toList.isEmpty=false)) (h2:Hid (hasStr L s=false)):addNm L s=L++[s]:=by simp [addNm,h.out,h2.out]
theorem strs_snoc (L:List ByteArray) (s:ByteArray):L.map strCells++[strCells s]=(L++[s]).map strCells:=by simp
def StrsPost (w:World) (e:Ending) (w':World) (L:List ByteArray) (t:TypeId) (m:Nat):Prop:=∃ v:Sv,e=.returned (.slice v.A v.n v.c)∧Own w' w.heap.size t 1 v.A v.n v.c (L.map strCells)∧Below w.heap.size w w'∧v.n≤m
theorem impl_NamesOf_c (A:Option Addr) (n c:Nat) (l:List Factor) (w:World) (hn:n≤100000) (hr:RowF w A n l) :
    Calls Tryz.prog 101 #[.slice A n c] w fun e w'=>StrsPost w e w' (namesOf l) 9 (2 * n):=by
  obtain ⟨i0,hii,hq0,hq1,hq2⟩:=info_parts info_String
  go_enter Tryz.func101,Tryz.ntmps101
  go_wp2
  go_loopw [9,3] (fun i v wr=>∃ (k:Nat) (A':Option Addr) (n' c':Nat) (L:List ByteArray),k≤n∧n'≤2 * k∧i=.int .i64 k∧v=.slice A' n' c'∧Own wr w.heap.size 9 1 A' n' c' (L.map strCells)∧NmOfInv l k L∧Below w.heap.size w wr) (fun i _ _=>n - (intOf i).toNat)
  case atStart=>exact ⟨0,_,0,0,[],by omega,by omega,rfl,rfl,Own.made0 w 9 1 (Nat.le_refl _),NmOfInv.start l,bAlloc (Below.refl _ _) _⟩
  case round =>
    obtain ⟨k,A',n',c',L,hk,hnk,rfl,rfl,hown,hi,hb⟩:=hrel
    by_cases hlt:k < n
    · obtain ⟨f,g,off,hf,rfl,g0,g1,g2,g3,g4,g5,g6,g7⟩:=RowF.at_ (hr.below hb) hlt
      have hst:=Lib.hid (hi.step hf)
      clear hi
      generalize hfe:f.frm.toList.isEmpty=fe
      generalize hte:f.to.toList.isEmpty=te
      have HF:=Lib.hid hfe
      have HT:=Lib.hid hte
      clear hfe hte
      cases fe
      · have hx0:¬ f.frm.toList=[]:=by have:=HF.out;simpa using this
        have hy0:(!f.frm.toList.isEmpty)=true:=by rw [HF.out];rfl
        have hz0:f.frm.toList.isEmpty=false:=HF.out
        generalize hh0:hasStr L f.frm=b0
        have HS0:=Lib.hid hh0
        clear hh0
        cases b0
        · have e0:=addNm_new HF HS0
          cases te
          · have hx1:¬ f.to.toList=[]:=by have:=HT.out;simpa using this
            have hy1:(!f.to.toList.isEmpty)=true:=by rw [HT.out];rfl
            have hz1:f.to.toList.isEmpty=false:=HT.out
            generalize hh1:hasStr (L++[f.frm]) f.to=b1
            have HS1:=Lib.hid hh1
            clear hh1
            cases b1
            · have e1:=addNm_new HT HS1
              go_wp2_with fail
              refine Calls.mono (hasString_c _ _ _ L f.frm _ (by omega) (hown.alloc_ _).row) ?_
              rintro e wx ⟨rfl,rfl⟩
              rw [HS0.out]
              go_wp2_with (at_builtin;refine wpList_append rfl (.tmp 23) (.tmp 26) 81 rfl w.heap.size 9 1 16 i0 _ Tryz.underlying81 hii hq0 hq1 hq2 rfl (by omega) A' n' c' _ rfl ((hown.alloc_ _).alloc_ _) _ 1 1 [strCells f.frm] rfl (Row.new1' _ _ _ 1 _ (by simp)) (by simp [strCells]) (by simp [strCells,Value.oneCell']) (by simp only [maxLen];omega) (by omega) (bAlloc (bAlloc hb _) _).size ?_;intro A3 c3 w3 ho0 hg0 hat0;have hbx:=gBox hg0 wr.heap.size (by simp;try omega) (fun q hq=>by have h1:=(hown.lt q hq).2;omega);have hlw:wr.heap.size < w3.heap.size:=(by have:=hg0.size;simp at this;omega))
              have hB0:=bGrown (bAlloc (bAlloc hb _) _) hg0 (fun q hq=>(hown.lt q hq).1)
              rw [strs_snoc] at ho0
              refine Calls.mono (hasString_c _ _ _ (L++[f.frm]) f.to _ (by omega) ho0.row) ?_
              rintro e wx ⟨rfl,rfl⟩
              rw [HS1.out]
              go_wp2_with (at_builtin;refine wpList_append rfl (.tmp 38) (.tmp 41) 81 rfl w.heap.size 9 1 16 i0 _ Tryz.underlying81 hii hq0 hq1 hq2 rfl (by omega) A3 (n'+1) c3 _ rfl (ho0.alloc_ _) _ 1 1 [strCells f.to] rfl (Row.new1' _ _ _ 1 _ (by simp)) (by simp [strCells]) (by simp [strCells,Value.oneCell']) (by simp only [maxLen];omega) (by omega) (bAlloc hB0 _).size ?_;intro A4 c4 w4 ho1 hg1 hat1)
              have hB1:=bGrown (bAlloc hB0 _) hg1 (fun q hq=>(ho0.lt q hq).1)
              rw [strs_snoc] at ho1
              go_roundw
              case rel=>exact ⟨k+1,_,n'+1+1,_,((L++[f.frm])++[f.to]),by omega,by omega,by go_num,rfl,ho1,by rw [namesF,e0,e1] at hst;exact hst.out,hB1⟩
              case measure=>simp [intOf];omega
            · have e1:=addNm_has HS1
              go_wp2_with fail
              refine Calls.mono (hasString_c _ _ _ L f.frm _ (by omega) (hown.alloc_ _).row) ?_
              rintro e wx ⟨rfl,rfl⟩
              rw [HS0.out]
              go_wp2_with (at_builtin;refine wpList_append rfl (.tmp 23) (.tmp 26) 81 rfl w.heap.size 9 1 16 i0 _ Tryz.underlying81 hii hq0 hq1 hq2 rfl (by omega) A' n' c' _ rfl ((hown.alloc_ _).alloc_ _) _ 1 1 [strCells f.frm] rfl (Row.new1' _ _ _ 1 _ (by simp)) (by simp [strCells]) (by simp [strCells,Value.oneCell']) (by simp only [maxLen];omega) (by omega) (bAlloc (bAlloc hb _) _).size ?_;intro A3 c3 w3 ho0 hg0 hat0;have hbx:=gBox hg0 wr.heap.size (by simp;try omega) (fun q hq=>by have h1:=(hown.lt q hq).2;omega);have hlw:wr.heap.size < w3.heap.size:=(by have:=hg0.size;simp at this;omega))
              have hB0:=bGrown (bAlloc (bAlloc hb _) _) hg0 (fun q hq=>(hown.lt q hq).1)
              rw [strs_snoc] at ho0
              refine Calls.mono (hasString_c _ _ _ (L++[f.frm]) f.to _ (by omega) ho0.row) ?_
              rintro e wx ⟨rfl,rfl⟩
              rw [HS1.out]
              go_wp2_with fail
              go_roundw
              case rel=>exact ⟨k+1,_,n'+1,_,(L++[f.frm]),by omega,by omega,by go_num,rfl,ho0,by rw [namesF,e0,e1] at hst;exact hst.out,hB0⟩
              case measure=>simp [intOf];omega
          · have hx1:f.to.toList=[]:=by have:=HT.out;simpa using this
            have hy1:(!f.to.toList.isEmpty)=false:=by rw [HT.out];rfl
            have hz1:f.to.toList.isEmpty=true:=HT.out
            have e1:addNm (L++[f.frm]) f.to=(L++[f.frm]):=addNm_empty HT
            go_wp2_with fail
            refine Calls.mono (hasString_c _ _ _ L f.frm _ (by omega) (hown.alloc_ _).row) ?_
            rintro e wx ⟨rfl,rfl⟩
            rw [HS0.out]
            go_wp2_with (at_builtin;refine wpList_append rfl (.tmp 23) (.tmp 26) 81 rfl w.heap.size 9 1 16 i0 _ Tryz.underlying81 hii hq0 hq1 hq2 rfl (by omega) A' n' c' _ rfl ((hown.alloc_ _).alloc_ _) _ 1 1 [strCells f.frm] rfl (Row.new1' _ _ _ 1 _ (by simp)) (by simp [strCells]) (by simp [strCells,Value.oneCell']) (by simp only [maxLen];omega) (by omega) (bAlloc (bAlloc hb _) _).size ?_;intro A3 c3 w3 ho0 hg0 hat0;have hbx:=gBox hg0 wr.heap.size (by simp;try omega) (fun q hq=>by have h1:=(hown.lt q hq).2;omega);have hlw:wr.heap.size < w3.heap.size:=(by have:=hg0.size;simp at this;omega))
            have hB0:=bGrown (bAlloc (bAlloc hb _) _) hg0 (fun q hq=>(hown.lt q hq).1)
            rw [strs_snoc] at ho0
            go_roundw
            case rel=>exact ⟨k+1,_,n'+1,_,(L++[f.frm]),by omega,by omega,by go_num,rfl,ho0,by rw [namesF,e0,e1] at hst;exact hst.out,hB0⟩
            case measure=>simp [intOf];omega
        · have e0:=addNm_has HS0
          cases te
          · have hx1:¬ f.to.toList=[]:=by have:=HT.out;simpa using this
            have hy1:(!f.to.toList.isEmpty)=true:=by rw [HT.out];rfl
            have hz1:f.to.toList.isEmpty=false:=HT.out
            generalize hh1:hasStr L f.to=b1
            have HS1:=Lib.hid hh1
            clear hh1
            cases b1
            · have e1:=addNm_new HT HS1
              go_wp2_with fail
              refine Calls.mono (hasString_c _ _ _ L f.frm _ (by omega) (hown.alloc_ _).row) ?_
              rintro e wx ⟨rfl,rfl⟩
              rw [HS0.out]
              go_wp2_with fail
              refine Calls.mono (hasString_c _ _ _ L f.to _ (by omega) (hown.alloc_ _).row) ?_
              rintro e wx ⟨rfl,rfl⟩
              rw [HS1.out]
              go_wp2_with (at_builtin;refine wpList_append rfl (.tmp 38) (.tmp 41) 81 rfl w.heap.size 9 1 16 i0 _ Tryz.underlying81 hii hq0 hq1 hq2 rfl (by omega) A' n' c' _ rfl ((hown.alloc_ _).alloc_ _) _ 1 1 [strCells f.to] rfl (Row.new1' _ _ _ 1 _ (by simp)) (by simp [strCells]) (by simp [strCells,Value.oneCell']) (by simp only [maxLen];omega) (by omega) (bAlloc (bAlloc hb _) _).size ?_;intro A4 c4 w4 ho1 hg1 hat1)
              have hB1:=bGrown (bAlloc (bAlloc hb _) _) hg1 (fun q hq=>(hown.lt q hq).1)
              rw [strs_snoc] at ho1
              go_roundw
              case rel=>exact ⟨k+1,_,n'+1,_,(L++[f.to]),by omega,by omega,by go_num,rfl,ho1,by rw [namesF,e0,e1] at hst;exact hst.out,hB1⟩
              case measure=>simp [intOf];omega
            · have e1:=addNm_has HS1
              go_wp2_with fail
              refine Calls.mono (hasString_c _ _ _ L f.frm _ (by omega) (hown.alloc_ _).row) ?_
              rintro e wx ⟨rfl,rfl⟩
              rw [HS0.out]
              go_wp2_with fail
              refine Calls.mono (hasString_c _ _ _ L f.to _ (by omega) (hown.alloc_ _).row) ?_
              rintro e wx ⟨rfl,rfl⟩
              rw [HS1.out]
              go_wp2_with fail
              go_roundw
              case rel=>exact ⟨k+1,_,n',_,L,by omega,by omega,by go_num,rfl,(hown.alloc_ _),by rw [namesF,e0,e1] at hst;exact hst.out,(bAlloc hb _)⟩
              case measure=>simp [intOf];omega
          · have hx1:f.to.toList=[]:=by have:=HT.out;simpa using this
            have hy1:(!f.to.toList.isEmpty)=false:=by rw [HT.out];rfl
            have hz1:f.to.toList.isEmpty=true:=HT.out
            have e1:addNm L f.to=L:=addNm_empty HT
            go_wp2_with fail
            refine Calls.mono (hasString_c _ _ _ L f.frm _ (by omega) (hown.alloc_ _).row) ?_
            rintro e wx ⟨rfl,rfl⟩
            rw [HS0.out]
            go_wp2_with fail
            go_roundw
            case rel=>exact ⟨k+1,_,n',_,L,by omega,by omega,by go_num,rfl,(hown.alloc_ _),by rw [namesF,e0,e1] at hst;exact hst.out,(bAlloc hb _)⟩
            case measure=>simp [intOf];omega
      · have hx0:f.frm.toList=[]:=by have:=HF.out;simpa using this
        have hy0:(!f.frm.toList.isEmpty)=false:=by rw [HF.out];rfl
        have hz0:f.frm.toList.isEmpty=true:=HF.out
        have e0:addNm L f.frm=L:=addNm_empty HF
        cases te
        · have hx1:¬ f.to.toList=[]:=by have:=HT.out;simpa using this
          have hy1:(!f.to.toList.isEmpty)=true:=by rw [HT.out];rfl
          have hz1:f.to.toList.isEmpty=false:=HT.out
          generalize hh1:hasStr L f.to=b1
          have HS1:=Lib.hid hh1
          clear hh1
          cases b1
          · have e1:=addNm_new HT HS1
            go_wp2_with fail
            refine Calls.mono (hasString_c _ _ _ L f.to _ (by omega) (hown.alloc_ _).row) ?_
            rintro e wx ⟨rfl,rfl⟩
            rw [HS1.out]
            go_wp2_with (at_builtin;refine wpList_append rfl (.tmp 38) (.tmp 41) 81 rfl w.heap.size 9 1 16 i0 _ Tryz.underlying81 hii hq0 hq1 hq2 rfl (by omega) A' n' c' _ rfl ((hown.alloc_ _).alloc_ _) _ 1 1 [strCells f.to] rfl (Row.new1' _ _ _ 1 _ (by simp)) (by simp [strCells]) (by simp [strCells,Value.oneCell']) (by simp only [maxLen];omega) (by omega) (bAlloc (bAlloc hb _) _).size ?_;intro A4 c4 w4 ho1 hg1 hat1)
            have hB1:=bGrown (bAlloc (bAlloc hb _) _) hg1 (fun q hq=>(hown.lt q hq).1)
            rw [strs_snoc] at ho1
            go_roundw
            case rel=>exact ⟨k+1,_,n'+1,_,(L++[f.to]),by omega,by omega,by go_num,rfl,ho1,by rw [namesF,e0,e1] at hst;exact hst.out,hB1⟩
            case measure=>simp [intOf];omega
          · have e1:=addNm_has HS1
            go_wp2_with fail
            refine Calls.mono (hasString_c _ _ _ L f.to _ (by omega) (hown.alloc_ _).row) ?_
            rintro e wx ⟨rfl,rfl⟩
            rw [HS1.out]
            go_wp2_with fail
            go_roundw
            case rel=>exact ⟨k+1,_,n',_,L,by omega,by omega,by go_num,rfl,(hown.alloc_ _),by rw [namesF,e0,e1] at hst;exact hst.out,(bAlloc hb _)⟩
            case measure=>simp [intOf];omega
        · have hx1:f.to.toList=[]:=by have:=HT.out;simpa using this
          have hy1:(!f.to.toList.isEmpty)=false:=by rw [HT.out];rfl
          have hz1:f.to.toList.isEmpty=true:=HT.out
          have e1:addNm L f.to=L:=addNm_empty HT
          go_wp2_with fail
          go_roundw
          case rel=>exact ⟨k+1,_,n',_,L,by omega,by omega,by go_num,rfl,(hown.alloc_ _),by rw [namesF,e0,e1] at hst;exact hst.out,(bAlloc hb _)⟩
          case measure=>simp [intOf];omega
    · have hfin:=hi.done hr.len hlt
      go_wp2
      go_ret
      refine ⟨⟨A',n',c'⟩,rfl,?_,hb,by simp only;omega⟩
      rw [hfin.out];exact hown

end Go.Proofs.YtdfemnffpaopfaaGreatDoor
