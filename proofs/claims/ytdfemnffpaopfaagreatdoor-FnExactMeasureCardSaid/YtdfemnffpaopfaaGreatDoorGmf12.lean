/- Texts of this proof, one behind the other: NmOf, NmOf2, FL. -/
import Derived.Test.YtdfemnffpaopfaaGreatDoorGmf3
import Derived.Test.YtdfemnffpaopfaaGreatDoorGmf6
namespace Go.Proofs.YtdfemnffpaopfaaGreatDoor
open Go.RowKit
set_option linter.unusedVariables false
set_option linter.unusedSimpArgs false
set_option maxHeartbeats 800000
set_option maxRecDepth 100000
def NmOfInv (l:List Factor) (k:Nat) (L:List ByteArray):Prop:=namesOf l=(l.drop k).foldl namesF L
theorem NmOfInv.start (l:List Factor):NmOfInv l 0 []:=rfl
theorem NmOfInv.step {l:List Factor} {k:Nat} {L:List ByteArray} {f:Factor} (h:NmOfInv l k L) (hf:Hid (l[k]? = some f)):NmOfInv l (k+1) (namesF L f):=by
  unfold NmOfInv at *;rw [h,drop_at hf];rfl
theorem NmOfInv.done {l:List Factor} {k n:Nat} {L:List ByteArray} (h:NmOfInv l k L) (hl:Hid (l.length=n)) (hk:¬ k < n):Hid (namesOf l=L):=by
  unfold NmOfInv at h;rw [Hid,h,drop_end hl hk];rfl
theorem addNm_empty {L:List ByteArray} {s:ByteArray} (h:Hid (s.toList.isEmpty=true)):addNm L s=L:=by simp [addNm,h.out]
theorem addNm_has {L:List ByteArray} {s:ByteArray} (h:Hid (hasStr L s=true)):addNm L s=L:=by simp [addNm,h.out]
theorem addNm_new {L:List ByteArray} {s:ByteArray} (h:Hid (s.toList.isEmpty=false)) (h2:Hid (hasStr L s=false)):addNm L s=L++[s]:=by simp [addNm,h.out,h2.out]
theorem strs_snoc (L:List ByteArray) (s:ByteArray):L.map strCells++[strCells s]=(L++[s]).map strCells:=by simp
def StrsPost (w:World) (e:Ending) (w':World) (L:List ByteArray) (t:TypeId) (m:Nat):Prop:=∃ v:Sv,e=.returned (.slice v.A v.n v.c)∧Own w' w.heap.size t 1 v.A v.n v.c (L.map strCells)∧Below w.heap.size w w'∧v.n≤m
theorem impl_NamesOf_c (A:Option Addr) (n c:Nat) (l:List Factor) (w:World) (hn:n≤100000) (hr:RowF w A n l) :
    Calls Tryz.prog 101 #[.slice A n c] w fun e w'=>StrsPost w e w' (namesOf l) 9 (2 * n):=by
  obtain ⟨i0,hii,hq0,hq1,hq2⟩:=info_parts info_String
  go_enter Tryz.func101,Tryz.ntmps101
  go_wp2
  go_loopw [9,3] (fun i v wr=>∃ (k:Nat) (A':Option Addr) (n' c':Nat) (L:List ByteArray),k≤n∧n'≤2 * k∧i=.int .i64 k∧v=.slice A' n' c'∧Own wr w.heap.size 9 1 A' n' c' (L.map strCells)∧NmOfInv l k L∧Below w.heap.size w wr) (fun i _ _=>n - (intOf i).toNat)
  case atStart=>exact ⟨0,_,0,0,[],by omega,by omega,rfl,rfl,Own.made0 w 9 1 (Nat.le_refl _),NmOfInv.start l,bAlloc (Below.refl _ _) _⟩
  case round =>
    obtain ⟨k,A',n',c',L,hk,hnk,rfl,rfl,hown,hi,hb⟩:=hrel
    by_cases hlt:k < n
    · obtain ⟨f,g,off,hf,rfl,g0,g1,g2,g3,g4,g5,g6,g7⟩:=RowF.at_ (hr.below hb) hlt
      have hst:=Lib.hid (hi.step hf)
      clear hi
      generalize hfe:f.frm.toList.isEmpty=fe
      generalize hte:f.to.toList.isEmpty=te
      have HF:=Lib.hid hfe
      have HT:=Lib.hid hte
      clear hfe hte
      cases fe
      · have hx0:¬ f.frm.toList=[]:=by have:=HF.out;simpa using this
        have hy0:(!f.frm.toList.isEmpty)=true:=by rw [HF.out];rfl
        have hz0:f.frm.toList.isEmpty=false:=HF.out
        generalize hh0:hasStr L f.frm=b0
        have HS0:=Lib.hid hh0
        clear hh0
        cases b0
        · have e0:=addNm_new HF HS0
          cases te
          · have hx1:¬ f.to.toList=[]:=by have:=HT.out;simpa using this
            have hy1:(!f.to.toList.isEmpty)=true:=by rw [HT.out];rfl
            have hz1:f.to.toList.isEmpty=false:=HT.out
            generalize hh1:hasStr (L++[f.frm]) f.to=b1
            have HS1:=Lib.hid hh1
            clear hh1
            cases b1
            · have e1:=addNm_new HT HS1
              go_wp2_with fail
              refine Calls.mono (hasString_c _ _ _ L f.frm _ (by omega) (hown.alloc_ _).row) ?_
              rintro e wx ⟨rfl,rfl⟩
              rw [HS0.out]
              go_wp2_with (at_builtin;refine wpList_append rfl (.tmp 23) (.tmp 26) 81 rfl w.heap.size 9 1 16 i0 _ Tryz.underlying81 hii hq0 hq1 hq2 rfl (by omega) A' n' c' _ rfl ((hown.alloc_ _).alloc_ _) _ 1 1 [strCells f.frm] rfl (Row.new1' _ _ _ 1 _ (by simp)) (by simp [strCells]) (by simp [strCells,Value.oneCell']) (by simp only [maxLen];omega) (by omega) (bAlloc (bAlloc hb _) _).size ?_;intro A3 c3 w3 ho0 hg0 hat0;have hbx:=gBox hg0 wr.heap.size (by simp;try omega) (fun q hq=>by have h1:=(hown.lt q hq).2;omega);have hlw:wr.heap.size < w3.heap.size:=(by have:=hg0.size;simp at this;omega))
              have hB0:=bGrown (bAlloc (bAlloc hb _) _) hg0 (fun q hq=>(hown.lt q hq).1)
              rw [strs_snoc] at ho0
              refine Calls.mono (hasString_c _ _ _ (L++[f.frm]) f.to _ (by omega) ho0.row) ?_
              rintro e wx ⟨rfl,rfl⟩
              rw [HS1.out]
              go_wp2_with (at_builtin;refine wpList_append rfl (.tmp 38) (.tmp 41) 81 rfl w.heap.size 9 1 16 i0 _ Tryz.underlying81 hii hq0 hq1 hq2 rfl (by omega) A3 (n'+1) c3 _ rfl (ho0.alloc_ _) _ 1 1 [strCells f.to] rfl (Row.new1' _ _ _ 1 _ (by simp)) (by simp [strCells]) (by simp [strCells,Value.oneCell']) (by simp only [maxLen];omega) (by omega) (bAlloc hB0 _).size ?_;intro A4 c4 w4 ho1 hg1 hat1)
              have hB1:=bGrown (bAlloc hB0 _) hg1 (fun q hq=>(ho0.lt q hq).1)
              rw [strs_snoc] at ho1
              go_roundw
              case rel=>exact ⟨k+1,_,n'+1+1,_,((L++[f.frm])++[f.to]),by omega,by omega,by go_num,rfl,ho1,by rw [namesF,e0,e1] at hst;exact hst.out,hB1⟩
              case measure=>simp [intOf];omega
            · have e1:=addNm_has HS1
              go_wp2_with fail
              refine Calls.mono (hasString_c _ _ _ L f.frm _ (by omega) (hown.alloc_ _).row) ?_
              rintro e wx ⟨rfl,rfl⟩
              rw [HS0.out]
              go_wp2_with (at_builtin;refine wpList_append rfl (.tmp 23) (.tmp 26) 81 rfl w.heap.size 9 1 16 i0 _ Tryz.underlying81 hii hq0 hq1 hq2 rfl (by omega) A' n' c' _ rfl ((hown.alloc_ _).alloc_ _) _ 1 1 [strCells f.frm] rfl (Row.new1' _ _ _ 1 _ (by simp)) (by simp [strCells]) (by simp [strCells,Value.oneCell']) (by simp only [maxLen];omega) (by omega) (bAlloc (bAlloc hb _) _).size ?_;intro A3 c3 w3 ho0 hg0 hat0;have hbx:=gBox hg0 wr.heap.size (by simp;try omega) (fun q hq=>by have h1:=(hown.lt q hq).2;omega);have hlw:wr.heap.size < w3.heap.size:=(by have:=hg0.size;simp at this;omega))
              have hB0:=bGrown (bAlloc (bAlloc hb _) _) hg0 (fun q hq=>(hown.lt q hq).1)
              rw [strs_snoc] at ho0
              refine Calls.mono (hasString_c _ _ _ (L++[f.frm]) f.to _ (by omega) ho0.row) ?_
              rintro e wx ⟨rfl,rfl⟩
              rw [HS1.out]
              go_wp2_with fail
              go_roundw
              case rel=>exact ⟨k+1,_,n'+1,_,(L++[f.frm]),by omega,by omega,by go_num,rfl,ho0,by rw [namesF,e0,e1] at hst;exact hst.out,hB0⟩
              case measure=>simp [intOf];omega
          · have hx1:f.to.toList=[]:=by have:=HT.out;simpa using this
            have hy1:(!f.to.toList.isEmpty)=false:=by rw [HT.out];rfl
            have hz1:f.to.toList.isEmpty=true:=HT.out
            have e1:addNm (L++[f.frm]) f.to=(L++[f.frm]):=addNm_empty HT
            go_wp2_with fail
            refine Calls.mono (hasString_c _ _ _ L f.frm _ (by omega) (hown.alloc_ _).row) ?_
            rintro e wx ⟨rfl,rfl⟩
            rw [HS0.out]
            go_wp2_with (at_builtin;refine wpList_append rfl (.tmp 23) (.tmp 26) 81 rfl w.heap.size 9 1 16 i0 _ Tryz.underlying81 hii hq0 hq1 hq2 rfl (by omega) A' n' c' _ rfl ((hown.alloc_ _).alloc_ _) _ 1 1 [strCells f.frm] rfl (Row.new1' _ _ _ 1 _ (by simp)) (by simp [strCells]) (by simp [strCells,Value.oneCell']) (by simp only [maxLen];omega) (by omega) (bAlloc (bAlloc hb _) _).size ?_;intro A3 c3 w3 ho0 hg0 hat0;have hbx:=gBox hg0 wr.heap.size (by simp;try omega) (fun q hq=>by have h1:=(hown.lt q hq).2;omega);have hlw:wr.heap.size < w3.heap.size:=(by have:=hg0.size;simp at this;omega))
            have hB0:=bGrown (bAlloc (bAlloc hb _) _) hg0 (fun q hq=>(hown.lt q hq).1)
            rw [strs_snoc] at ho0
            go_roundw
            case rel=>exact ⟨k+1,_,n'+1,_,(L++[f.frm]),by omega,by omega,by go_num,rfl,ho0,by rw [namesF,e0,e1] at hst;exact hst.out,hB0⟩
            case measure=>simp [intOf];omega
        · have e0:=addNm_has HS0
          cases te
          · have hx1:¬ f.to.toList=[]:=by have:=HT.out;simpa using this
            have hy1:(!f.to.toList.isEmpty)=true:=by rw [HT.out];rfl
            have hz1:f.to.toList.isEmpty=false:=HT.out
            generalize hh1:hasStr L f.to=b1
            have HS1:=Lib.hid hh1
            clear hh1
            cases b1
            · have e1:=addNm_new HT HS1
              go_wp2_with fail
              refine Calls.mono (hasString_c _ _ _ L f.frm _ (by omega) (hown.alloc_ _).row) ?_
              rintro e wx ⟨rfl,rfl⟩
              rw [HS0.out]
              go_wp2_with fail
              refine Calls.mono (hasString_c _ _ _ L f.to _ (by omega) (hown.alloc_ _).row) ?_
              rintro e wx ⟨rfl,rfl⟩
              rw [HS1.out]
              go_wp2_with (at_builtin;refine wpList_append rfl (.tmp 38) (.tmp 41) 81 rfl w.heap.size 9 1 16 i0 _ Tryz.underlying81 hii hq0 hq1 hq2 rfl (by omega) A' n' c' _ rfl ((hown.alloc_ _).alloc_ _) _ 1 1 [strCells f.to] rfl (Row.new1' _ _ _ 1 _ (by simp)) (by simp [strCells]) (by simp [strCells,Value.oneCell']) (by simp only [maxLen];omega) (by omega) (bAlloc (bAlloc hb _) _).size ?_;intro A4 c4 w4 ho1 hg1 hat1)
              have hB1:=bGrown (bAlloc (bAlloc hb _) _) hg1 (fun q hq=>(hown.lt q hq).1)
              rw [strs_snoc] at ho1
              go_roundw
              case rel=>exact ⟨k+1,_,n'+1,_,(L++[f.to]),by omega,by omega,by go_num,rfl,ho1,by rw [namesF,e0,e1] at hst;exact hst.out,hB1⟩
              case measure=>simp [intOf];omega
            · have e1:=addNm_has HS1
              go_wp2_with fail
              refine Calls.mono (hasString_c _ _ _ L f.frm _ (by omega) (hown.alloc_ _).row) ?_
              rintro e wx ⟨rfl,rfl⟩
              rw [HS0.out]
              go_wp2_with fail
              refine Calls.mono (hasString_c _ _ _ L f.to _ (by omega) (hown.alloc_ _).row) ?_
              rintro e wx ⟨rfl,rfl⟩
              rw [HS1.out]
              go_wp2_with fail
              go_roundw
              case rel=>exact ⟨k+1,_,n',_,L,by omega,by omega,by go_num,rfl,(hown.alloc_ _),by rw [namesF,e0,e1] at hst;exact hst.out,(bAlloc hb _)⟩
              case measure=>simp [intOf];omega
          · have hx1:f.to.toList=[]:=by have:=HT.out;simpa using this
            have hy1:(!f.to.toList.isEmpty)=false:=by rw [HT.out];rfl
            have hz1:f.to.toList.isEmpty=true:=HT.out
            have e1:addNm L f.to=L:=addNm_empty HT
            go_wp2_with fail
            refine Calls.mono (hasString_c _ _ _ L f.frm _ (by omega) (hown.alloc_ _).row) ?_
            rintro e wx ⟨rfl,rfl⟩
            rw [HS0.out]
            go_wp2_with fail
            go_roundw
            case rel=>exact ⟨k+1,_,n',_,L,by omega,by omega,by go_num,rfl,(hown.alloc_ _),by rw [namesF,e0,e1] at hst;exact hst.out,(bAlloc hb _)⟩
            case measure=>simp [intOf];omega
      · have hx0:f.frm.toList=[]:=by have:=HF.out;simpa using this
        have hy0:(!f.frm.toList.isEmpty)=false:=by rw [HF.out];rfl
        have hz0:f.frm.toList.isEmpty=true:=HF.out
        have e0:addNm L f.frm=L:=addNm_empty HF
        cases te
        · have hx1:¬ f.to.toList=[]:=by have:=HT.out;simpa using this
          have hy1:(!f.to.toList.isEmpty)=true:=by rw [HT.out];rfl
          have hz1:f.to.toList.isEmpty=false:=HT.out
          generalize hh1:hasStr L f.to=b1
          have HS1:=Lib.hid hh1
          clear hh1
          cases b1
          · have e1:=addNm_new HT HS1
            go_wp2_with fail
            refine Calls.mono (hasString_c _ _ _ L f.to _ (by omega) (hown.alloc_ _).row) ?_
            rintro e wx ⟨rfl,rfl⟩
            rw [HS1.out]
            go_wp2_with (at_builtin;refine wpList_append rfl (.tmp 38) (.tmp 41) 81 rfl w.heap.size 9 1 16 i0 _ Tryz.underlying81 hii hq0 hq1 hq2 rfl (by omega) A' n' c' _ rfl ((hown.alloc_ _).alloc_ _) _ 1 1 [strCells f.to] rfl (Row.new1' _ _ _ 1 _ (by simp)) (by simp [strCells]) (by simp [strCells,Value.oneCell']) (by simp only [maxLen];omega) (by omega) (bAlloc (bAlloc hb _) _).size ?_;intro A4 c4 w4 ho1 hg1 hat1)
            have hB1:=bGrown (bAlloc (bAlloc hb _) _) hg1 (fun q hq=>(hown.lt q hq).1)
            rw [strs_snoc] at ho1
            go_roundw
            case rel=>exact ⟨k+1,_,n'+1,_,(L++[f.to]),by omega,by omega,by go_num,rfl,ho1,by rw [namesF,e0,e1] at hst;exact hst.out,hB1⟩
            case measure=>simp [intOf];omega
          · have e1:=addNm_has HS1
            go_wp2_with fail
            refine Calls.mono (hasString_c _ _ _ L f.to _ (by omega) (hown.alloc_ _).row) ?_
            rintro e wx ⟨rfl,rfl⟩
            rw [HS1.out]
            go_wp2_with fail
            go_roundw
            case rel=>exact ⟨k+1,_,n',_,L,by omega,by omega,by go_num,rfl,(hown.alloc_ _),by rw [namesF,e0,e1] at hst;exact hst.out,(bAlloc hb _)⟩
            case measure=>simp [intOf];omega
        · have hx1:f.to.toList=[]:=by have:=HT.out;simpa using this
          have hy1:(!f.to.toList.isEmpty)=false:=by rw [HT.out];rfl
          have hz1:f.to.toList.isEmpty=true:=HT.out
          have e1:addNm L f.to=L:=addNm_empty HT
          go_wp2_with fail
          go_roundw
          case rel=>exact ⟨k+1,_,n',_,L,by omega,by omega,by go_num,rfl,(hown.alloc_ _),by rw [namesF,e0,e1] at hst;exact hst.out,(bAlloc hb _)⟩
          case measure=>simp [intOf];omega
    · have hfin:=hi.done hr.len hlt
      go_wp2
      go_ret
      refine ⟨⟨A',n',c'⟩,rfl,?_,hb,by simp only;omega⟩
      rw [hfin.out];exact hown
theorem l16Has_c (A:Option Addr) (n c:Nat) (l:List ByteArray) (s:ByteArray) (w:World) (hn:n≤4194304) (hr:RowS w A n l) :
    Calls Tryz.prog 190 #[.slice A n c,.string s] w fun e w'=>e=rBool (hasStr l s)∧w=w':=by
  go_enter Tryz.func190,Tryz.ntmps190
  go_wp2
  go_loop [9,6] (fun i t=>∃ (k:Nat),k≤n∧i=.int .i64 k∧StrInv l s k) (fun i _=>n - (intOf i).toNat)
  case atStart=>exact ⟨0,by omega,rfl,rfl⟩
  case round =>
    obtain ⟨k,hk,rfl,hi⟩:=hrel
    by_cases hlt:k < n
    · obtain ⟨f,g,off,hf,rfl,g0⟩:=RowS.at_ hr hlt
      have hst:=hi.step hf
      generalize hbe:(f.toList == s.toList)=b at hst
      have HS:=Lib.hid hst
      clear hst
      cases b
      · have hnx:StrInv l s (k+1):=by rw [StrInv,HS.out,Bool.false_or]
        go_wp2
        go_round
        case rel=>exact ⟨k+1,by omega,by go_num,hnx⟩
        case measure=>simp [intOf];omega
      · go_wp2
        go_ret
        exact ⟨by rw [HS.out,Bool.true_or];rfl,rfl⟩
    · have hfin:=hi.done hr.len hlt
      go_wp2
      go_ret
      exact ⟨by rw [hfin.out];rfl,rfl⟩
def StInv (L:List ByteArray) (f:Factor) (j:Nat) (M:List ByteArray):Prop:=M=([f.frm,f.to].take j).foldl addNm L
theorem StInv.step {L M:List ByteArray} {f:Factor} {j:Nat} {s:ByteArray} (h:StInv L f j M) (hs:Hid ([f.frm,f.to][j]? = some s)):StInv L f (j+1) (addNm M s):=by
  obtain ⟨hj,rfl⟩:=List.getElem?_eq_some_iff.1 hs.out
  unfold StInv at *
  rw [List.take_succ_eq_append_getElem hj,List.foldl_append,← h]
  rfl
theorem StInv.done {L M:List ByteArray} {f:Factor} {j:Nat} (h:StInv L f j M) (hj:¬ j < 2):namesF L f=M:=by
  unfold StInv at h
  rw [h,List.take_of_length_le (by simp;omega)]
  rfl
theorem spec_NamesOf_c (A:Option Addr) (n c:Nat) (l:List Factor) (w:World) (hn:n≤100000) (hr:RowF w A n l) :
    Calls Tryz.prog 151 #[.slice A n c] w fun e w'=>StrsPost w e w' (namesOf l) 9 (2 * n):=by
  obtain ⟨i0,hii,hq0,hq1,hq2⟩:=info_parts info_String
  go_enter Tryz.func151,Tryz.ntmps151
  go_wp2
  go_loopw [11,3] (fun i v wr=>∃ (k:Nat) (A':Option Addr) (n' c':Nat) (L:List ByteArray),k≤n∧n'≤2 * k∧i=.int .i64 k∧v=.slice A' n' c'∧Own wr w.heap.size 9 1 A' n' c' (L.map strCells)∧NmOfInv l k L∧Below w.heap.size w wr) (fun i _ _=>n - (intOf i).toNat)
  case atStart=>exact ⟨0,_,0,0,[],by omega,by omega,rfl,rfl,Own.made0 w 9 1 (Nat.le_refl _),NmOfInv.start l,bAlloc (Below.refl _ _) _⟩
  case round =>
    obtain ⟨k,A',n',c',L,hk,hnk,rfl,rfl,hown,hi,hb⟩:=hrel
    by_cases hlt:k < n
    · obtain ⟨f,g,off,hf,rfl,g0,g1,g2,g3,g4,g5,g6,g7⟩:=RowF.at_ (hr.below hb) hlt
      have hst:=Lib.hid (hi.step hf)
      clear hi
      obtain ⟨wo,hwo⟩:∃ wo:World,wo=wr:=⟨_,rfl⟩
      obtain rfl:=hwo
      go_wp2_with fail
      go_loopw [21,3,7] (fun i v s7 wi=>∃ (j:Nat) (A2:Option Addr) (n2 c2:Nat) (M:List ByteArray),j≤2∧n2≤2 * k+j∧i=.int .i64 j∧v=.slice A2 n2 c2∧Own wi w.heap.size 9 1 A2 n2 c2 (M.map strCells)∧StInv L f j M∧Below w.heap.size w wi∧(∀ (q:Nat) (s:ByteArray),[f.frm,f.to][q]? = some s→wi.cell? ⟨wo.heap.size+1,q,none⟩=some (.string s))∧wo.heap.size+1 < wi.heap.size∧(∀ q,ob A2=some q→q < wo.heap.size∨wo.heap.size+1 < q)) (fun i _ _ _=>2 - (intOf i).toNat)
      case atStart=>exact ⟨0,A',n',c',L,by omega,by omega,rfl,rfl,(hown.alloc_ _).alloc_ _,rfl,bAlloc (bAlloc hb _) _,fun q s hs=>(match q,hs with | 0,hs=>by simp at hs;subst hs;simp | 1,hs=>by simp at hs;subst hs;simp),by simp,fun q hq=>.inl (hown.lt q hq).2⟩
      case round =>
        obtain ⟨j,A2,n2,c2,M,hj,hn2,rfl,rfl,hown2,hM,hb2,hcell,hsz2,hap⟩:=hrel
        by_cases hlt2:j < 2
        · obtain ⟨s,hs⟩:∃ s,[f.frm,f.to][j]? = some s:=⟨_,List.getElem?_eq_getElem (by simpa using hlt2)⟩
          have gs:=hcell j s hs
          have HC:=Lib.hid hcell
          have HA:=Lib.hid hap
          have hM1:=Lib.hid (hM.step hs)
          clear hcell hap hM hs
          generalize hse:s.toList.isEmpty=se
          have HF:=Lib.hid hse
          clear hse
          cases se
          · have hx0:¬ s.toList=[]:=by have:=HF.out;simpa using this
            have hy0:(!s.toList.isEmpty)=true:=by rw [HF.out];rfl
            have hz0:s.toList.isEmpty=false:=HF.out
            generalize hh0:hasStr M s=b0
            have HS0:=Lib.hid hh0
            clear hh0
            cases b0
            · have e0:=addNm_new HF HS0
              go_wp2_with fail
              refine Calls.mono (l16Has_c _ _ _ M s _ (by omega) hown2.row) ?_
              rintro e wx ⟨rfl,rfl⟩
              rw [HS0.out]
              go_wp2_with (at_builtin;refine wpList_append rfl (.tmp 33) (.tmp 35) 81 rfl w.heap.size 9 1 16 i0 _ Tryz.underlying81 hii hq0 hq1 hq2 rfl (by omega) A2 n2 c2 _ rfl (hown2.alloc_ _) _ 1 1 [strCells s] rfl (Row.new1' _ _ _ 1 _ (by simp)) (by simp [strCells]) (by simp [strCells,Value.oneCell']) (by simp only [maxLen];omega) (by omega) (bAlloc hb2 _).size ?_;intro A3 c3 w3 ho3 hg3 hat3)
              have hB:=bGrown (bAlloc hb2 _) hg3 (fun q hq=>(hown2.lt q hq).1)
              rw [strs_snoc] at ho3
              have hbx:=gBox hg3 (wo.heap.size+1) (by simp;omega) (fun q hq e=>by have:=HA.out q hq;omega)
              have hcell3:∀ (q:Nat) (s:ByteArray),[f.frm,f.to][q]? = some s→w3.cell? ⟨wo.heap.size+1,q,none⟩=some (.string s):=fun q t hq=>(hbx q).trans (bCell (bAlloc (Below.refl _ _) _) (HC.out q t hq))
              have hap3:∀ q,ob A3=some q→q < wo.heap.size∨wo.heap.size+1 < q:=fun q hq=>by
                rcases hat3 with h | h
                · exact HA.out q (h ▸ hq)
                · rw [h] at hq;simp at hq;omega
              have hs3:wo.heap.size+1 < w3.heap.size:=by have:=hg3.size;simp at this;omega
              go_roundw
              case rel=>exact ⟨j+1,A3,n2+1,c3,M++[s],by omega,by omega,by go_num,rfl,ho3,by have:=hM1.out;rw [e0] at this;exact this,hB,hcell3,hs3,hap3⟩
              case measure=>simp [intOf];omega
            · have e0:=addNm_has HS0
              go_wp2_with fail
              refine Calls.mono (l16Has_c _ _ _ M s _ (by omega) hown2.row) ?_
              rintro e wx ⟨rfl,rfl⟩
              rw [HS0.out]
              go_wp2_with fail
              go_roundw
              case rel=>exact ⟨j+1,A2,n2,c2,M,by omega,by omega,by go_num,rfl,hown2,by have:=hM1.out;rw [e0] at this;exact this,hb2,HC.out,hsz2,HA.out⟩
              case measure=>simp [intOf];omega
          · have hx0:s.toList=[]:=by have:=HF.out;simpa using this
            have hy0:(!s.toList.isEmpty)=false:=by rw [HF.out];rfl
            have hz0:s.toList.isEmpty=true:=HF.out
            have e0:addNm M s=M:=addNm_empty HF
            go_wp2_with fail
            go_roundw
            case rel=>exact ⟨j+1,A2,n2,c2,M,by omega,by omega,by go_num,rfl,hown2,by have:=hM1.out;rw [e0] at this;exact this,hb2,HC.out,hsz2,HA.out⟩
            case measure=>simp [intOf];omega
        · have hfin:=Lib.hid (hM.done hlt2)
          clear hcell hap hM
          go_wp2_with fail
          go_roundw
          case rel=>exact ⟨k+1,A2,n2,c2,M,by omega,by omega,by go_num,rfl,hown2,by have:=hst.out;rw [hfin.out] at this;exact this,hb2⟩
          case measure=>simp [intOf];omega
    · have hfin:=hi.done hr.len hlt
      go_wp2
      go_ret
      refine ⟨⟨A',n',c'⟩,rfl,?_,hb,by simp only;omega⟩
      rw [hfin.out];exact hown
def FlInv (l:List Factor) (k:Nat):Prop:=ascL l none=ascL (l.drop k) (prevId l k)
theorem FlInv.step {l:List Factor} {k:Nat} {f:Factor} (h:FlInv l k) (hf:Hid (l[k]? = some f)) :
    ascL l none=(vldFactor f && ((match prevId l k with | none=>true | some p=>decide (p < f.id)) && ascL (l.drop (k+1)) (prevId l (k+1)))):=by
  unfold FlInv at h
  rw [h,drop_at hf,prevId_succ hf]
  rfl
theorem FlInv.done {l:List Factor} {k n:Nat} (h:FlInv l k) (hl:Hid (l.length=n)) (hk:¬ k < n):Hid (ascL l none=true):=by
  unfold FlInv at h;rw [Hid,h,drop_end hl hk];rfl
theorem FlInv.no {l:List Factor} {X Z b:Bool} (h:Hid (ascL l none=(X && (Z && b)))) (hx:X=false∨Z=false):Hid (isFL l=false):=by
  rw [Hid,isFL,h.out]
  rcases hx with rfl | rfl <;> simp
set_option maxHeartbeats 8000000 in
theorem impl_IsFactorList_c (A:Option Addr) (n c:Nat) (l:List Factor) (w:World) (hn:n≤4194304) (hr:RowF w A n l) (hs:∀ f∈l,f.frm.size≤4194304∧f.to.size≤4194304) :
    Calls Tryz.prog 51 #[.slice A n c] w fun e w'=>e=rBool (isFL l)∧Below w.heap.size w w':=by
  have hl:=hr.len
  by_cases h40:40 < n
  · have hfin:Hid (isFL l=false):=by
      have:¬ l.length≤40:=by rw [hl.out];omega
      simp [Hid,isFL,this]
    go_enter Tryz.func51,Tryz.ntmps51
    go_wp2
    go_ret
    exact ⟨by rw [hfin.out];rfl,Below.refl _ _⟩
  have hn40:n≤40:=by omega
  go_enter Tryz.func51,Tryz.ntmps51
  go_wp2_with fail
  go_loopw [10,3] (fun i j wr=>∃ (k:Nat),k≤n∧i=.int .i64 k∧FlInv l k∧Below w.heap.size w wr) (fun i _ _=>n - (intOf i).toNat)
  case atStart=>exact ⟨0,by omega,rfl,rfl,Below.refl _ _⟩
  case round =>
    obtain ⟨k,hk,rfl,hi,hb⟩:=hrel
    by_cases hlt:k < n
    · obtain ⟨f,g,off,hf,rfl,g0,g1,g2,g3,g4,g5,g6,g7⟩:=RowF.at_ (hr.below hb) hlt
      have hst:=hi.step hf
      have hsz:=hs f (List.mem_of_getElem? hf.out)
      generalize hv:vldFactor f=bv at hst
      have HV:=Lib.hid hv
      have HS:=Lib.hid hst
      clear hv hst hi
      cases bv
      · have hfin:=FlInv.no HS (.inl rfl)
        go_wp2_with fail
        refine region_at fun W hW=>?_
        have hwb:Below wr.heap.size wr W:=by rw [hW.out];exact bAlloc (Below.refl _ _) _
        have c0:=cell_regrown (show W.cell? ⟨wr.heap.size,0,none⟩=some (.int .i64 f.id) by rw [hW.out];simp)
        have c1:=cell_regrown (show W.cell? ⟨wr.heap.size,1,none⟩=some (.int .i64 f.kind) by rw [hW.out];simp)
        have c2:=cell_regrown (show W.cell? ⟨wr.heap.size,2,none⟩=some (.string f.frm) by rw [hW.out];simp)
        have c3:=cell_regrown (show W.cell? ⟨wr.heap.size,3,none⟩=some (.string f.to) by rw [hW.out];simp)
        have c4:=cell_regrown (show W.cell? ⟨wr.heap.size,4,none⟩=some (.int .i64 f.pose.turn) by rw [hW.out];simp)
        have c5:=cell_regrown (show W.cell? ⟨wr.heap.size,5,none⟩=some (.int .i64 f.pose.x) by rw [hW.out];simp)
        have c6:=cell_regrown (show W.cell? ⟨wr.heap.size,6,none⟩=some (.int .i64 f.pose.y) by rw [hW.out];simp)
        have c7:=cell_regrown (show W.cell? ⟨wr.heap.size,7,none⟩=some (.int .i64 f.weight) by rw [hW.out];simp)
        have cV:∀ d os,Calls Tryz.prog 93 #[vFactor f.id f.kind f.frm f.to f.pose.turn f.pose.x f.pose.y f.weight] (Go.Sort.grow (redrawn W d) os) fun e w2=>e=.returned (.bool false)∧∃ p:Regrown,w2=Go.Sort.grow (redrawn W p.d) p.os:=fun d os=>Calls.regrown_of ((impl_IsValidFactor_c f.id f.kind f.frm f.to f.pose.turn f.pose.x f.pose.y f.weight _ hsz.1 hsz.2).mono (fun _ _ h=>⟨h.1.trans (congrArg rBool HV.out),h.2⟩))
        clear hW
        refine wp_region_quiet_below (by kernel_rfl) (by kernel_rfl) ?_
        repeat (go_big_quiet_step (first | exact cV _ _))
        refine wpQuiet_nil ?_
        intro _ hw
        obtain ⟨⟨dq,osq⟩,hw⟩:=hw
        subst hw
        have hbq:=bTrans hwb (below_regrown W dq osq)
        clear c0 c1 c2 c3 c4 c5 c6 c7 cV
        go_wp2
        go_ret
        exact ⟨by rw [hfin.out];rfl,bTrans hb hbq⟩
      · by_cases hk0:k=0
        · have hkz:¬ 0 < k:=by omega
          have hnx:FlInv l (k+1):=by
            have:=HS.out
            subst hk0
            simpa [FlInv,prevId] using this
          clear hk0
          go_wp2_with fail
          refine region_at fun W hW=>?_
          have hwb:Below wr.heap.size wr W:=by rw [hW.out];exact bAlloc (Below.refl _ _) _
          have c0:=cell_regrown (show W.cell? ⟨wr.heap.size,0,none⟩=some (.int .i64 f.id) by rw [hW.out];simp)
          have c1:=cell_regrown (show W.cell? ⟨wr.heap.size,1,none⟩=some (.int .i64 f.kind) by rw [hW.out];simp)
          have c2:=cell_regrown (show W.cell? ⟨wr.heap.size,2,none⟩=some (.string f.frm) by rw [hW.out];simp)
          have c3:=cell_regrown (show W.cell? ⟨wr.heap.size,3,none⟩=some (.string f.to) by rw [hW.out];simp)
          have c4:=cell_regrown (show W.cell? ⟨wr.heap.size,4,none⟩=some (.int .i64 f.pose.turn) by rw [hW.out];simp)
          have c5:=cell_regrown (show W.cell? ⟨wr.heap.size,5,none⟩=some (.int .i64 f.pose.x) by rw [hW.out];simp)
          have c6:=cell_regrown (show W.cell? ⟨wr.heap.size,6,none⟩=some (.int .i64 f.pose.y) by rw [hW.out];simp)
          have c7:=cell_regrown (show W.cell? ⟨wr.heap.size,7,none⟩=some (.int .i64 f.weight) by rw [hW.out];simp)
          have cV:∀ d os,Calls Tryz.prog 93 #[vFactor f.id f.kind f.frm f.to f.pose.turn f.pose.x f.pose.y f.weight] (Go.Sort.grow (redrawn W d) os) fun e w2=>e=.returned (.bool true)∧∃ p:Regrown,w2=Go.Sort.grow (redrawn W p.d) p.os:=fun d os=>Calls.regrown_of ((impl_IsValidFactor_c f.id f.kind f.frm f.to f.pose.turn f.pose.x f.pose.y f.weight _ hsz.1 hsz.2).mono (fun _ _ h=>⟨h.1.trans (congrArg rBool HV.out),h.2⟩))
          clear hW
          refine wp_region_quiet_below (by kernel_rfl) (by kernel_rfl) ?_
          repeat (go_big_quiet_step (first | exact cV _ _))
          refine wpQuiet_nil ?_
          intro _ hw
          obtain ⟨⟨dq,osq⟩,hw⟩:=hw
          subst hw
          have hbq:=bTrans hwb (below_regrown W dq osq)
          clear c0 c1 c2 c3 c4 c5 c6 c7 cV
          go_wp2
          exact ⟨⟨k+1,by omega,by simp,hnx,bTrans hb hbq⟩,by simp only [intOf];omega⟩
        · obtain ⟨m,rfl⟩:∃ m,k=m+1:=⟨k - 1,by omega⟩
          obtain ⟨p,g',off',hp,hA,p0,-⟩:=RowF.at_ (hr.below hb) (show m < n by omega)
          obtain ⟨rfl,rfl⟩:g=g'∧off=off':=by simpa using hA
          clear hA hk0
          have hpe:=Lib.hid (prevId_succ hp)
          by_cases hpf:p.id < f.id
          · have hpg:¬ f.id≤p.id:=by omega
            have hnx:FlInv l (m+1+1):=by
              have:=HS.out
              rw [hpe.out] at this
              simpa [FlInv,hpf] using this
            clear hpf
            go_wp2_with fail
            refine region_at fun W hW=>?_
            have hwb:Below wr.heap.size wr W:=by rw [hW.out];exact bAlloc (Below.refl _ _) _
            have c0:=cell_regrown (show W.cell? ⟨wr.heap.size,0,none⟩=some (.int .i64 f.id) by rw [hW.out];simp)
            have c1:=cell_regrown (show W.cell? ⟨wr.heap.size,1,none⟩=some (.int .i64 f.kind) by rw [hW.out];simp)
            have c2:=cell_regrown (show W.cell? ⟨wr.heap.size,2,none⟩=some (.string f.frm) by rw [hW.out];simp)
            have c3:=cell_regrown (show W.cell? ⟨wr.heap.size,3,none⟩=some (.string f.to) by rw [hW.out];simp)
            have c4:=cell_regrown (show W.cell? ⟨wr.heap.size,4,none⟩=some (.int .i64 f.pose.turn) by rw [hW.out];simp)
            have c5:=cell_regrown (show W.cell? ⟨wr.heap.size,5,none⟩=some (.int .i64 f.pose.x) by rw [hW.out];simp)
            have c6:=cell_regrown (show W.cell? ⟨wr.heap.size,6,none⟩=some (.int .i64 f.pose.y) by rw [hW.out];simp)
            have c7:=cell_regrown (show W.cell? ⟨wr.heap.size,7,none⟩=some (.int .i64 f.weight) by rw [hW.out];simp)
            have cV:∀ d os,Calls Tryz.prog 93 #[vFactor f.id f.kind f.frm f.to f.pose.turn f.pose.x f.pose.y f.weight] (Go.Sort.grow (redrawn W d) os) fun e w2=>e=.returned (.bool true)∧∃ p:Regrown,w2=Go.Sort.grow (redrawn W p.d) p.os:=fun d os=>Calls.regrown_of ((impl_IsValidFactor_c f.id f.kind f.frm f.to f.pose.turn f.pose.x f.pose.y f.weight _ hsz.1 hsz.2).mono (fun _ _ h=>⟨h.1.trans (congrArg rBool HV.out),h.2⟩))
            have e0:=cell_regrown (bCell hwb p0)
            clear hW
            refine wp_region_quiet_below (by kernel_rfl) (by kernel_rfl) ?_
            repeat (go_big_quiet_step (first | exact cV _ _))
            refine wpQuiet_nil ?_
            intro _ hw
            obtain ⟨⟨dq,osq⟩,hw⟩:=hw
            subst hw
            have hbq:=bTrans hwb (below_regrown W dq osq)
            clear c0 c1 c2 c3 c4 c5 c6 c7 cV e0
            go_wp2
            exact ⟨⟨m+1+1,by omega,by simp,hnx,bTrans hb hbq⟩,by simp only [intOf];omega⟩
          · have hpg:f.id≤p.id:=by omega
            have hfin:=FlInv.no HS (.inr (by rw [hpe.out];simpa using hpf))
            clear hpf
            go_wp2_with fail
            refine region_at fun W hW=>?_
            have hwb:Below wr.heap.size wr W:=by rw [hW.out];exact bAlloc (Below.refl _ _) _
            have c0:=cell_regrown (show W.cell? ⟨wr.heap.size,0,none⟩=some (.int .i64 f.id) by rw [hW.out];simp)
            have c1:=cell_regrown (show W.cell? ⟨wr.heap.size,1,none⟩=some (.int .i64 f.kind) by rw [hW.out];simp)
            have c2:=cell_regrown (show W.cell? ⟨wr.heap.size,2,none⟩=some (.string f.frm) by rw [hW.out];simp)
            have c3:=cell_regrown (show W.cell? ⟨wr.heap.size,3,none⟩=some (.string f.to) by rw [hW.out];simp)
            have c4:=cell_regrown (show W.cell? ⟨wr.heap.size,4,none⟩=some (.int .i64 f.pose.turn) by rw [hW.out];simp)
            have c5:=cell_regrown (show W.cell? ⟨wr.heap.size,5,none⟩=some (.int .i64 f.pose.x) by rw [hW.out];simp)
            have c6:=cell_regrown (show W.cell? ⟨wr.heap.size,6,none⟩=some (.int .i64 f.pose.y) by rw [hW.out];simp)
            have c7:=cell_regrown (show W.cell? ⟨wr.heap.size,7,none⟩=some (.int .i64 f.weight) by rw [hW.out];simp)
            have cV:∀ d os,Calls Tryz.prog 93 #[vFactor f.id f.kind f.frm f.to f.pose.turn f.pose.x f.pose.y f.weight] (Go.Sort.grow (redrawn W d) os) fun e w2=>e=.returned (.bool true)∧∃ p:Regrown,w2=Go.Sort.grow (redrawn W p.d) p.os:=fun d os=>Calls.regrown_of ((impl_IsValidFactor_c f.id f.kind f.frm f.to f.pose.turn f.pose.x f.pose.y f.weight _ hsz.1 hsz.2).mono (fun _ _ h=>⟨h.1.trans (congrArg rBool HV.out),h.2⟩))
            have e0:=cell_regrown (bCell hwb p0)
            clear hW
            refine wp_region_quiet_below (by kernel_rfl) (by kernel_rfl) ?_
            repeat (go_big_quiet_step (first | exact cV _ _))
            refine wpQuiet_nil ?_
            intro _ hw
            obtain ⟨⟨dq,osq⟩,hw⟩:=hw
            subst hw
            have hbq:=bTrans hwb (below_regrown W dq osq)
            clear c0 c1 c2 c3 c4 c5 c6 c7 cV e0
            go_wp2
            go_ret
            exact ⟨by rw [hfin.out];rfl,bTrans hb hbq⟩
    · have hd:=hi.done hl hlt
      go_wp2_with fail
      refine Calls.mono (impl_NamesOf_c A n c l _ (by omega) (hr.below hb)) ?_
      rintro e w2 ⟨v2,rfl,ho2,hb2,hn2⟩
      have hL:=Lib.hid ho2.len
      go_wp2_with fail
      go_ret
      refine ⟨ret_bool ?_,bTrans hb hb2⟩
      have h1:=hL.out
      have h2:l.length≤40:=by rw [hl.out];exact hn40
      simp only [List.length_map] at h1
      simp [isFL,hd.out,h1,h2];omega
set_option maxHeartbeats 8000000 in
theorem spec_IsFactorList_c (A:Option Addr) (n c:Nat) (l:List Factor) (w:World) (hn:n≤4194304) (hr:RowF w A n l) (hs:∀ f∈l,f.frm.size≤4194304∧f.to.size≤4194304) :
    Calls Tryz.prog 106 #[.slice A n c] w fun e w'=>e=rBool (isFL l)∧Below w.heap.size w w':=by
  have hl:=hr.len
  go_enter Tryz.func106,Tryz.ntmps106
  go_wp2_with fail
  go_loopw [7,3] (fun i j wr=>∃ (k:Nat),k≤n∧i=.int .i64 k∧FlInv l k∧Below w.heap.size w wr) (fun i _ _=>n - (intOf i).toNat)
  case atStart=>exact ⟨0,by omega,rfl,rfl,Below.refl _ _⟩
  case round =>
    obtain ⟨k,hk,rfl,hi,hb⟩:=hrel
    by_cases hlt:k < n
    · obtain ⟨f,g,off,hf,rfl,g0,g1,g2,g3,g4,g5,g6,g7⟩:=RowF.at_ (hr.below hb) hlt
      have hst:=hi.step hf
      have hsz:=hs f (List.mem_of_getElem? hf.out)
      generalize hv:vldFactor f=bv at hst
      have HV:=Lib.hid hv
      have HS:=Lib.hid hst
      clear hv hst hi
      cases bv
      · have hfin:=FlInv.no HS (.inl rfl)
        go_wp2_with fail
        refine region_at fun W hW=>?_
        have hwb:Below wr.heap.size wr W:=by rw [hW.out];exact bAlloc (Below.refl _ _) _
        have c0:=cell_regrown (show W.cell? ⟨wr.heap.size,0,none⟩=some (.int .i64 f.id) by rw [hW.out];simp)
        have c1:=cell_regrown (show W.cell? ⟨wr.heap.size,1,none⟩=some (.int .i64 f.kind) by rw [hW.out];simp)
        have c2:=cell_regrown (show W.cell? ⟨wr.heap.size,2,none⟩=some (.string f.frm) by rw [hW.out];simp)
        have c3:=cell_regrown (show W.cell? ⟨wr.heap.size,3,none⟩=some (.string f.to) by rw [hW.out];simp)
        have c4:=cell_regrown (show W.cell? ⟨wr.heap.size,4,none⟩=some (.int .i64 f.pose.turn) by rw [hW.out];simp)
        have c5:=cell_regrown (show W.cell? ⟨wr.heap.size,5,none⟩=some (.int .i64 f.pose.x) by rw [hW.out];simp)
        have c6:=cell_regrown (show W.cell? ⟨wr.heap.size,6,none⟩=some (.int .i64 f.pose.y) by rw [hW.out];simp)
        have c7:=cell_regrown (show W.cell? ⟨wr.heap.size,7,none⟩=some (.int .i64 f.weight) by rw [hW.out];simp)
        have cV:∀ d os,Calls Tryz.prog 150 #[vFactor f.id f.kind f.frm f.to f.pose.turn f.pose.x f.pose.y f.weight] (Go.Sort.grow (redrawn W d) os) fun e w2=>e=.returned (.bool false)∧∃ p:Regrown,w2=Go.Sort.grow (redrawn W p.d) p.os:=fun d os=>Calls.regrown_of ((spec_IsValidFactor_c f.id f.kind f.frm f.to f.pose.turn f.pose.x f.pose.y f.weight _ hsz.1 hsz.2).mono (fun _ _ h=>⟨h.1.trans (congrArg rBool HV.out),h.2⟩))
        clear hW
        refine wp_region_quiet_below (by kernel_rfl) (by kernel_rfl) ?_
        repeat (go_big_quiet_step (first | exact cV _ _))
        refine wpQuiet_nil ?_
        intro _ hw
        obtain ⟨⟨dq,osq⟩,hw⟩:=hw
        subst hw
        have hbq:=bTrans hwb (below_regrown W dq osq)
        clear c0 c1 c2 c3 c4 c5 c6 c7 cV
        go_wp2
        go_ret
        exact ⟨by rw [hfin.out];rfl,bTrans hb hbq⟩
      · by_cases hk0:k=0
        · have hkz:¬ 0 < k:=by omega
          have hnx:FlInv l (k+1):=by
            have:=HS.out
            subst hk0
            simpa [FlInv,prevId] using this
          clear hk0
          go_wp2_with fail
          refine region_at fun W hW=>?_
          have hwb:Below wr.heap.size wr W:=by rw [hW.out];exact bAlloc (Below.refl _ _) _
          have c0:=cell_regrown (show W.cell? ⟨wr.heap.size,0,none⟩=some (.int .i64 f.id) by rw [hW.out];simp)
          have c1:=cell_regrown (show W.cell? ⟨wr.heap.size,1,none⟩=some (.int .i64 f.kind) by rw [hW.out];simp)
          have c2:=cell_regrown (show W.cell? ⟨wr.heap.size,2,none⟩=some (.string f.frm) by rw [hW.out];simp)
          have c3:=cell_regrown (show W.cell? ⟨wr.heap.size,3,none⟩=some (.string f.to) by rw [hW.out];simp)
          have c4:=cell_regrown (show W.cell? ⟨wr.heap.size,4,none⟩=some (.int .i64 f.pose.turn) by rw [hW.out];simp)
          have c5:=cell_regrown (show W.cell? ⟨wr.heap.size,5,none⟩=some (.int .i64 f.pose.x) by rw [hW.out];simp)
          have c6:=cell_regrown (show W.cell? ⟨wr.heap.size,6,none⟩=some (.int .i64 f.pose.y) by rw [hW.out];simp)
          have c7:=cell_regrown (show W.cell? ⟨wr.heap.size,7,none⟩=some (.int .i64 f.weight) by rw [hW.out];simp)
          have cV:∀ d os,Calls Tryz.prog 150 #[vFactor f.id f.kind f.frm f.to f.pose.turn f.pose.x f.pose.y f.weight] (Go.Sort.grow (redrawn W d) os) fun e w2=>e=.returned (.bool true)∧∃ p:Regrown,w2=Go.Sort.grow (redrawn W p.d) p.os:=fun d os=>Calls.regrown_of ((spec_IsValidFactor_c f.id f.kind f.frm f.to f.pose.turn f.pose.x f.pose.y f.weight _ hsz.1 hsz.2).mono (fun _ _ h=>⟨h.1.trans (congrArg rBool HV.out),h.2⟩))
          clear hW
          refine wp_region_quiet_below (by kernel_rfl) (by kernel_rfl) ?_
          repeat (go_big_quiet_step (first | exact cV _ _))
          refine wpQuiet_nil ?_
          intro _ hw
          obtain ⟨⟨dq,osq⟩,hw⟩:=hw
          subst hw
          have hbq:=bTrans hwb (below_regrown W dq osq)
          clear c0 c1 c2 c3 c4 c5 c6 c7 cV
          go_wp2
          exact ⟨⟨k+1,by omega,by simp,hnx,bTrans hb hbq⟩,by simp only [intOf];omega⟩
        · obtain ⟨m,rfl⟩:∃ m,k=m+1:=⟨k - 1,by omega⟩
          obtain ⟨p,g',off',hp,hA,p0,-⟩:=RowF.at_ (hr.below hb) (show m < n by omega)
          obtain ⟨rfl,rfl⟩:g=g'∧off=off':=by simpa using hA
          clear hA hk0
          have hpe:=Lib.hid (prevId_succ hp)
          by_cases hpf:p.id < f.id
          · have hpg:¬ f.id≤p.id:=by omega
            have hnx:FlInv l (m+1+1):=by
              have:=HS.out
              rw [hpe.out] at this
              simpa [FlInv,hpf] using this
            clear hpf
            go_wp2_with fail
            refine region_at fun W hW=>?_
            have hwb:Below wr.heap.size wr W:=by rw [hW.out];exact bAlloc (Below.refl _ _) _
            have c0:=cell_regrown (show W.cell? ⟨wr.heap.size,0,none⟩=some (.int .i64 f.id) by rw [hW.out];simp)
            have c1:=cell_regrown (show W.cell? ⟨wr.heap.size,1,none⟩=some (.int .i64 f.kind) by rw [hW.out];simp)
            have c2:=cell_regrown (show W.cell? ⟨wr.heap.size,2,none⟩=some (.string f.frm) by rw [hW.out];simp)
            have c3:=cell_regrown (show W.cell? ⟨wr.heap.size,3,none⟩=some (.string f.to) by rw [hW.out];simp)
            have c4:=cell_regrown (show W.cell? ⟨wr.heap.size,4,none⟩=some (.int .i64 f.pose.turn) by rw [hW.out];simp)
            have c5:=cell_regrown (show W.cell? ⟨wr.heap.size,5,none⟩=some (.int .i64 f.pose.x) by rw [hW.out];simp)
            have c6:=cell_regrown (show W.cell? ⟨wr.heap.size,6,none⟩=some (.int .i64 f.pose.y) by rw [hW.out];simp)
            have c7:=cell_regrown (show W.cell? ⟨wr.heap.size,7,none⟩=some (.int .i64 f.weight) by rw [hW.out];simp)
            have cV:∀ d os,Calls Tryz.prog 150 #[vFactor f.id f.kind f.frm f.to f.pose.turn f.pose.x f.pose.y f.weight] (Go.Sort.grow (redrawn W d) os) fun e w2=>e=.returned (.bool true)∧∃ p:Regrown,w2=Go.Sort.grow (redrawn W p.d) p.os:=fun d os=>Calls.regrown_of ((spec_IsValidFactor_c f.id f.kind f.frm f.to f.pose.turn f.pose.x f.pose.y f.weight _ hsz.1 hsz.2).mono (fun _ _ h=>⟨h.1.trans (congrArg rBool HV.out),h.2⟩))
            have e0:=cell_regrown (bCell hwb p0)
            clear hW
            refine wp_region_quiet_below (by kernel_rfl) (by kernel_rfl) ?_
            repeat (go_big_quiet_step (first | exact cV _ _))
            refine wpQuiet_nil ?_
            intro _ hw
            obtain ⟨⟨dq,osq⟩,hw⟩:=hw
            subst hw
            have hbq:=bTrans hwb (below_regrown W dq osq)
            clear c0 c1 c2 c3 c4 c5 c6 c7 cV e0
            go_wp2
            exact ⟨⟨m+1+1,by omega,by simp,hnx,bTrans hb hbq⟩,by simp only [intOf];omega⟩
          · have hpg:f.id≤p.id:=by omega
            have hfin:=FlInv.no HS (.inr (by rw [hpe.out];simpa using hpf))
            clear hpf
            go_wp2_with fail
            refine region_at fun W hW=>?_
            have hwb:Below wr.heap.size wr W:=by rw [hW.out];exact bAlloc (Below.refl _ _) _
            have c0:=cell_regrown (show W.cell? ⟨wr.heap.size,0,none⟩=some (.int .i64 f.id) by rw [hW.out];simp)
            have c1:=cell_regrown (show W.cell? ⟨wr.heap.size,1,none⟩=some (.int .i64 f.kind) by rw [hW.out];simp)
            have c2:=cell_regrown (show W.cell? ⟨wr.heap.size,2,none⟩=some (.string f.frm) by rw [hW.out];simp)
            have c3:=cell_regrown (show W.cell? ⟨wr.heap.size,3,none⟩=some (.string f.to) by rw [hW.out];simp)
            have c4:=cell_regrown (show W.cell? ⟨wr.heap.size,4,none⟩=some (.int .i64 f.pose.turn) by rw [hW.out];simp)
            have c5:=cell_regrown (show W.cell? ⟨wr.heap.size,5,none⟩=some (.int .i64 f.pose.x) by rw [hW.out];simp)
            have c6:=cell_regrown (show W.cell? ⟨wr.heap.size,6,none⟩=some (.int .i64 f.pose.y) by rw [hW.out];simp)
            have c7:=cell_regrown (show W.cell? ⟨wr.heap.size,7,none⟩=some (.int .i64 f.weight) by rw [hW.out];simp)
            have cV:∀ d os,Calls Tryz.prog 150 #[vFactor f.id f.kind f.frm f.to f.pose.turn f.pose.x f.pose.y f.weight] (Go.Sort.grow (redrawn W d) os) fun e w2=>e=.returned (.bool true)∧∃ p:Regrown,w2=Go.Sort.grow (redrawn W p.d) p.os:=fun d os=>Calls.regrown_of ((spec_IsValidFactor_c f.id f.kind f.frm f.to f.pose.turn f.pose.x f.pose.y f.weight _ hsz.1 hsz.2).mono (fun _ _ h=>⟨h.1.trans (congrArg rBool HV.out),h.2⟩))
            have e0:=cell_regrown (bCell hwb p0)
            clear hW
            refine wp_region_quiet_below (by kernel_rfl) (by kernel_rfl) ?_
            repeat (go_big_quiet_step (first | exact cV _ _))
            refine wpQuiet_nil ?_
            intro _ hw
            obtain ⟨⟨dq,osq⟩,hw⟩:=hw
            subst hw
            have hbq:=bTrans hwb (below_regrown W dq osq)
            clear c0 c1 c2 c3 c4 c5 c6 c7 cV e0
            go_wp2
            go_ret
            exact ⟨by rw [hfin.out];rfl,bTrans hb hbq⟩
    · have hd:=hi.done hl hlt
      by_cases h40:n≤40
      · go_wp2_with fail
        refine Calls.mono (spec_NamesOf_c A n c l _ (by omega) (hr.below hb)) ?_
        rintro e w2 ⟨v2,rfl,ho2,hb2,hn2⟩
        have hL:=Lib.hid ho2.len
        go_wp2_with fail
        go_ret
        refine ⟨ret_bool ?_,bTrans hb hb2⟩
        have h1:=hL.out
        have h2:l.length≤40:=by rw [hl.out];exact h40
        simp only [List.length_map] at h1
        simp [isFL,hd.out,h1,h2];omega
      · have hfin:Hid (isFL l=false):=by
          have:¬ l.length≤40:=by rw [hl.out];omega
          simp [Hid,isFL,this]
        go_wp2_with fail
        go_ret
        exact ⟨by rw [hfin.out];rfl,hb⟩
end Go.Proofs.YtdfemnffpaopfaaGreatDoor
