/- Texts of this proof, one behind the other: Push, Places, Draw2, Draw3, Draw4, Poses, OnceD. -/
import Derived.Deep.RegionHeld3
import Derived.Deep.RegionLaw
import Derived.BigRegion
import Derived.Test.YtdfemnffpaopfaaGreatDoorGmf0
import Derived.Test.YtdfemnffpaopfaaGreatDoorGmf1
import Derived.Test.YtdfemnffpaopfaaGreatDoorGmf3
import Derived.Test.YtdfemnffpaopfaaGreatDoorGmf4
import Derived.Test.YtdfemnffpaopfaaGreatDoorGmf6
import Derived.Test.YtdfemnffpaopfaaGreatDoorGmf8
namespace Go.Proofs.YtdfemnffpaopfaaGreatDoor
open Go.RowKit
set_option linter.unusedVariables false
set_option linter.unusedSimpArgs false
set_option maxHeartbeats 1000000
set_option maxRecDepth 100000
theorem Each.putF {α:Type} {K K':List Nat→List Value→α→Prop}:∀ {fss:List (List Nat)} {css:List (List Value)} {l:List α} {i:Nat} {f':List Nat} {cs':List Value} {x':α},Each K fss css l→K' f' cs' x' →
    (∀ (j:Nat) (f2:List Nat) (cs2:List Value) (x2:α),j≠i→fss[j]? = some f2→css[j]? = some cs2→l[j]? = some x2→K f2 cs2 x2→K' f2 cs2 x2)→Each K' (fss.set i f') (css.set i cs') (l.set i x')
  | [],[],[],i,f',cs',x',_,_,_=>trivial
  | a :: r,c :: cr,y :: lr,0,f',cs',x',he,hk',hall =>
    ⟨hk',he.2.imp fun j f2 cs2 x2 h1 h2 h3 h4=>hall (j+1) f2 cs2 x2 (by omega) (by simpa using h1) (by simpa using h2) (by simpa using h3) h4⟩
  | a :: r,c :: cr,y :: lr,i+1,f',cs',x',he,hk',hall =>
    ⟨hall 0 a c y (by omega) rfl rfl rfl he.1,Each.putF he.2 hk' fun j f2 cs2 x2 hne h1 h2 h3 h4=>hall (j+1) f2 cs2 x2 (by omega) (by simpa using h1) (by simpa using h2) (by simpa using h3) h4⟩
theorem flat_set_mem:∀ {fss:List (List Nat)} {i:Nat} {f':List Nat} {q:Nat},q∈(fss.set i f').flatten→q∈f'∨∃ j g,j≠i∧fss[j]? = some g∧q∈g
  | [],i,f',q,h=>by simp at h
  | a :: r,0,f',q,h=>by
    rw [List.set_cons_zero,List.flatten_cons] at h
    rcases List.mem_append.1 h with h | h
    · exact .inl h
    · obtain ⟨g,hg,hq⟩:=List.mem_flatten.1 h
      obtain ⟨j,hj,rfl⟩:=List.mem_iff_getElem.1 hg
      exact .inr ⟨j+1,_,by omega,by simp,hq⟩
  | a :: r,i+1,f',q,h=>by
    rw [List.set_cons_succ,List.flatten_cons] at h
    rcases List.mem_append.1 h with h | h
    · exact .inr ⟨0,a,by omega,rfl,h⟩
    · rcases flat_set_mem h with h | ⟨j,g,hne,hg,hq⟩
      · exact .inl h
      · exact .inr ⟨j+1,g,by omega,by simpa using hg,hq⟩
theorem flat_set_nodup:∀ {fss:List (List Nat)} {i:Nat} {f f':List Nat},fss.flatten.Nodup→fss[i]? = some f→f'.Nodup→(∀ q∈f',q∈f∨q ∉ fss.flatten)→(fss.set i f').flatten.Nodup
  | a :: r,0,f,f',hn,hf,hd,hq=>by
    simp only [List.getElem?_cons_zero,Option.some.injEq] at hf;subst hf
    rw [List.flatten_cons] at hn
    obtain ⟨n1,n2,n3⟩:=List.nodup_append.1 hn
    rw [List.set_cons_zero,List.flatten_cons]
    refine List.nodup_append.2 ⟨hd,n2,fun x hx y hy e=>?_⟩
    subst e
    rcases hq x hx with h | h
    · exact n3 x h x hy rfl
    · exact h (by rw [List.flatten_cons];exact List.mem_append.2 (.inr hy))
  | a :: r,i+1,f,f',hn,hf,hd,hq=>by
    simp only [List.getElem?_cons_succ] at hf
    rw [List.flatten_cons] at hn
    obtain ⟨n1,n2,n3⟩:=List.nodup_append.1 hn
    rw [List.set_cons_succ,List.flatten_cons]
    have ih:=flat_set_nodup n2 hf hd fun q hqm=>by
      rcases hq q hqm with h | h
      · exact .inl h
      · exact .inr fun hm=>h (by rw [List.flatten_cons];exact List.mem_append.2 (.inr hm))
    refine List.nodup_append.2 ⟨n1,ih,fun x hx y hy e=>?_⟩
    subst e
    rcases flat_set_mem hy with h | ⟨j,g,_,hg,hxg⟩
    · rcases hq x h with h2 | h2
      · exact n3 x hx x (mem_flat hf h2) rfl
      · exact h2 (by rw [List.flatten_cons];exact List.mem_append.2 (.inl hx))
    · exact n3 x hx x (mem_flat hg hxg) rfl
theorem OwSl.refocus {α:Type} {K:World→List Nat→List Value→α→Prop} (hK:Loc K) {B:Nat} {w:World} {fs:List Nat} {e sz n c:Nat} {A:Option Addr} {l:List α} (h:OwSl K w fs e sz A n c l) (hfr:Fresh B w fs) (hB:B≤w.heap.size) {i:Nat} {x:α} (hx:l[i]? = some x) :
    ∃ css f cs g,Own w 0 e sz A n c css∧css[i]? = some cs∧K w f cs x∧A=some ⟨g,0,none⟩∧g ∉ f∧B≤g∧g < w.heap.size∧(∀ k∈f,B≤k∧k < w.heap.size)∧f.Nodup ∧
      (∀ w' cs' x' f',Own w' 0 e sz A n c (css.set i cs')→K w' f' cs' x'→Upd (g :: f) w w'→f'.Nodup→(∀ q∈f',q∈f∨w.heap.size≤q)→∃ fs',OwSl K w' fs' e sz A n c (l.set i x')∧Fresh B w' fs'):=by
  have hlt:=h.lt hK
  obtain ⟨css,fss,h1,h2,rfl⟩:=h
  obtain ⟨f,cs,hf,hcs,hk⟩:=h2.at_ hx
  obtain ⟨hno,hnf,hna⟩:=List.nodup_append.1 hfr.nodup
  rcases h1.cases with ⟨_,_,_,rfl⟩ | ⟨g,rfl,_,hgl,_⟩
  · simp at hcs
  · have hgo:g∈obl (some ⟨g,0,none⟩):=by simp [obl,ob]
    have hgf:g ∉ fss.flatten:=fun hm=>hna g hgo g hm rfl
    have hin:∀ k∈f,k∈obl (some ⟨g,0,none⟩)++fss.flatten:=fun k hk=>List.mem_append.2 (.inr (mem_flat hf hk))
    refine ⟨css,f,cs,g,h1,hcs,hk,rfl,fun hm=>hgf (mem_flat hf hm),hfr.lo g (List.mem_append.2 (.inl hgo)),hgl,fun k hk=>⟨hfr.lo k (hin k hk),hlt k (hin k hk)⟩,flat_nodup hnf (List.mem_of_getElem? hf),fun w' cs' x' f' ho hk' hu hd hq=>?_⟩
    have hold:∀ q∈fss.flatten,q < w.heap.size:=fun q hm=>hlt q (List.mem_append.2 (.inr hm))
    have hE:Each (K w') (fss.set i f') (css.set i cs') (l.set i x'):=h2.putF hk' fun j f2 cs2 x2 hne h3 _ _ hk2=>by
      refine hK.keep hk2 fun k hkf=>hu.block k (hK.lt hk2 k hkf) ?_
      simp only [List.mem_cons,not_or]
      exact ⟨fun e=>hgf (by rw [← e];exact mem_flat h3 hkf),flat_apart hnf h3 hf hne k hkf⟩
    have hmem:∀ q∈(fss.set i f').flatten,q∈fss.flatten∨(w.heap.size≤q∧q∈f'):=fun q hm=>by
      rcases flat_set_mem hm with h | ⟨j,g2,_,hg2,hq2⟩
      · rcases hq q h with h2 | h2
        · exact .inl (mem_flat hf h2)
        · exact .inr ⟨h2,h⟩
      · exact .inl (mem_flat hg2 hq2)
    have hltE:=hE.lt_ hK
    refine ⟨obl (some ⟨g,0,none⟩)++(fss.set i f').flatten,⟨css.set i cs',fss.set i f',ho,hE,rfl⟩,?_,?_,?_⟩
    · refine List.nodup_append.2 ⟨hno,flat_set_nodup hnf hf hd fun q hqm=>?_,fun a ha b hb e=>?_⟩
      · rcases hq q hqm with h2 | h2
        · exact .inl h2
        · exact .inr fun hm=>by have:=hold q hm;omega
      · subst e
        simp [obl,ob] at ha
        subst ha
        rcases hmem a hb with h2 | h2
        · exact hgf h2
        · omega
    · intro q hm
      rcases List.mem_append.1 hm with hm | hm
      · exact hfr.lo q (List.mem_append.2 (.inl hm))
      · rcases hmem q hm with h2 | h2
        · exact hfr.lo q (List.mem_append.2 (.inr h2))
        · omega
    · intro q hm
      rcases List.mem_append.1 hm with hm | hm
      · simp [obl,ob] at hm
        have:=hu.size;omega
      · exact hltE q hm
theorem OwSl.obl_mem {α:Type} {K:World→List Nat→List Value→α→Prop} {w:World} {fs:List Nat} {e sz n c:Nat} {A:Option Addr} {l:List α} (h:OwSl K w fs e sz A n c l):∀ q∈obl A,q∈fs:=by
  obtain ⟨css,fss,_,_,rfl⟩:=h
  exact fun q hq=>List.mem_append.2 (.inl hq)
theorem own_cells {w:World} {B e sz n c g k:Nat} {css:List (List Value)} {cs:List Value} (h:Own w B e sz (some ⟨g,0,none⟩) n c css) (hcs:css[k]? = some cs):∀ (j:Nat) (u:Value),cs[j]? = some u→w.cell? ⟨g,k * sz+j,none⟩=some u:=by
  intro j u hu
  obtain ⟨g',off',hA,hc⟩:=h.row.2 k cs hcs
  simp only [Option.some.injEq,Addr.mk.injEq,and_true] at hA
  obtain ⟨rfl,rfl⟩:=hA
  simpa using hc j u hu
theorem Row.take_ {α:Type} {w:World} {A:Option Addr} {n sz:Nat} {l:List α} {c:α→List Value} (h:Row w A n sz (l.map c)) {k:Nat} (hk:k≤n):Row w A k sz ((l.take k).map c):=by
  have hl:l.length=n:=h.len
  refine ⟨by simp;omega,fun i cs hi=>?_⟩
  rw [List.map_take] at hi
  have hik:i < k:=by
    have:=(List.getElem?_eq_some_iff.1 hi).1
    simp at this;omega
  rw [List.getElem?_take,if_pos hik] at hi
  exact h.2 i cs hi





end Go.Proofs.YtdfemnffpaopfaaGreatDoor
