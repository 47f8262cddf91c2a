/- Texts of this proof, one behind the other: TmM, TmCP. -/
import Derived.Test.YtdfemnffpaopfaaGreatDoorGct41
import Derived.Test.YtdfemnffpaopfaaGreatDoorGct44
import Derived.Test.YtdfemnffpaopfaaGreatDoorGct47
namespace Go.Proofs.YtdfemnffpaopfaaGreatDoor
open Go.RowKit
set_option linter.unusedVariables false
set_option linter.unusedSimpArgs false
set_option maxHeartbeats 8000000
set_option maxRecDepth 100000
theorem ch_size {t:Team} {l:List Chan} {c:Chan} {N:Nat} (h:bulkT t≤N) (hl:l∈t.channels) (hc:c∈l):bulkC c≤N:=by
  have h1:bulkCs l≤sumBulk bulkCs t.channels:=few_each hl
  have h2:bulkC c≤sumBulk bulkC l:=few_each hc
  have h3:bulkCs l=l.length+sumBulk bulkC l:=rfl
  unfold bulkT at h;omega
theorem robOk_of {t:Team} {r:Robot} (h:bulkT t≤1048576) (hr:r∈t.robots) (hf:isFL r.factors=true):RobOk 1054336 r:=by
  refine ⟨hf,?_⟩
  have:=jrn_size h hr
  omega
theorem numT_le {t:Team} {N:Nat} (hm:bulkT t≤N):numT t≤N:=by
  have:=num_Ro t.robots;have:=num_Cs t.channels
  unfold bulkT at hm;unfold numT;omega
theorem numT_recvS {N:Nat} {t:Team} {i j:Nat} {c:Chan} (hr:RobOk N (robOf t j)) (hs:Short c):numT (recvC t i j c)≤numT t+80:=numT_recvC hr hs.q hs.n hs.a
noncomputable def calmJ (i:Nat):Nat→Team→Team
  | 0,t=>t
  | j+1,t=>calm1T (calmJ i j t) (i,j)
noncomputable def calmA (n:Nat):Nat→Team→Team
  | 0,t=>t
  | i+1,t=>calmJ i n (calmA n i t)
noncomputable def calmT (t:Team):Team:=if isTeam t then calmA t.robots.length t.robots.length t else t
theorem calmT_no {t:Team} (h:isTeam t=false):calmT t=t:=by simp [calmT,h]
theorem calmT_yes {t:Team} {n:Nat} (h:isTeam t=true) (hn:t.robots.length=n):calmT t=calmA n n t:=by simp [calmT,h,hn]
theorem calm1_same (u:Team) (i:Nat):calm1T u (i,i)=u:=by simp [calm1T]
theorem calm1_ne {u:Team} {i j:Nat} {row:List Chan} {c:Chan} (hne:i≠j) (hi:u.channels[i]? = some row) (hj:row[j]? = some c):calm1T u (i,j)=recvC u i j (calmC c):=by
  unfold calm1T
  rw [if_neg hne]
  simp only
  rw [chOf_eq hi hj,recv_setC hi hj]
theorem calm1_ne' {u:Team} {i j:Nat} {row:List Chan} {c:Chan} (hne:i≠j) (hi:u.channels[i]? = some row) (hj:row[j]? = some c):calm1T u (i,j)=recvC (setC u i j (calmC c)) i j (calmC c):=by
  rw [calm1_ne hne hi hj,← recv_setC hi hj]
  have h6:chOf (setC u i j (calmC c)) i j=calmC c:=chOf_eq (setC_row hi) (by rw [List.getElem?_set_self (List.getElem?_eq_some_iff.1 hj).1])
  unfold recv recvC
  rw [h6]
structure CI (t:Team) (n i j:Nat) (u:Team):Prop where
  len:u.robots.length=n
  clen:u.channels.length=n
  row:∀ l∈u.channels,l.length=n
  rob:∀ r∈u.robots,RobOk 1054336 r
  keep:∀ a b,(i < a∨(a=i∧j≤b))→chOf u a b=chOf t a b
  num:numT u≤1048576+80 * (i * n+j)
theorem CI.start {t:Team} {n:Nat} (h:isTeam t=true) (hm:bulkT t≤1048576) (hn:t.robots.length=n):CI t n 0 0 t:=by
  obtain ⟨p1,p2,p3,p4,p5⟩:=isTeam_parts h
  exact ⟨hn,by omega,fun l hl=>by rw [(p5 l hl).1,hn],fun r hr=>robOk_of hm hr (p4 r hr),fun _ _ _=>rfl,by have:=numT_le hm;omega⟩
theorem CI.next {t:Team} {n i:Nat} {u:Team} (h:CI t n i n u):CI t n (i+1) 0 u :=
  ⟨h.len,h.clen,h.row,h.rob,fun a b hab=>h.keep a b (by omega),by have:=h.num;rw [Nat.add_mul,Nat.one_mul];omega⟩
theorem CI.skip {t:Team} {n i:Nat} {u:Team} (h:CI t n i i u):CI t n i (i+1) u :=
  ⟨h.len,h.clen,h.row,h.rob,fun a b hab=>h.keep a b (by omega),by have:=h.num;omega⟩
theorem CI.parts {t:Team} {n i j:Nat} {u:Team} (h:CI t n i j u) (ht:isTeam t=true) (hm:bulkT t≤1048576) (hok:okT t) (hn:t.robots.length=n) (hi:i < n) (hj:j < n) :
    ∃ row c x,u.channels[i]? = some row∧row[j]? = some c∧u.robots[j]? = some x∧RobOk 1054336 x∧isChan c=true∧bulkC c≤1048576∧okC c∧row.length=n:=by
  obtain ⟨p1,p2,p3,p4,p5⟩:=isTeam_parts ht
  obtain ⟨row,hr⟩:∃ row,u.channels[i]? = some row:=⟨_,List.getElem?_eq_getElem (by rw [h.clen];exact hi)⟩
  have hrl:=h.row row (List.mem_of_getElem? hr)
  obtain ⟨c,hc⟩:∃ c,row[j]? = some c:=⟨_,List.getElem?_eq_getElem (by rw [hrl];exact hj)⟩
  obtain ⟨x,hx⟩:∃ x,u.robots[j]? = some x:=⟨_,List.getElem?_eq_getElem (by rw [h.len];exact hj)⟩
  obtain ⟨row0,hr0⟩:∃ row,t.channels[i]? = some row:=⟨_,List.getElem?_eq_getElem (by omega)⟩
  have hm0:=List.mem_of_getElem? hr0
  obtain ⟨c0,hc0⟩:∃ c,row0[j]? = some c:=⟨_,List.getElem?_eq_getElem (by have:=(p5 row0 hm0).1;omega)⟩
  have hk:=h.keep i j (by omega)
  rw [chOf_eq hr hc,chOf_eq hr0 hc0] at hk
  subst hk
  have hcm:=List.mem_of_getElem? hc0
  exact ⟨row,c,x,hr,hc,hx,h.rob x (List.mem_of_getElem? hx),(p5 row0 hm0).2 c hcm,ch_size hm hm0 hcm,hok.2 row0 hm0 c hcm,hrl⟩
theorem chOf_set {u:Team} {i j a b:Nat} {c:Chan} {row:List Chan} (hi:u.channels[i]? = some row) (hab:¬ (a=i∧b=j)):chOf (setC u i j c) a b=chOf u a b:=by
  unfold chOf rowOf setC
  simp only [rowOf_eq hi]
  by_cases h:a=i
  · subst h
    rw [List.getElem?_set_self (List.getElem?_eq_some_iff.1 hi).1,hi]
    simp only [Option.getD_some]
    rw [List.getElem?_set_ne (by intro e;exact hab ⟨rfl,e.symm⟩)]
  · rw [List.getElem?_set_ne (by intro e;exact h e.symm)]
theorem CI.step {t:Team} {n i j:Nat} {u:Team} (h:CI t n i j u) {row:List Chan} {c:Chan} {x:Robot} (hr:u.channels[i]? = some row) (hc:row[j]? = some c) (hx:u.robots[j]? = some x) (hs:Short (calmC c)) (hne:i≠j):CI t n i (j+1) (calm1T u (i,j)):=by
  rw [calm1_ne hne hr hc]
  have hrl:=h.row row (List.mem_of_getElem? hr)
  have hro:RobOk 1054336 (robOf u j):=by rw [robOf_eq hx];exact h.rob x (List.mem_of_getElem? hx)
  refine ⟨?_,?_,?_,?_,?_,?_⟩
  · show (u.robots.set j _).length=n;rw [List.length_set,h.len]
  · show (u.channels.set i _).length=n;rw [List.length_set,h.clen]
  · intro l hl
    have hl':l∈u.channels.set i ((rowOf u i).set j (takeC (calmC c))):=hl
    rcases List.mem_or_eq_of_mem_set hl' with h1 | rfl
    · exact h.row l h1
    · rw [List.length_set,rowOf_eq hr,hrl]
  · intro r hrm
    have hr':r∈u.robots.set j (recvs (robOf u j) (calmC c).inbox):=hrm
    rcases List.mem_or_eq_of_mem_set hr' with h1 | rfl
    · exact h.rob r h1
    · exact hro.recvs _
  · intro a b hab
    have e:chOf (recvC u i j (calmC c)) a b=chOf (setC u i j (takeC (calmC c))) a b:=rfl
    rw [e,chOf_set hr (by omega)]
    exact h.keep a b (by omega)
  · have:=numT_recvS (i:=i) hro hs
    have:=h.num
    omega
theorem fewT_calmT {t:Team} (hm:bulkT t≤1048576) (hok:okT t):fewT (calmT t):=by
  by_cases h1:isTeam t=true
  · obtain ⟨p1,p2,p3,p4,p5⟩:=isTeam_parts h1
    obtain ⟨n,hn⟩:∃ n,t.robots.length=n:=⟨_,rfl⟩
    have inner:∀ i,i < n→∀ j,j≤n→∀ u,CI t n i 0 u→CI t n i j (calmJ i j u):=by
      intro i hi j
      induction j with
      | zero=>exact fun _ u h=>h
      | succ j ih =>
        intro hj u h
        have h2:=ih (by omega) u h
        show CI t n i (j+1) (calm1T (calmJ i j u) (i,j))
        by_cases hne:i=j
        · subst hne;rw [calm1_same];exact h2.skip
        · obtain ⟨row,c,x,k1,k2,k3,k4,k5,k6,k7,k8⟩:=h2.parts h1 hm hok hn hi (by omega)
          exact h2.step k1 k2 k3 (short_calm k5 (Nat.le_trans k6 (by decide)) k7) hne
    have outer:∀ i,i≤n→CI t n i 0 (calmA n i t):=by
      intro i
      induction i with
      | zero=>exact fun _=>CI.start h1 hm hn
      | succ i ih=>exact fun hi=>(inner i (by omega) n (Nat.le_refl _) _ (ih (by omega))).next
    have hf:=(outer n (Nat.le_refl _)).num
    rw [calmT_yes h1 hn]
    have h3:n=1∨n=2∨n=3:=by omega
    unfold fewT
    rcases h3 with rfl | rfl | rfl <;> omega
  · have:=numT_le hm
    rw [calmT_no (by simpa using h1)];unfold fewT;omega
end Go.Proofs.YtdfemnffpaopfaaGreatDoor
