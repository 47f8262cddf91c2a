/- Texts of this proof, one behind the other: TmM, TmCP, TmE. -/
import Derived.Test.YtdfemnffpaopfaaGreatDoorGmf23
import Derived.Test.YtdfemnffpaopfaaGreatDoorGmf24
import Derived.Test.YtdfemnffpaopfaaGreatDoorGmf34
import Derived.Test.YtdfemnffpaopfaaGreatDoorGmf37
import Derived.Test.YtdfemnffpaopfaaGreatDoorGmf39
namespace Go.Proofs.YtdfemnffpaopfaaGreatDoor
open Go.RowKit
set_option linter.unusedVariables false
set_option linter.unusedSimpArgs false
set_option maxHeartbeats 8000000
set_option maxRecDepth 100000
theorem ch_size {t:Team} {l:List Chan} {c:Chan} {N:Nat} (h:bulkT t≤N) (hl:l∈t.channels) (hc:c∈l):bulkC c≤N:=by
  have h1:bulkCs l≤sumBulk bulkCs t.channels:=few_each hl
  have h2:bulkC c≤sumBulk bulkC l:=few_each hc
  have h3:bulkCs l=l.length+sumBulk bulkC l:=rfl
  unfold bulkT at h;omega
theorem numT_le {t:Team} {N:Nat} (hm:bulkT t≤N):numT t≤N:=by
  have:=num_Ro t.robots;have:=num_Cs t.channels
  unfold bulkT at hm;unfold numT;omega
theorem chOf_set {u:Team} {i j a b:Nat} {c:Chan} {row:List Chan} (hi:u.channels[i]? = some row) (hab:¬ (a=i∧b=j)):chOf (setC u i j c) a b=chOf u a b:=by
  unfold chOf rowOf setC
  simp only [rowOf_eq hi]
  by_cases h:a=i
  · subst h
    rw [List.getElem?_set_self (List.getElem?_eq_some_iff.1 hi).1,hi]
    simp only [Option.getD_some]
    rw [List.getElem?_set_ne (by intro e;exact hab ⟨rfl,e.symm⟩)]
  · rw [List.getElem?_set_ne (by intro e;exact h e.symm)]
noncomputable def offJ (r:Nat) (s:ByteArray):Nat→Team→Option Team
  | 0,t=>some t
  | j+1,t=>match offJ r s j t with
    | none=>none
    | some u=>if j=r then some u else if (offer (chOf u r j) s).2=true then some (setC u r j (offer (chOf u r j) s).1) else none
theorem offJ_zero (r:Nat) (s:ByteArray) (t:Team):offJ r s 0 t=some t:=rfl
theorem offJ_skip {r:Nat} {s:ByteArray} {t u:Team} (h:offJ r s r t=some u):offJ r s (r+1) t=some u:=by
  rw [offJ,h];simp
theorem offJ_yes {r j:Nat} {s:ByteArray} {t u:Team} {row:List Chan} {c:Chan} (h:offJ r s j t=some u) (hne:¬ j=r) (hi:u.channels[r]? = some row) (hj:row[j]? = some c) (ho:(offer c s).2=true):offJ r s (j+1) t=some (setC u r j (offer c s).1):=by
  rw [offJ,h]
  simp only [if_neg hne]
  rw [chOf_eq hi hj,if_pos ho]
theorem offJ_no {r j:Nat} {s:ByteArray} {t u:Team} {row:List Chan} {c:Chan} (h:offJ r s j t=some u) (hne:¬ j=r) (hi:u.channels[r]? = some row) (hj:row[j]? = some c) (ho:(offer c s).2=false):offJ r s (j+1) t=none:=by
  rw [offJ,h]
  simp only [if_neg hne]
  rw [chOf_eq hi hj,ho];simp
theorem offJ_none {r j:Nat} {s:ByteArray} {t:Team} (h:offJ r s j t=none):∀ k,offJ r s (j+k) t=none
  | 0=>h
  | k+1=>by
    rw [show j+(k+1)=(j+k)+1 from rfl,offJ,offJ_none h k]
noncomputable def measT (t:Team) (r:Int) (f:Factor):Team × Bool :=
  if isTeam t && (isRob t r && decide (robotOf f.id=r)) then
    (if (addF (robOf t r.toNat).factors f).2 && (apE (robOf t r.toNat).journal ⟨false,0,f⟩).2 then
      (match offJ r.toNat (fmtBun ⟨r,[f]⟩) t.robots.length (setR t r.toNat ⟨(addF (robOf t r.toNat).factors f).1,(apE (robOf t r.toNat).journal ⟨false,0,f⟩).1⟩) with
        | some u=>(u,true)
        | none=>(t,false))
     else (t,false))
  else (t,false)
theorem measT_no1 {t:Team} {r:Int} {f:Factor} (h:isTeam t=false):measT t r f=(t,false):=by simp [measT,h]
theorem measT_no2 {t:Team} {r:Int} {f:Factor} (h:isRob t r=false):measT t r f=(t,false):=by simp [measT,h]
theorem measT_no3 {t:Team} {r:Int} {f:Factor} (h:¬ robotOf f.id=r):measT t r f=(t,false):=by simp [measT,h]
theorem measT_eq {t:Team} {r:Nat} {f:Factor} {x:Robot} (h1:isTeam t=true) (h2:isRob t r=true) (h3:robotOf f.id=r) (hx:t.robots[r]? = some x) :
    measT t r f=if (addF x.factors f).2 && (apE x.journal ⟨false,0,f⟩).2 then
      (match offJ r (fmtBun ⟨r,[f]⟩) t.robots.length (setR t r ⟨(addF x.factors f).1,(apE x.journal ⟨false,0,f⟩).1⟩) with
        | some u=>(u,true)
        | none=>(t,false))
     else (t,false):=by
  unfold measT
  rw [Int.toNat_natCast,robOf_eq hx,h1,h2]
  simp only [h3,Bool.true_and,decide_true,if_true]
theorem numT_setC1 {t:Team} {i j:Nat} {c c0:Chan} {row:List Chan} (hi:t.channels[i]? = some row) (hj:row[j]? = some c0) (h:c.num≤c0.num+1):numT (setC t i j c)≤numT t+1:=by
  have h1:=sum_set (c:=numCs) (k:=1) (x:=(rowOf t i).set j c) (l:=t.channels) (i:=i) (fun y hy=>by
    rw [rowOf_eq hy]
    rw [hi] at hy
    obtain rfl:=Option.some.inj hy
    have h2:=sum_set (c:=Chan.num) (k:=1) (x:=c) (l:=row) (i:=j) (fun z hz=>by
      rw [hj] at hz
      obtain rfl:=Option.some.inj hz
      exact h)
    unfold numCs;omega)
  unfold numT setC;simp only;omega
theorem offer_num (c:Chan) (s:ByteArray):(offer c s).1.num≤c.num+1:=by
  unfold offer
  split
  · unfold addQ Chan.num;simp;omega
  · exact Nat.le_succ _
structure OI (t:Team) (n r j:Nat) (u:Team):Prop where
  len:u.robots.length=n
  clen:u.channels.length=n
  row:∀ l∈u.channels,l.length=n
  keep:∀ b,j≤b→chOf u r b=chOf t r b
  num:numT u≤1048576+41+j
theorem OI.start {t:Team} {n r:Nat} {f:Factor} {x:Robot} {J:ByteArray} (h:isTeam t=true) (hm:bulkT t≤1048576) (hn:t.robots.length=n) (hx:t.robots[r]? = some x):OI t n r 0 (setR t r ⟨(addF x.factors f).1,J⟩):=by
  obtain ⟨p1,p2,p3,p4,p5⟩:=isTeam_parts h
  have h1:=p4 x (List.mem_of_getElem? hx)
  refine ⟨by show (t.robots.set r _).length=n;rw [List.length_set,hn],by show t.channels.length=n;omega,fun l hl=>by rw [(p5 l hl).1,hn],fun _ _=>rfl,?_⟩
  have h2:=numT_setR t r ⟨(addF x.factors f).1,J⟩
  have h3:=numT_le hm
  have h4:(addF x.factors f).1.length≤40:=by
    cases ha:(addF x.factors f).2 with
    | true=>exact isFL_len (addF_fl ha)
    | false =>
      have e:(addF x.factors f).1=x.factors:=by
        unfold addF at ha ⊢
        by_cases hc:(isFL x.factors && isFL (insF x.factors f))=true
        · rw [if_pos hc] at ha;cases ha
        · rw [if_neg hc]
      rw [e];exact isFL_len h1
  have h5:Robot.num ⟨(addF x.factors f).1,J⟩=1+(addF x.factors f).1.length:=rfl
  omega
theorem OI.skip {t:Team} {n r j:Nat} {u:Team} (h:OI t n r j u):OI t n r (j+1) u :=
  ⟨h.len,h.clen,h.row,fun b hb=>h.keep b (by omega),by have:=h.num;omega⟩
theorem OI.step {t:Team} {n r j:Nat} {u:Team} {s:ByteArray} {row:List Chan} {c:Chan} (h:OI t n r j u) (hi:u.channels[r]? = some row) (hj:row[j]? = some c):OI t n r (j+1) (setC u r j (offer c s).1):=by
  refine ⟨h.len,?_,?_,?_,?_⟩
  · show (u.channels.set r _).length=n;rw [List.length_set,h.clen]
  · intro l hl
    have hl':l∈u.channels.set r ((rowOf u r).set j (offer c s).1):=hl
    rcases List.mem_or_eq_of_mem_set hl' with h1 | rfl
    · exact h.row l h1
    · rw [List.length_set,rowOf_eq hi,h.row row (List.mem_of_getElem? hi)]
  · intro b hb
    rw [chOf_set hi (by omega)]
    exact h.keep b (by omega)
  · have:=numT_setC1 hi hj (offer_num c s)
    have:=h.num
    omega
theorem OI.parts {t:Team} {n r j:Nat} {u:Team} (h:OI t n r j u) (ht:isTeam t=true) (hm:bulkT t≤1048576) (hok:okT t) (hn:t.robots.length=n) (hi:r < n) (hj:j < n) :
    ∃ row c,u.channels[r]? = some row∧row[j]? = some c∧bulkC c≤1048576∧okC c∧row.length=n:=by
  obtain ⟨p1,p2,p3,p4,p5⟩:=isTeam_parts ht
  obtain ⟨row,hr⟩:∃ row,u.channels[r]? = some row:=⟨_,List.getElem?_eq_getElem (by rw [h.clen];exact hi)⟩
  have hrl:=h.row row (List.mem_of_getElem? hr)
  obtain ⟨c,hc⟩:∃ c,row[j]? = some c:=⟨_,List.getElem?_eq_getElem (by rw [hrl];exact hj)⟩
  obtain ⟨row0,hr0⟩:∃ row,t.channels[r]? = some row:=⟨_,List.getElem?_eq_getElem (by omega)⟩
  have hm0:=List.mem_of_getElem? hr0
  obtain ⟨c0,hc0⟩:∃ c,row0[j]? = some c:=⟨_,List.getElem?_eq_getElem (by have:=(p5 row0 hm0).1;omega)⟩
  have hk:=h.keep j (by omega)
  rw [chOf_eq hr hc,chOf_eq hr0 hc0] at hk
  subst hk
  have hcm:=List.mem_of_getElem? hc0
  exact ⟨row,c,hr,hc,ch_size hm hm0 hcm,hok.2 row0 hm0 c hcm,hrl⟩
theorem OI.run {t u0:Team} {n r:Nat} {s:ByteArray} (h0:OI t n r 0 u0) (ht:isTeam t=true) (hm:bulkT t≤1048576) (hok:okT t) (hn:t.robots.length=n) (hr:r < n):∀ j,j≤n→∀ u,offJ r s j u0=some u→OI t n r j u
  | 0,_,u,h=>by rw [offJ_zero] at h;obtain rfl:=Option.some.inj h;exact h0
  | j+1,hj,u,h=>by
    cases hu:offJ r s j u0 with
    | none=>have:=offJ_none hu 1;rw [this] at h;cases h
    | some u1 =>
      have ih:=OI.run h0 ht hm hok hn hr j (by omega) u1 hu
      by_cases hne:j=r
      · subst hne
        rw [offJ_skip hu] at h
        obtain rfl:=Option.some.inj h
        exact ih.skip
      · obtain ⟨row,c,k1,k2,_,_,_⟩:=ih.parts ht hm hok hn hr (by omega)
        cases ho:(offer c s).2 with
        | false=>rw [offJ_no hu hne k1 k2 ho] at h;cases h
        | true =>
          rw [offJ_yes hu hne k1 k2 ho] at h
          obtain rfl:=Option.some.inj h
          exact ih.step k1 k2
theorem fewT_meas {t:Team} (hm:bulkT t≤1048576) (hok:okT t) (r:Int) (f:Factor):fewT (measT t r f).1:=by
  have h0:=numT_le hm
  have hself:fewT t:=by unfold fewT;omega
  by_cases h1:isTeam t=true
  · by_cases h2:isRob t r=true
    · by_cases h3:robotOf f.id=r
      · have g2:=isRob_iff.1 h2
        obtain ⟨r,rfl⟩:∃ n:Nat,r=n:=⟨r.toNat,by omega⟩
        obtain ⟨x,hx⟩:∃ x,t.robots[r]? = some x:=⟨_,List.getElem?_eq_getElem (by omega)⟩
        rw [measT_eq h1 h2 h3 hx]
        split
        · obtain ⟨n,hn⟩:∃ n,t.robots.length=n:=⟨_,rfl⟩
          have hs:=OI.start (f:=f) (J:=(apE x.journal ⟨false,0,f⟩).1) h1 hm hn hx
          have h3':=isTeam_parts h1
          cases ho:offJ r (fmtBun ⟨r,[f]⟩) t.robots.length (setR t r ⟨(addF x.factors f).1,(apE x.journal ⟨false,0,f⟩).1⟩) with
          | none=>exact hself
          | some u =>
            rw [hn] at ho
            have:=(hs.run h1 hm hok hn (by omega) n (Nat.le_refl _) u ho).num
            show fewT u
            unfold fewT;omega
        · exact hself
      · rw [measT_no3 h3];exact hself
    · rw [measT_no2 (by simpa using h2)];exact hself
  · rw [measT_no1 (by simpa using h1)];exact hself
theorem facL1_sz {f:Factor} {r:Int} (h:isBundle r [f]=true):(bunT r [f]).size≤600:=by
  obtain ⟨h0,h2,h4,hv⟩:=isBundle_parts h
  have h1:=fmtFac_size f
  have h5:(fmtFac f).data.toList.length=(fmtFac f).size:=by simp
  rw [fmtFac_data (hv f (by simp))] at h5
  have h3:=Lib.itoa_length_le r (by omega) (by omega)
  have e:(bunT r [f]).data.toList.length=(bunT r [f]).size:=by simp
  rw [bun_data] at e
  simp only [facsL,List.length_append,bunL0,List.length_cons,List.length_nil] at e
  omega
theorem fmt1_sz (f:Factor) (r:Int):(fmtBun ⟨r,[f]⟩).size≤600:=by
  unfold fmtBun
  split
  · rename_i h;exact facL1_sz h
  · decide
end Go.Proofs.YtdfemnffpaopfaaGreatDoor
