/- Texts of this proof, one behind the other: TmQ, TmS, TmR, TmI. -/
import Derived.Test.YtdfemnffpaopfaaGreatDoorGmf7
import Derived.Test.YtdfemnffpaopfaaGreatDoorGmf9
import Derived.Test.YtdfemnffpaopfaaGreatDoorGmf11
import Derived.Test.YtdfemnffpaopfaaGreatDoorGmf27
import Derived.Test.YtdfemnffpaopfaaGreatDoorGmf28
import Derived.Test.YtdfemnffpaopfaaGreatDoorGmf33
import Derived.Test.YtdfemnffpaopfaaGreatDoorGmf35
namespace Go.Proofs.YtdfemnffpaopfaaGreatDoor
open Go.RowKit
set_option linter.unusedVariables false
set_option linter.unusedSimpArgs false
set_option maxHeartbeats 1600000
set_option maxRecDepth 100000
def setR (t:Team) (r:Nat) (x:Robot):Team:=⟨t.robots.set r x,t.channels⟩
def rowOf (t:Team) (i:Nat):List Chan:=(t.channels[i]?).getD []
def setC (t:Team) (i j:Nat) (c:Chan):Team:=⟨t.robots,t.channels.set i ((rowOf t i).set j c)⟩
def robOf (t:Team) (r:Nat):Robot:=(t.robots[r]?).getD ⟨[],ByteArray.empty⟩
def chOf (t:Team) (i j:Nat):Chan:=((rowOf t i)[j]?).getD { queue:=[],base:=0,expected:=0,inbox:=[],net:=[],acks:=[] }
def isRob (t:Team) (r:Int):Bool:=inR r 0 (t.robots.length - 1)
theorem sum_set {α:Type} {c:α→Nat} {k:Nat} {x:α}:∀ {l:List α} {i:Nat},(∀ y,l[i]? = some y→c x≤c y+k)→sumBulk c (l.set i x)≤sumBulk c l+k
  | [],i,_=>by simp [sumBulk]
  | y :: l,0,h=>by have:=h y rfl;simp only [List.set_cons_zero,sumBulk];omega
  | y :: l,i+1,h=>by
    have:=sum_set (c:=c) (k:=k) (x:=x) (l:=l) (i:=i) (fun z hz=>h z (by simpa using hz))
    simp only [List.set_cons_succ,sumBulk];omega
theorem rowOf_eq {t:Team} {i:Nat} {row:List Chan} (h:t.channels[i]? = some row):rowOf t i=row:=by simp [rowOf,h]
theorem robOf_eq {t:Team} {i:Nat} {r:Robot} (h:t.robots[i]? = some r):robOf t i=r:=by simp [robOf,h]
theorem chOf_eq {t:Team} {i j:Nat} {row:List Chan} {c:Chan} (h:t.channels[i]? = some row) (h2:row[j]? = some c):chOf t i j=c:=by simp [chOf,rowOf,h,h2]
theorem numT_setR (t:Team) (r:Nat) (x:Robot):numT (setR t r x)≤numT t+x.num:=by
  have h:=sum_set (c:=Robot.num) (k:=x.num) (x:=x) (l:=t.robots) (i:=r) (fun y _=>by omega)
  unfold numT setR;simp only;omega
structure TStep (w0:World) (v0:TV) (w:World) (v:TV):Prop where
  r:v.r=v0.r
  c:v.c=v0.c
  upd:Upd (fpT v0) w0 w
  foot:∀ q∈fpT v,q∈fpT v0∨w0.heap.size≤q
theorem TStep.refl (w:World) (v:TV):TStep w v w v:=⟨rfl,rfl,Upd.refl _ _,fun _ h=>.inl h⟩
theorem TStep.trans {w0 w1 w2:World} {v0 v1 v2:TV} (h:TStep w0 v0 w1 v1) (k:TStep w1 v1 w2 v2):TStep w0 v0 w2 v2 :=
  ⟨k.r.trans h.r,k.c.trans h.c,h.upd.trans2 k.upd h.foot,fun q hq=>by
    rcases k.foot q hq with h1 | h1
    · exact h.foot q h1
    · exact .inr (Nat.le_trans h.upd.size h1)⟩
theorem TStep.below {w0 w1 w2:World} {v0 v1:TV} (h:TStep w0 v0 w1 v1) (k:Below w1.heap.size w1 w2):TStep w0 v0 w2 v1:=⟨h.r,h.c,h.upd.then_below k,h.foot⟩
theorem List.set_getElem?_self_ {α:Type}:∀ {l:List α} {i:Nat} {x:α},l[i]? = some x→l.set i x=l
  | y :: l,0,x,h=>by simp at h;subst h;rfl
  | y :: l,i+1,x,h=>by simp only [List.getElem?_cons_succ] at h;rw [List.set_cons_succ,List.set_getElem?_self_ h]
theorem Fresh.foot {B:Nat} {w w':World} {fs fs':List Nat} (h:Fresh B w fs) (hB:B≤w.heap.size) (hn:fs'.Nodup) (hf:∀ q∈fs',q∈fs∨w.heap.size≤q) (hl:∀ q∈fs',q < w'.heap.size):Fresh B w' fs' :=
  ⟨hn,fun q hq=>by
    rcases hf q hq with h1 | h1
    · exact h.lo q h1
    · omega,hl⟩
theorem OwSl.refocus2 {α:Type} {K:World→List Nat→List Value→α→Prop} (hK:Loc K) {w:World} {fs:List Nat} {e sz n c:Nat} {A:Option Addr} {l:List α} (h:OwSl K w fs e sz A n c l) (hfr:fs.Nodup) {i:Nat} {x:α} (hx:l[i]? = some x) :
    ∃ css f cs g,Own w 0 e sz A n c css∧css[i]? = some cs∧K w f cs x∧A=some ⟨g,0,none⟩∧g ∉ f∧(∀ q∈g :: f,q∈fs)∧f.Nodup ∧
      (∀ w' cs' x' f',Own w' 0 e sz A n c (css.set i cs')→K w' f' cs' x'→Upd (g :: f) w w'→f'.Nodup→(∀ q∈f',q∈f∨w.heap.size≤q)→∃ fs',OwSl K w' fs' e sz A n c (l.set i x')∧fs'.Nodup∧∀ q∈fs',(q∈fs∧q ∉ f)∨q∈f'):=by
  have hlt:=h.lt hK
  obtain ⟨css,fss,h1,h2,rfl⟩:=h
  obtain ⟨f,cs,hf,hcs,hk⟩:=h2.at_ hx
  obtain ⟨hno,hnf,hna⟩:=List.nodup_append.1 hfr
  rcases h1.cases with ⟨_,_,_,rfl⟩ | ⟨g,rfl,_,hgl,_⟩
  · simp at hcs
  · have hgo:g∈obl (some ⟨g,0,none⟩):=by simp [obl,ob]
    have hgf:g ∉ fss.flatten:=fun hm=>hna g hgo g hm rfl
    have hin:∀ k∈f,k∈obl (some ⟨g,0,none⟩)++fss.flatten:=fun k hk=>List.mem_append.2 (.inr (mem_flat hf hk))
    refine ⟨css,f,cs,g,h1,hcs,hk,rfl,fun hm=>hgf (mem_flat hf hm),fun q hq=>?_,flat_nodup hnf (List.mem_of_getElem? hf),fun w' cs' x' f' ho hk' hu hd hq=>?_⟩
    · rcases List.mem_cons.1 hq with rfl | hq
      · exact List.mem_append.2 (.inl hgo)
      · exact hin q hq
    have hold:∀ q∈fss.flatten,q < w.heap.size:=fun q hm=>hlt q (List.mem_append.2 (.inr hm))
    have hE:Each (K w') (fss.set i f') (css.set i cs') (l.set i x'):=h2.putF hk' fun j f2 cs2 x2 hne h3 _ _ hk2=>by
      refine hK.keep hk2 fun k hkf=>hu.block k (hK.lt hk2 k hkf) ?_
      simp only [List.mem_cons,not_or]
      exact ⟨fun e=>hgf (by rw [← e];exact mem_flat h3 hkf),flat_apart hnf h3 hf hne k hkf⟩
    have hmem:∀ q∈(fss.set i f').flatten,q∈fss.flatten∨(w.heap.size≤q∧q∈f'):=fun q hm=>by
      rcases flat_set_mem hm with h | ⟨j,g2,_,hg2,hq2⟩
      · rcases hq q h with h2 | h2
        · exact .inl (mem_flat hf h2)
        · exact .inr ⟨h2,h⟩
      · exact .inl (mem_flat hg2 hq2)
    refine ⟨obl (some ⟨g,0,none⟩)++(fss.set i f').flatten,⟨css.set i cs',fss.set i f',ho,hE,rfl⟩,?_,?_⟩
    · refine List.nodup_append.2 ⟨hno,flat_set_nodup hnf hf hd fun q hqm=>?_,fun a ha b hb e=>?_⟩
      · rcases hq q hqm with h2 | h2
        · exact .inl h2
        · exact .inr fun hm=>by have:=hold q hm;omega
      · subst e
        simp [obl,ob] at ha
        subst ha
        rcases hmem a hb with h2 | h2
        · exact hgf h2
        · omega
    · intro q hm
      rcases List.mem_append.1 hm with hm | hm
      · refine .inl ⟨List.mem_append.2 (.inl hm),fun hf2=>?_⟩
        simp [obl,ob] at hm;subst hm;exact hgf (mem_flat hf hf2)
      · rcases flat_set_mem hm with h | ⟨j,g2,hne,hg2,hq2⟩
        · exact .inr h
        · exact .inl ⟨List.mem_append.2 (.inr (mem_flat hg2 hq2)),flat_apart hnf hg2 hf hne q hq2⟩
structure OT (B:Nat) (w:World) (v:TV) (t:Team):Prop where
  own:OwT w v t
  fr:Fresh B w (fpT v)
theorem OT.rd {B:Nat} {w:World} {v:TV} {t:Team} (h:OT B w v t):RdT w v t:=h.own.rd
theorem OT.below {B:Nat} {w w':World} {v:TV} {t:Team} (h:OT B w v t) (hb:Below w.heap.size w w'):OT B w' v t:=⟨h.own.below hb,h.fr.grow hb.size⟩
theorem OT.upd {B:Nat} {w w':World} {v:TV} {t:Team} {fs:List Nat} (h:OT B w v t) (hu:Upd fs w w') (hd:∀ q∈fs,q < B∨w.heap.size≤q):OT B w' v t :=
  ⟨h.own.upd hu (fun k hk hm=>by have:=h.fr.lo k hk;have:=h.fr.hi k hk;rcases hd k hm with h1 | h1 <;> omega),h.fr.grow hu.size⟩
theorem OT.lt {B:Nat} {w:World} {v:TV} {t:Team} (h:OT B w v t):∀ q∈fpT v,q < w.heap.size:=h.fr.hi
theorem OT.rebase {B B':Nat} {w:World} {v:TV} {t:Team} (h:OT B w v t) (hb:B'≤B):OT B' w v t:=⟨h.own,h.fr.rebase hb⟩
theorem foot_two {w:World} {B:Nat} {fr fc fr' fc':List Nat} (h:Fresh B w (fr++fc)) (hn:fr'.Nodup) (hm:fc'.Nodup) {nf:List Nat} (h1:∀ q∈fr',q∈fr∨(w.heap.size≤q∧q∈nf)) (h2:∀ q∈fc',q∈fc∨(w.heap.size≤q∧q∈nf)) (hx:(∀ q∈fr',q∈fr)∨∀ q∈fc',q∈fc) :
    (fr'++fc').Nodup∧∀ q∈fr'++fc',q∈fr++fc∨(w.heap.size≤q∧q∈nf):=by
  refine ⟨List.nodup_append.2 ⟨hn,hm,fun a ha b hb e=>?_⟩,fun q hq=>?_⟩
  · subst e
    rcases hx with hx | hx
    · have:=h.hi a (List.mem_append.2 (.inl (hx a ha)))
      rcases h2 a hb with h3 | h3
      · exact h.apart a (hx a ha) h3
      · omega
    · have:=h.hi a (List.mem_append.2 (.inr (hx a hb)))
      rcases h1 a ha with h3 | h3
      · exact h.apart a h3 (hx a hb)
      · omega
  · rcases List.mem_append.1 hq with hq | hq
    · rcases h1 q hq with h3 | h3
      · exact .inl (List.mem_append.2 (.inl h3))
      · exact .inr h3
    · rcases h2 q hq with h3 | h3
      · exact .inl (List.mem_append.2 (.inr h3))
      · exact .inr h3
theorem OT.robot {B:Nat} {w:World} {v:TV} {t:Team} {j:Nat} {r:Robot} (h:OT B w v t) (hB:B≤w.heap.size) (hr:t.robots[j]? = some r) :
    ∃ (css:List (List Value)) (g:Nat) (vr:Sv),Own w 0 47 2 v.r.A v.r.n v.r.c css∧css[j]? = some (cRobot vr r)∧OwF w vr r.factors∧v.r.A=some ⟨g,0,none⟩∧g ∉ fpF vr∧(∀ q∈g :: fpF vr,q∈fpT v)∧(fpF vr).Nodup ∧
      ∀ w' r' vr',Own w' 0 47 2 v.r.A v.r.n v.r.c (css.set j (cRobot vr' r'))→OwF w' vr' r'.factors→Upd (g :: fpF vr) w w'→(fpF vr').Nodup→(∀ q∈fpF vr',q∈fpF vr∨w.heap.size≤q) →
        ∃ v',OT B w' v' (setR t j r')∧TStep w v w' v'∧∀ q∈fpT v',(q∈fpT v∧q ∉ fpF vr)∨q∈fpF vr':=by
  have hfr:Fresh B w v.fr:=Fresh.left (gs:=v.fc) h.fr
  have hap:∀ k∈v.fr,k ∉ v.fc:=Fresh.apart h.fr
  obtain ⟨css,f,cs,g,h1,h2,⟨vr,rfl,h3,rfl⟩,h4,h5,h6,h7,h8⟩:=h.own.r.refocus2 loc_Ro hfr.nodup hr
  refine ⟨css,g,vr,h1,h2,h3,h4,h5,fun q hq=>List.mem_append.2 (.inl (h6 q hq)),h7,fun w' r' vr' ho hk hu hn hq=>?_⟩
  obtain ⟨fs',k1,k2,k3⟩:=h8 w' _ r' _ ho ⟨vr',rfl,hk,rfl⟩ hu hn hq
  have hc:=h.own.c.upd loc_Cs hu fun k hk hm=>hap k (h6 k hm) hk
  have hw:OwT w' ⟨v.r,v.c,fs',v.fc⟩ (setR t j r'):=⟨k1,hc⟩
  have k4:∀ q∈fs',q∈v.fr∨(w.heap.size≤q∧q∈fpF vr'):=fun q hm=>by
    rcases k3 q hm with h9 | h9
    · exact .inl h9.1
    · rcases hq q h9 with h10 | h10
      · exact .inl (h6 q (List.mem_cons_of_mem _ h10))
      · exact .inr ⟨h10,h9⟩
  obtain ⟨f1,f2⟩:=foot_two h.fr k2 (Fresh.right h.fr).nodup k4 (fun q hq=>.inl hq) (.inr fun q hq=>hq)
  have f3:=fun q hq=>(f2 q hq).imp id And.left
  exact ⟨⟨v.r,v.c,fs',v.fc⟩,⟨hw,h.fr.foot hB f1 f3 hw.lt⟩,⟨rfl,rfl,hu.mono (fun q hq=>List.mem_append.2 (.inl (h6 q hq))),f3⟩,fun q hm=>by
    rcases List.mem_append.1 hm with hm | hm
    · exact (k3 q hm).imp (fun h9=>⟨List.mem_append.2 (.inl h9.1),h9.2⟩) id
    · exact .inl ⟨List.mem_append.2 (.inr hm),fun h9=>hap q (h6 q (List.mem_cons_of_mem _ h9)) hm⟩⟩
theorem OT.chan {B:Nat} {w:World} {v:TV} {t:Team} {i j:Nat} {row:List Chan} {c:Chan} (h:OT B w v t) (hB:B≤w.heap.size) (hi:t.channels[i]? = some row) (hj:row[j]? = some c) :
    ∃ (cst:List (List Value)) (gt:Nat) (vs:Sv) (css:List (List Value)) (g:Nat) (vc:CV),Own w 0 71 1 v.c.A v.c.n v.c.c cst∧cst[i]? = some [.slice (some ⟨g,0,none⟩) vs.n vs.c]∧v.c.A=some ⟨gt,0,none⟩∧vs.A=some ⟨g,0,none⟩∧row.length=vs.n ∧
      Own w 0 84 6 vs.A vs.n vs.c css∧css[j]? = some (cChan vc c.base c.expected)∧OwC w vc c∧g ∉ fpC vc∧gt≠g∧gt ∉ fpC vc∧(∀ q∈gt :: g :: fpC vc,q∈fpT v)∧(fpC vc).Nodup ∧
      ∀ w' c' vc',Own w' 0 84 6 vs.A vs.n vs.c (css.set j (cChan vc' c'.base c'.expected))→OwC w' vc' c'→Upd (g :: fpC vc) w w'→(fpC vc').Nodup→(∀ q∈fpC vc',q∈fpC vc∨w.heap.size≤q) →
        ∃ v',OT B w' v' (setC t i j c')∧TStep w v w' v'∧∀ q∈fpT v',q∈fpT v∨q∈fpC vc':=by
  have hfc:Fresh B w v.fc:=Fresh.right h.fr
  have hap:∀ k∈v.fr,k ∉ v.fc:=Fresh.apart h.fr
  obtain ⟨cst,ft,cs,gt,h1,h2,⟨vs,rfl,h3⟩,h4,h5,h6,h7,h8⟩:=h.own.c.refocus2 loc_Cs hfc.nodup hi
  have hl:=h3.len.out
  obtain ⟨css,f,cs2,g,k1,k2,⟨vc,rfl,k3,rfl⟩,k4,k5,k6,k7,k8⟩:=h3.refocus2 loc_Ce h7 hj
  have e1:g∈ft:=k6 g List.mem_cons_self
  have hall:∀ q∈gt :: g :: fpC vc,q∈v.fc:=fun q hq=>by
    rcases List.mem_cons.1 hq with rfl | hq
    · exact h6 _ List.mem_cons_self
    · exact h6 _ (List.mem_cons_of_mem _ (k6 q hq))
  refine ⟨cst,gt,vs,css,g,vc,h1,by rw [h2,k4],h4,k4,hl,k1,k2,k3,k5,fun e=>h5 (e ▸ e1),fun hm=>h5 (k6 gt (List.mem_cons_of_mem _ hm)),fun q hq=>List.mem_append.2 (.inr (hall q hq)),k7,fun w' c' vc' ho hk hu hn hq=>?_⟩
  obtain ⟨fs',m1,m2,m3⟩:=k8 w' _ c' _ ho ⟨vc',rfl,hk,rfl⟩ hu hn hq
  have hu2:Upd (gt :: ft) w w':=hu.mono fun q hq=>List.mem_cons_of_mem _ (k6 q hq)
  have hcst:Own w' 0 71 1 v.c.A v.c.n v.c.c cst:=h1.upd hu fun q hq hm=>by
    rw [h4] at hq;simp [obl,ob] at hq;subst hq;exact h5 (k6 q hm)
  have m5:∀ q∈fs',q∈ft∨w.heap.size≤q:=fun q hm=>by
    rcases m3 q hm with h9 | h9
    · exact .inl h9.1
    · rcases hq q h9 with h10 | h10
      · exact .inl (k6 q (List.mem_cons_of_mem _ h10))
      · exact .inr h10
  obtain ⟨fs2,n1,n2,n3⟩:=h8 w' [.slice vs.A vs.n vs.c] (row.set j c') fs' (by rw [List.set_getElem?_self_ h2];exact hcst) ⟨vs,rfl,m1⟩ hu2 m2 (fun q hm=>m5 q hm)
  have n4:∀ q∈fs2,q∈v.fc∨(w.heap.size≤q∧q∈fpC vc'):=fun q hq=>by
    rcases n3 q hq with h1 | h1
    · exact .inl h1.1
    · rcases m3 q h1 with h2 | h2
      · exact .inl (h6 q (List.mem_cons_of_mem _ h2.1))
      · rcases m5 q h1 with h3 | h3
        · exact .inl (h6 q (List.mem_cons_of_mem _ h3))
        · exact .inr ⟨h3,h2⟩
  have hc:=h.own.r.upd loc_Ro hu fun k hk hm=>hap k hk (hall k (List.mem_cons_of_mem _ hm))
  have hw:OwT w' ⟨v.r,v.c,v.fr,fs2⟩ (setC t i j c'):=⟨hc,by unfold setC;rw [rowOf_eq hi];exact n1⟩
  obtain ⟨f1,f2⟩:=foot_two h.fr (Fresh.left h.fr).nodup n2 (fun q hq=>.inl hq) n4 (.inl fun q hq=>hq)
  have f3:=fun q hq=>(f2 q hq).imp id And.left
  exact ⟨⟨v.r,v.c,v.fr,fs2⟩,⟨hw,h.fr.foot hB f1 f3 hw.lt⟩,⟨rfl,rfl,hu.mono (fun q hq=>List.mem_append.2 (.inr (hall q (List.mem_cons_of_mem _ hq)))),f3⟩,fun q hq=>(f2 q hq).imp id And.right⟩
theorem Own.put_ {B e sz n c g k j:Nat} {w:World} {css:List (List Value)} {cs:List Value} (hown:Own w B e sz (some ⟨g,0,none⟩) n c css) (hk:css[k]? = some cs) (hj:j < sz) (u:Value) {o:Nat} (ho:o=k * sz+j) :
    Own (w.setCell ⟨g,o,none⟩ u) B e sz (some ⟨g,0,none⟩) n c (css.set k (cs.set j u))∧(css.set k (cs.set j u))[k]? = some (cs.set j u):=by
  subst ho
  refine ⟨(hown.cell hk hj u).1,?_⟩
  rw [List.getElem?_set_self (List.getElem?_eq_some_iff.1 hk).1]
theorem set2_ {α:Type} (l:List α) (k:Nat) (x y:α):(l.set k x).set k y=l.set k y:=by rw [List.set_set]
theorem OT.rob {B:Nat} {w:World} {v:TV} {t:Team} {j:Nat} {r:Robot} (h:OT B w v t) (hB:B≤w.heap.size) (hr:t.robots[j]? = some r) :
    ∃ (g:Nat) (vr:Sv),v.r.A=some ⟨g,0,none⟩∧w.cell? ⟨g,j * 2,none⟩=some (.slice vr.A vr.n vr.c)∧w.cell? ⟨g,j * 2+1,none⟩=some (.string r.journal)∧(∀ o,w.frozen? ⟨g,o,none⟩=false)∧OwF w vr r.factors∧g < w.heap.size∧B≤g∧g∈fpT v∧(∀ q∈fpF vr,q < w.heap.size) ∧
      (∀ w1,Below w.heap.size w w1→∀ (vr':Sv) (fs':List Factor),OwF w1 vr' fs'→Fresh w.heap.size w1 (fpF vr')→∀ s:ByteArray,
        ∃ v',OT B ((w1.setCell ⟨g,j * 2,none⟩ (.slice vr'.A vr'.n vr'.c)).setCell ⟨g,j * 2+1,none⟩ (.string s)) v' (setR t j ⟨fs',s⟩)∧TStep w v ((w1.setCell ⟨g,j * 2,none⟩ (.slice vr'.A vr'.n vr'.c)).setCell ⟨g,j * 2+1,none⟩ (.string s)) v'∧∀ q∈fpT v',(q∈fpT v∧q ∉ fpF vr)∨q∈fpF vr') ∧
      (∀ w1,Below w.heap.size w w1→∀ (vr':Sv) (fs':List Factor),OwF w1 vr' fs'→Fresh w.heap.size w1 (fpF vr') →
        ∃ v',OT B (w1.setCell ⟨g,j * 2,none⟩ (.slice vr'.A vr'.n vr'.c)) v' (setR t j ⟨fs',r.journal⟩)∧TStep w v (w1.setCell ⟨g,j * 2,none⟩ (.slice vr'.A vr'.n vr'.c)) v'∧∀ q∈fpT v',(q∈fpT v∧q ∉ fpF vr)∨q∈fpF vr') ∧
      (∀ w1,Below w.heap.size w w1→∀ s:ByteArray,
        ∃ v',OT B (w1.setCell ⟨g,j * 2+1,none⟩ (.string s)) v' (setR t j ⟨r.factors,s⟩)∧TStep w v (w1.setCell ⟨g,j * 2+1,none⟩ (.string s)) v'∧∀ q∈fpT v',q∈fpT v):=by
  obtain ⟨css,g,vr,h1,h2,h3,h4,h5,h6,h7,h8⟩:=h.robot hB hr
  rw [h4] at h1 h8
  have hgl:=h.lt g (h6 g List.mem_cons_self)
  have hglo:=h.fr.lo g (h6 g List.mem_cons_self)
  have new_g:∀ {fs:List Nat} {w1:World},Fresh w.heap.size w1 fs→∀ q∈fs,q ∉ [g]:=fun hf q hq hm=>by
    have:=hf.lo q hq;simp at hm;omega
  refine ⟨g,vr,h4,?_,?_,h1.frozen rfl,h3,hgl,hglo,h6 g List.mem_cons_self,fun q hq=>h.lt q (h6 q (List.mem_cons_of_mem _ hq)),?_,?_,?_⟩
  · exact by simpa using own_cells h1 h2 0 _ rfl
  · exact own_cells h1 h2 1 _ rfl
  · intro w1 hb vr' fs' ho hf s
    obtain ⟨k1,k2⟩:=(h1.below hb).put_ (j:=0) h2 (by omega) (.slice vr'.A vr'.n vr'.c) (o:=j * 2) (by omega)
    obtain ⟨m1,m2⟩:=k1.put_ (j:=1) k2 (by omega) (.string s) (o:=j * 2+1) (by omega)
    rw [set2_] at m1
    have hu:Upd [g] w1 ((w1.setCell ⟨g,j * 2,none⟩ (.slice vr'.A vr'.n vr'.c)).setCell ⟨g,j * 2+1,none⟩ (.string s)):=((Upd.refl _ _).set_in (by simp) _).set_in (by simp) _
    exact h8 _ ⟨fs',s⟩ vr' m1 (ho.upd hu (new_g hf)) ((Upd.of_below hb).trans (hu.mono (fun q hq=>by simp at hq;subst hq;exact List.mem_cons_self))) hf.nodup (fun q hq=>.inr (hf.lo q hq))
  · intro w1 hb vr' fs' ho hf
    obtain ⟨k1,k2⟩:=(h1.below hb).put_ (j:=0) h2 (by omega) (.slice vr'.A vr'.n vr'.c) (o:=j * 2) (by omega)
    have hu:Upd [g] w1 (w1.setCell ⟨g,j * 2,none⟩ (.slice vr'.A vr'.n vr'.c)):=(Upd.refl _ _).set_in (by simp) _
    exact h8 _ ⟨fs',r.journal⟩ vr' k1 (ho.upd hu (new_g hf)) ((Upd.of_below hb).trans (hu.mono (fun q hq=>by simp at hq;subst hq;exact List.mem_cons_self))) hf.nodup (fun q hq=>.inr (hf.lo q hq))
  · intro w1 hb s
    obtain ⟨k1,k2⟩:=(h1.below hb).put_ (j:=1) h2 (by omega) (.string s) (o:=j * 2+1) (by omega)
    have hu:Upd [g] w1 (w1.setCell ⟨g,j * 2+1,none⟩ (.string s)):=(Upd.refl _ _).set_in (by simp) _
    obtain ⟨v',x1,x2,x3⟩:=h8 _ ⟨r.factors,s⟩ vr k1 ((h3.below hb).upd hu (fun q hq hm=>by simp at hm;subst hm;exact h5 hq)) ((Upd.of_below hb).trans (hu.mono (fun q hq=>by simp at hq;subst hq;exact List.mem_cons_self))) h7 (fun q hq=>.inl hq)
    exact ⟨v',x1,x2,fun q hq=>(x3 q hq).elim And.left fun h9=>h6 q (List.mem_cons_of_mem _ h9)⟩
def setChan (w:World) (g j:Nat) (v:CV) (c:Chan):World :=
  (((((w.setCell ⟨g,j * 6,none⟩ (.slice v.q.A v.q.n v.q.c)).setCell ⟨g,j * 6+1,none⟩ (.int .i64 c.base)).setCell ⟨g,j * 6+2,none⟩ (.int .i64 c.expected)).setCell ⟨g,j * 6+3,none⟩ (.slice v.i.A v.i.n v.i.c)).setCell ⟨g,j * 6+4,none⟩ (.slice v.n.A v.n.n v.n.c)).setCell ⟨g,j * 6+5,none⟩ (.slice v.a.A v.a.n v.a.c)
theorem setChan_upd (w:World) (g j:Nat) (v:CV) (c:Chan):Upd [g] w (setChan w g j v c) :=
  ((((((Upd.refl _ _).set_in (by simp) _).set_in (by simp) _).set_in (by simp) _).set_in (by simp) _).set_in (by simp) _).set_in (by simp) _
theorem OT.ch {B:Nat} {w:World} {v:TV} {t:Team} {i j:Nat} {row:List Chan} {c:Chan} (h:OT B w v t) (hB:B≤w.heap.size) (hi:t.channels[i]? = some row) (hj:row[j]? = some c) :
    ∃ (gt g:Nat) (vs:Sv) (vc:CV),v.c.A=some ⟨gt,0,none⟩∧w.cell? ⟨gt,i,none⟩=some (.slice (some ⟨g,0,none⟩) vs.n vs.c)∧row.length=vs.n ∧
      (w.cell? ⟨g,j * 6,none⟩=some (.slice vc.q.A vc.q.n vc.q.c)∧w.cell? ⟨g,j * 6+1,none⟩=some (.int .i64 c.base)∧w.cell? ⟨g,j * 6+2,none⟩=some (.int .i64 c.expected)∧w.cell? ⟨g,j * 6+3,none⟩=some (.slice vc.i.A vc.i.n vc.i.c)∧w.cell? ⟨g,j * 6+4,none⟩=some (.slice vc.n.A vc.n.n vc.n.c)∧w.cell? ⟨g,j * 6+5,none⟩=some (.slice vc.a.A vc.a.n vc.a.c)) ∧
      (∀ o,w.frozen? ⟨g,o,none⟩=false)∧RdC w vc c∧lenC vc∧g < w.heap.size∧gt < w.heap.size∧B≤g∧B≤gt∧gt≠g ∧
      ∀ w1,Below w.heap.size w w1→∀ (vc':CV) (c':Chan),OwC w1 vc' c'→Fresh w.heap.size w1 (fpC vc')→∃ v',OT B (setChan w1 g j vc' c') v' (setC t i j c')∧TStep w v (setChan w1 g j vc' c') v'∧∀ q∈fpT v',q∈fpT v∨q∈fpC vc':=by
  obtain ⟨cst,gt,vs,css,g,vc,h1,h2,h3,h4,h5,k1,k2,k3,k4,k5,k6,k7,k8,k9⟩:=h.chan hB hi hj
  rw [h4] at k1 k9
  rw [h3] at h1
  have hgm:g∈fpT v:=k7 g (List.mem_cons_of_mem _ List.mem_cons_self)
  have hgt:gt∈fpT v:=k7 gt List.mem_cons_self
  refine ⟨gt,g,vs,vc,h3,by simpa using own_cells h1 h2 0 _ rfl,h5,⟨by simpa using own_cells k1 k2 0 _ rfl,own_cells k1 k2 1 _ rfl,own_cells k1 k2 2 _ rfl,own_cells k1 k2 3 _ rfl,own_cells k1 k2 4 _ rfl,own_cells k1 k2 5 _ rfl⟩,k1.frozen rfl,k3.rd,k3.lens,h.lt g hgm,h.lt gt hgt,h.fr.lo g hgm,h.fr.lo gt hgt,k5,fun w1 hb vc' c' ho hf=>?_⟩
  obtain ⟨a1,b1⟩:=(k1.below hb).put_ (j:=0) k2 (by omega) (.slice vc'.q.A vc'.q.n vc'.q.c) (o:=j * 6) (by omega)
  obtain ⟨a2,b2⟩:=a1.put_ (j:=1) b1 (by omega) (.int .i64 c'.base) (o:=j * 6+1) (by omega)
  obtain ⟨a3,b3⟩:=a2.put_ (j:=2) b2 (by omega) (.int .i64 c'.expected) (o:=j * 6+2) (by omega)
  obtain ⟨a4,b4⟩:=a3.put_ (j:=3) b3 (by omega) (.slice vc'.i.A vc'.i.n vc'.i.c) (o:=j * 6+3) (by omega)
  obtain ⟨a5,b5⟩:=a4.put_ (j:=4) b4 (by omega) (.slice vc'.n.A vc'.n.n vc'.n.c) (o:=j * 6+4) (by omega)
  obtain ⟨a6,b6⟩:=a5.put_ (j:=5) b5 (by omega) (.slice vc'.a.A vc'.a.n vc'.a.c) (o:=j * 6+5) (by omega)
  rw [set2_,set2_,set2_,set2_,set2_] at a6
  have hu:=setChan_upd w1 g j vc' c'
  exact k9 _ c' vc' a6 (ho.upd hu (fun q hq hm=>by have:=hf.lo q hq;have:=h.lt g hgm;simp at hm;omega)) ((Upd.of_below hb).trans (hu.mono (fun q hq=>by simp at hq;subst hq;exact List.mem_cons_self))) hf.nodup (fun q hq=>.inr (hf.lo q hq))
theorem jrn_size {t:Team} {r:Robot} {N:Nat} (h:bulkT t≤N) (hr:r∈t.robots):r.journal.size≤N:=by
  have h1:r.bulk≤sumBulk Robot.bulk t.robots:=few_each hr
  have h2:r.bulk=bulkF r.factors+r.journal.size:=rfl
  unfold bulkT at h;omega
theorem isRob_iff {t:Team} {r:Int}:isRob t r=true ↔ 0≤r∧r < t.robots.length:=by
  unfold isRob;rw [inR_iff];omega
theorem impl_isRobot_c (v:TV) (t:Team) (r:Int) (w:World) (hl:t.robots.length=v.r.n) (hn:v.r.n≤4194304) :
    Calls Tryz.prog 34 #[vTeam v,.int .i64 r] w fun e w'=>e=rBool (isRob t r)∧Below w.heap.size w w':=by
  obtain ⟨⟨Ar,nr,cr⟩,⟨Ac,nc,cc⟩,fr,fc⟩:=v
  dsimp only at hl hn
  by_cases h0:0≤r
  · by_cases h1:r < (nr:Int)
    · have hb:isRob t r=true:=isRob_iff.2 (by omega)
      go_enter Tryz.func34,Tryz.ntmps34
      go_wp2_with fail
      go_ret
      exact ⟨by first | rfl | (rw [hb];rfl),bAlloc (Below.refl _ _) _⟩
    · have hb:isRob t r=false:=by rw [Bool.eq_false_iff];intro h;have:=isRob_iff.1 h;omega
      go_enter Tryz.func34,Tryz.ntmps34
      go_wp2_with fail
      go_ret
      exact ⟨by first | rfl | (rw [hb];rfl),bAlloc (Below.refl _ _) _⟩
  · have hb:isRob t r=false:=by rw [Bool.eq_false_iff];intro h;have:=isRob_iff.1 h;omega
    have h1:¬ r ≥ 0:=by omega
    go_enter Tryz.func34,Tryz.ntmps34
    go_wp2_with fail
    go_ret
    exact ⟨by first | rfl | (rw [hb];rfl),bAlloc (Below.refl _ _) _⟩
theorem spec_l30Robot_c (v:TV) (t:Team) (r:Int) (w:World) (hl:t.robots.length=v.r.n) (hn:v.r.n≤4194304) :
    Calls Tryz.prog 57 #[vTeam v,.int .i64 r] w fun e w'=>e=rBool (isRob t r)∧Below w.heap.size w w':=by
  obtain ⟨⟨Ar,nr,cr⟩,⟨Ac,nc,cc⟩,fr,fc⟩:=v
  dsimp only at hl hn
  have hw:IntKind.i64.wrap ((nr:Int) - 1)=(nr:Int) - 1:=by
    rcases Nat.eq_zero_or_pos nr with h | h
    · subst h;rfl
    · exact wrap_small _ (by omega) (by omega)
  go_enter Tryz.func57,Tryz.ntmps57
  go_wp2_with fail
  refine Calls.mono (l01In_c _ _ _ _) ?_
  rintro e w2 ⟨rfl,rfl⟩
  go_wp2_with fail
  go_ret
  exact ⟨by unfold isRob;rw [hl];rfl,bAlloc (Below.refl _ _) _⟩
theorem isTeam_parts {t:Team} (h:isTeam t=true):1≤t.robots.length∧t.robots.length≤3∧t.channels.length=t.robots.length∧(∀ r∈t.robots,isFL r.factors=true)∧∀ l∈t.channels,l.length=t.robots.length∧∀ c∈l,isChan c=true:=by
  have hp:=isTeam_pos h
  unfold isTeam at h
  simp only [Bool.and_eq_true,List.all_eq_true,beq_iff_eq,decide_eq_true_eq] at h
  refine ⟨hp.1,hp.2,h.2.1,h.2.2.1,fun l hl=>?_⟩
  have:=h.2.2.2 l hl
  exact this
end Go.Proofs.YtdfemnffpaopfaaGreatDoor
