/- Texts of this proof, one behind the other: Own, Eq, Lists. -/
import Derived.Laws.OwnMore
import Derived.Maps.AppendAt
import Derived.Deep.AppendLies
import Derived.RegionTactic
import Derived.Laws.BytesString
import Derived.Test.YtdfemnffpaopfaaGreatDoorProg
import Derived.BigQuiet
import Derived.Deep.QuietTactic
import Derived.StillTailTactics
import Derived.Deep.RegionHeld3
import Derived.Test.YtdfemnffpaopfaaGreatDoorGmf0
namespace Go.Proofs.YtdfemnffpaopfaaGreatDoor
open Go.RowKit
set_option linter.unusedVariables false
set_option linter.unusedSimpArgs false

theorem flat_len {css:List (List Value)} {sz:Nat} (he:∀ cs∈css,cs.length=sz):css.flatten.length=css.length * sz:=by
  induction css with
  | nil=>simp
  | cons c r ih =>
    rw [List.flatten_cons,List.length_append,ih (fun x hx=>he x (by simp [hx])),he c (by simp),List.length_cons,Nat.add_mul]
    omega
theorem flat_get {css:List (List Value)} {sz i j:Nat} {cs:List Value} {v:Value} (he:∀ cs∈css,cs.length=sz) (hi:css[i]? = some cs) (hj:cs[j]? = some v):css.flatten[i * sz+j]? = some v:=by
  induction css generalizing i with
  | nil=>simp at hi
  | cons c r ih =>
    have hc:c.length=sz:=he c (by simp)
    cases i with
    | zero =>
      simp only [List.getElem?_cons_zero,Option.some.injEq] at hi
      subst hi
      have hjl:j < c.length:=(List.getElem?_eq_some_iff.1 hj).1
      rw [List.flatten_cons,Nat.zero_mul,Nat.zero_add,List.getElem?_append_left hjl,hj]
    | succ i =>
      simp only [List.getElem?_cons_succ] at hi
      have:=ih (fun x hx=>he x (by simp [hx])) hi
      rw [List.flatten_cons,Nat.add_mul,List.getElem?_append_right (by omega)]
      rw [← this];congr 1;omega
theorem flat_splice {css:List (List Value)} {sz i:Nat} {cs:List Value} (he:∀ cs∈css,cs.length=sz) (hi:i < css.length) :
    css.flatten.take (i * sz)++cs++css.flatten.drop (i * sz+sz)=(css.set i cs).flatten:=by
  induction css generalizing i with
  | nil=>simp at hi
  | cons c r ih =>
    have hc:c.length=sz:=he c (by simp)
    cases i with
    | zero =>
      rw [Nat.zero_mul,Nat.zero_add,List.take_zero,List.nil_append,List.set_cons_zero,List.flatten_cons,List.flatten_cons,← hc,List.drop_left]
    | succ i =>
      have:=ih (i:=i) (fun x hx=>he x (by simp [hx])) (by simpa using hi)
      rw [List.set_cons_succ,List.flatten_cons,List.flatten_cons,← this]
      have e1:(i+1) * sz=c.length+i * sz:=by rw [hc,Nat.add_mul];omega
      have e2:c.length+i * sz+sz=c.length+(i * sz+sz):=by omega
      rw [e1,e2,List.take_length_add_append,List.drop_length_add_append]
      simp [List.append_assoc]
theorem flat_set {css:List (List Value)} {sz i j:Nat} {cs:List Value} {v:Value} (he:∀ cs∈css,cs.length=sz) (hi:css[i]? = some cs) (hj:j < sz) :
    css.flatten.set (i * sz+j) v=(css.set i (cs.set j v)).flatten:=by
  induction css generalizing i with
  | nil=>simp at hi
  | cons c r ih =>
    have hc:c.length=sz:=he c (by simp)
    cases i with
    | zero =>
      simp only [List.getElem?_cons_zero,Option.some.injEq] at hi
      subst hi
      rw [List.set_cons_zero,List.flatten_cons,List.flatten_cons,Nat.zero_mul,Nat.zero_add,List.set_append_left _ _ (by omega)]
    | succ i =>
      simp only [List.getElem?_cons_succ] at hi
      have:=ih (fun x hx=>he x (by simp [hx])) hi
      rw [List.set_cons_succ,List.flatten_cons,List.flatten_cons,← this,Nat.add_mul,List.set_append_right _ _ (by omega)]
      congr 2;omega

structure Own (w:World) (B:Nat) (e sz:Nat) (A:Option Addr) (n c:Nat) (css:List (List Value)):Prop where
  own:w.ownsRow B e sz (.slice A n c) n css.flatten
  len:css.length=n
  each:∀ cs∈css,cs.length=sz
def ob (A:Option Addr):Option Nat:=A.map (·.block)
theorem ob_slice (A:Option Addr) (n c:Nat):(Value.slice A n c).ownBlock=ob A:=by cases A <;> rfl

section
variable {w w':World} {B e sz n c:Nat} {A:Option Addr} {css:List (List Value)}
theorem Own.lens (h:Own w B e sz A n c css):Hid (css.length=n):=h.len
theorem Own.cases (h:Own w B e sz A n c css):(A=none∧n=0∧c=0∧css=[])∨∃ g,A=some ⟨g,0,none⟩∧B≤g∧g < w.heap.size∧n≤c∧c≤maxLen:=by
  rcases h.own.2 with ⟨hv,hn⟩ | ⟨g,cap,cur,hv,hb,hg,hnc,hcm,_⟩
  · refine .inl ?_
    simp only [Value.slice.injEq] at hv
    exact ⟨hv.1,hn,hv.2.2,List.eq_nil_of_length_eq_zero (by rw [h.len,hn])⟩
  · refine .inr ⟨g,?_⟩
    simp only [Value.slice.injEq,true_and] at hv
    refine ⟨hv.1,hb,?_,by omega,by omega⟩
    rcases Nat.lt_or_ge g w.heap.size with hlt | hge
    · exact hlt
    · rw [Array.getElem?_eq_none hge] at hg;cases hg
theorem Own.lt (h:Own w B e sz A n c css):∀ g,ob A=some g→B≤g∧g < w.heap.size:=by
  intro g hg
  rcases h.cases with ⟨rfl,_⟩ | ⟨g',rfl,h1,h2,_⟩
  · simp [ob] at hg
  · simp only [ob,Option.map_some,Option.some.injEq] at hg;subst hg;exact ⟨h1,h2⟩
theorem Own.row (h:Own w B e sz A n c css):Row w A n sz css:=by
  refine ⟨h.len,fun i cs hi=>?_⟩
  have hin:i < n:=by rw [← h.len];exact (List.getElem?_eq_some_iff.1 hi).1
  rcases h.cases with ⟨rfl,rfl,_⟩ | ⟨g,rfl,_⟩
  · omega
  · refine ⟨g,0,rfl,fun j v hj=>?_⟩
    have hjs:j < sz:=by rw [← h.each cs (List.mem_of_getElem? hi)];exact (List.getElem?_eq_some_iff.1 hj).1
    have hlt:i * sz+j < n * sz:=by
      have:(i+1) * sz≤n * sz:=Nat.mul_le_mul_right _ hin
      rw [Nat.add_mul] at this;omega
    rw [Nat.zero_add,h.own.cellAt _ hlt,flat_get h.each hi hj]
theorem Own.keep (h:Own w B e sz A n c css) (hk:∀ g,ob A=some g→w'.heap[g]? = w.heap[g]?):Own w' B e sz A n c css:=by
  refine ⟨⟨h.own.1,?_⟩,h.len,h.each⟩
  rcases h.own.2 with hn | ⟨g,cap,cur,hv,hb,hg,r⟩
  · exact .inl hn
  · refine .inr ⟨g,cap,cur,hv,hb,?_,r⟩
    simp only [Value.slice.injEq] at hv
    rw [hk g (by rw [hv.1];rfl),hg]
theorem Own.below (h:Own w B e sz A n c css) (hb:Below w.heap.size w w'):Own w' B e sz A n c css :=
  h.keep fun g hg=>hb.block g (h.lt g hg).2
theorem Own.grown (h:Own w B e sz A n c css) {row:Option Nat} (hg:w.grownBy w' row) (hne:∀ g,ob A=some g→row≠some g):Own w' B e sz A n c css :=
  h.keep fun g hgg=>hg.block g (h.lt g hgg).2 (fun e=>hne g hgg e.symm)
theorem Own.rebase {B':Nat} (h:Own w B e sz A n c css) (hB:B'≤B):Own w B' e sz A n c css:=by
  refine ⟨⟨h.own.1,?_⟩,h.len,h.each⟩
  rcases h.own.2 with hn | ⟨g,cap,cur,hv,hb,r⟩
  · exact .inl hn
  · exact .inr ⟨g,cap,cur,hv,by omega,r⟩
theorem Own.frozen (h:Own w B e sz A n c css) {g:Nat} (hA:A=some ⟨g,0,none⟩) (j:Nat):w.frozen? ⟨g,j,none⟩=false:=by
  subst hA;exact h.own.frozenAt j
theorem Own.nil_ (w:World) (B e sz:Nat):Own w B e sz none 0 0 []:=⟨w.ownsRow_nil B e sz,rfl,by simp⟩
end

section
variable {P:Program} {w:World} {ops:Array Oper} {rest:List Oper} {o:Oper} {a:Act} {Q:Exit→Act→World→Prop}

theorem madeCells_flat (z:List Value) (n sz:Nat) (hz:z.length=sz) (hs:0 < sz):(madeCells z.toArray (n * sz)).toList=(List.replicate n z).flatten:=by
  apply List.ext_getElem?
  intro j
  by_cases hj:j < n * sz
  · have h1:j / sz < n:=Nat.div_lt_of_lt_mul (by rw [Nat.mul_comm];exact hj)
    have h2:j % sz < z.length:=by rw [hz];exact Nat.mod_lt _ hs
    have e:j=(j / sz) * sz+j % sz:=by rw [Nat.mul_comm];exact (Nat.div_add_mod j sz).symm
    have hr:(List.replicate n z).flatten[(j / sz) * sz+j % sz]? = some z[j % sz] :=
      flat_get (sz:=sz) (by intro cs hcs;rw [List.eq_of_mem_replicate hcs,hz]) (by simp [h1]) (List.getElem?_eq_getElem h2)
    rw [← e] at hr
    rw [hr]
    simp [madeCells,hj,hz,List.getElem?_eq_getElem h2]
  · have hl:(List.replicate n z).flatten.length=n * sz:=by
      rw [flat_len (sz:=sz) (by intro cs hcs;rw [List.eq_of_mem_replicate hcs,hz])];simp
    rw [List.getElem?_eq_none (by simp [madeCells];omega),List.getElem?_eq_none (by omega)]

theorem wpList_make (hg:o.guard=none) (l c:Operand) (t:TypeId) (hop:o.op=Op.makeSlice t l c)
    (B e sz bytes:Nat) (i:TypeInfo) (z:Value) (h1:P.underlying t=some (.slice e)) (h2:P.info? e=some i) (h3:i.zero=some z) (h4:i.size=sz) (h5:i.bytes=bytes)
    (kl kc:IntKind) (n:Nat) (hl:a.eval l=.int kl (n:Int)) (hc:a.eval c=.int kc (n:Int)) (zs:List Value) (hzs:z.cells=zs.toArray) (hzl:zs.length=sz) (hs:0 < sz) (b2:bytes * n≤281474976710656) (b3:n≤maxLen) (b4:B≤w.heap.size)
    (hK:∀ w',Own w' B e sz (some ⟨w.heap.size,0,none⟩) n n (List.replicate n zs)→w.grownBy w' none→wpList P ops Q rest (a.put o.dst (.slice (some ⟨w.heap.size,0,none⟩) n n)) w') :
    wpList P ops Q (o :: rest) a w:=by
  refine wpList_make_full w hg l c t hop B e i z sz h1 h2 h3 h4 kl kc _ _ n hl hc rfl rfl (by rw [h5];exact b2) b3 b4 fun w' hw hgr=>hK w' ⟨?_,by simp,?_⟩ hgr
  · rw [hzs,madeCells_flat zs n sz hzl hs] at hw;exact hw
  · intro cs hcs;rw [List.eq_of_mem_replicate hcs,hzl]

theorem run_store_elem {B e sz n c g k:Nat} {css:List (List Value)} (hown:Own w B e sz (some ⟨g,0,none⟩) n c css) (hk:k < n) (ty:TypeId) (hty:(P.info? ty).map (·.size)=some sz) (v:Value) (cs:List Value) (hv:v.cells=cs.toArray) (hcs:cs.length=sz) (h1:∀ u∈cs,u.oneCell'=true) :
    ∃ w',(storeVar ty ⟨g,k * sz,none⟩ v).run P w=.ok () w'∧Own w' B e sz (some ⟨g,0,none⟩) n c (css.set k cs)∧w.grownBy w' (some g):=by
  rcases hown.own.2 with ⟨hv',_⟩ | ⟨g',cap,cur,hv',hb,hg,hnc,hcm,hcs',htake⟩
  · simp at hv'
  · simp only [Value.slice.injEq,Option.some.injEq,Addr.mk.injEq,and_true,true_and] at hv'
    obtain ⟨rfl,rfl⟩:=hv'
    have hk1:(k+1) * sz≤n * sz:=Nat.mul_le_mul_right _ hk
    have hk2:n * sz≤c * sz:=Nat.mul_le_mul_right _ hnc
    rw [Nat.add_mul] at hk1
    have hst:=run_storeCells_at P g (k * sz) e cs 0 cur w hg (by rw [hcs];omega) h1
    refine ⟨w.setRow g ((cur.toList.take (k * sz)++cs++cur.toList.drop (k * sz+sz)).toArray),?_,⟨⟨?_,.inr ⟨g,c,_,rfl,hb,setRow_heap w g cur _ e _ hg,hnc,hcm,?_,?_⟩⟩,by simp [hown.len],?_⟩,
      ⟨rfl,rfl,rfl,by simp [World.setRow],fun q _ hq=>setRow_other w g q _ (fun e=>hq (by simp [e]))⟩⟩
    · cases hq:P.info? ty with
      | none=>simp [hq] at hty
      | some i =>
        have hi:i.size=sz:=by simpa [hq] using hty
        simp only [Nat.add_zero] at hst
        simp [storeVar,sizeOf,typeInfo,hq,hi,hv,hcs,hst]
    · rw [← flat_splice hown.each (by rw [hown.len];exact hk)]
      have:=hown.own.1
      simp only [List.length_append,List.length_take,List.length_drop]
      omega
    · simp only [List.size_toArray,List.length_append,List.length_take,List.length_drop,Array.length_toList]
      omega
    · rw [← flat_splice hown.each (by rw [hown.len];exact hk),← htake]
      simp only [List.take_append,List.take_take,List.length_take,List.drop_take,List.length_append,Array.length_toList]
      have e1:min (n * sz) (k * sz)=k * sz:=by omega
      have e2:min (k * sz) (n * sz)=k * sz:=by omega
      have e3:min (k * sz) cur.size=k * sz:=by omega
      simp only [e1,e2,e3,hcs]
      congr 1
      congr 1
      rw [List.take_of_length_le];omega
    · intro x hx
      rcases List.mem_or_eq_of_mem_set hx with h | h
      · exact hown.each x h
      · rw [h,hcs]

theorem wpList_store_elem (hgd:o.guard=none) (ty:TypeId) (x v:Operand) (ho:o.op=.store ty x v) (B e sz n c g k off:Nat) (hoff:off=k * sz) (css:List (List Value)) (hx:a.eval x=.pointer (some ⟨g,off,none⟩)) (V:Value) (cs:List Value) (hv:a.eval v=V) (hV:V.cells=cs.toArray)
    (hcs:cs.length=sz) (h1:∀ u∈cs,u.oneCell'=true) (hty:(P.info? ty).map (·.size)=some sz) (hown:Own w B e sz (some ⟨g,0,none⟩) n c css) (hk:k < n)
    (h:∀ w',Own w' B e sz (some ⟨g,0,none⟩) n c (css.set k cs)→w.grownBy w' (some g)→wpList P ops Q rest (a.put o.dst undef) w'):wpList P ops Q (o :: rest) a w:=by
  subst hoff
  obtain ⟨w',hrun,h2,h3⟩:=run_store_elem (P:=P) hown hk ty hty V cs hV hcs h1
  refine wpList_plain hgd fun _ hK=>?_
  unfold Oper.wp execOp
  simp only [ho,hx,hv,Instr.storeAt,Instr.sureAddr,Sem.run_bind,Sem.run_pure,Result.andThen_ok,hrun]
  exact hK _ _ (h w' h2 h3)

theorem Own.cell {B e sz n c g k j:Nat} {css:List (List Value)} {cs:List Value} (hown:Own w B e sz (some ⟨g,0,none⟩) n c css) (hk:css[k]? = some cs) (hj:j < sz) (u:Value) :
    Own (w.setCell ⟨g,k * sz+j,none⟩ u) B e sz (some ⟨g,0,none⟩) n c (css.set k (cs.set j u))∧w.grownBy (w.setCell ⟨g,k * sz+j,none⟩ u) (some g):=by
  obtain ⟨h1,h2⟩:=hown.own.stored (k * sz+j) u
  refine ⟨⟨?_,by simp [hown.len],?_⟩,h2⟩
  · rw [← flat_set hown.each hk hj];exact h1
  · intro x hx
    rcases List.mem_or_eq_of_mem_set hx with h | h
    · exact hown.each x h
    · rw [h,List.length_set];exact hown.each cs (List.mem_of_getElem? hk)

theorem wp_append {K:Act→World→Prop} (s x:Operand) (t:TypeId)
    (ho:o.op=.call { callee:=.builtin .append,args:=#[s,x],argTypes:=#[t,t] })
    (B e sz bytes:Nat) (i:TypeInfo) (z:Value) (ht:P.underlying t=some (.slice e)) (hi:P.info? e=some i) (hz:i.zero=some z)
    (hsize:i.size=sz) (hby:i.bytes=bytes) (hzs:z.cells.size=sz) (hsz:0 < sz)
    (A:Option Addr) (n c:Nat) (css:List (List Value)) (hs:a.eval s=.slice A n c) (hown:Own w B e sz A n c css)
    (A2:Option Addr) (m c2:Nat) (news:List (List Value)) (hx:a.eval x=.slice A2 m c2) (hr:Row w A2 m sz news) (he:∀ cs∈news,cs.length=sz) (h1:∀ cs∈news,∀ u∈cs,u.oneCell'=true)
    (h63:n+m≤maxLen) (hbytes:(n+m) * bytes≤140737488355328) (hbase:B≤w.heap.size)
    (h:∀ A' c' w',Own w' B e sz A' (n+m) c' (css++news)→w.grownBy w' (ob A)→(ob A'=ob A∨ob A'=some w.heap.size)→K (a.put o.dst (.slice A' (n+m) c')) w'):o.wp P a w K Q:=by
  have hflat:news.flatten.length=m * sz:=by rw [flat_len he,hr.1]
  have done:∀ v' w',w'.ownsRow B e sz v' (n+m) (css.flatten++news.flatten)→w.grownBy w' (ob A)→(v'.ownBlock=ob A∨v'.ownBlock=some w.heap.size)→K (a.put o.dst v') w':=by
    intro v' w' h2 h3 h4
    obtain ⟨A',c',rfl⟩:∃ A' c',v'=.slice A' (n+m) c':=by
      rcases h2.2 with ⟨rfl,h0⟩ | ⟨g,cap,cur,rfl,_⟩
      · exact ⟨none,0,by rw [h0]⟩
      · exact ⟨_,_,rfl⟩
    rw [ob_slice] at h4
    refine h A' c' w' ⟨by rw [List.flatten_append];exact h2,by rw [List.length_append,hown.len,hr.1],?_⟩ h3 h4
    intro cs hcs
    rcases List.mem_append.1 hcs with h5 | h5
    · exact hown.each cs h5
    · exact he cs h5
  have ho1:∀ u∈news.flatten,u.oneCell'=true:=by
    intro u hu
    obtain ⟨cs,hcs,huc⟩:=List.mem_flatten.1 hu
    exact h1 cs hcs u huc
  rcases A2 with _ | ad
  · have hm:m=0:=by
      rcases Nat.eq_zero_or_pos m with h0 | h0
      · exact h0
      · obtain ⟨g,off,hA,_⟩:=hr.2 0 _ (List.getElem?_eq_getElem (by rw [hr.1];exact h0))
        cases hA
    subst hm
    have hn:news=[]:=List.eq_nil_of_length_eq_zero hr.1
    subst hn
    have hrun:(Builtin.append_ #[t,t] o.type #[.slice A n c,.slice none 0 c2]).run P w=.ok (.slice A n c) w:=by
      rcases hown.own.2 with ⟨hv,_⟩ | ⟨g,cap,cur,hv,_,_,hnc,_⟩
      · simp only [Value.slice.injEq] at hv
        obtain ⟨rfl,rfl,rfl⟩:=hv
        simp [Builtin.append_,run_underlying ht,sizeOf,typeInfo,hi,Builtin.lenOf,Builtin.firstCells]
      · simp only [Value.slice.injEq,true_and] at hv
        obtain ⟨rfl,rfl⟩:=hv
        simp [Builtin.append_,run_underlying ht,sizeOf,typeInfo,hi,Builtin.lenOf,Builtin.firstCells,hnc,storeCells]
    unfold Oper.wp execOp
    simp only [ho,resolve,invoke,builtin,Sem.run_bind,Sem.run_pure,Result.andThen_ok,List.map_toArray,List.map_cons,List.map_nil,hs,hx,hrun]
    exact done _ w (by simpa using hown.own) (World.grownBy.refl _ _) (.inl (ob_slice _ _ _))
  · have hcells:∀ j u,news.flatten[j]? = some u→w.cell? (ad.add j)=some u:=by
      intro j u hu
      have hj:j < m * sz:=by rw [← hflat];exact (List.getElem?_eq_some_iff.1 hu).1
      have hj1:j / sz < m:=Nat.div_lt_of_lt_mul (by rw [Nat.mul_comm];exact hj)
      have hj2:j % sz < sz:=Nat.mod_lt _ hsz
      have e:j=(j / sz) * sz+j % sz:=by rw [Nat.mul_comm];exact (Nat.div_add_mod j sz).symm
      have hcs:news[j / sz]? = some (news[j / sz]'(by rw [hr.1];exact hj1)):=List.getElem?_eq_getElem (by rw [hr.1];exact hj1)
      obtain ⟨g,off,hA,hc⟩:=hr.2 _ _ hcs
      simp only [Option.some.injEq] at hA
      subst hA
      have hl:=he _ (List.mem_of_getElem? hcs)
      have hv:(news[j / sz]'(by rw [hr.1];exact hj1))[j % sz]? = some ((news[j / sz]'(by rw [hr.1];exact hj1))[j % sz]'(by rw [hl];exact hj2)):=List.getElem?_eq_getElem (by rw [hl];exact hj2)
      have h5:=flat_get he hcs hv
      rw [← e,hu] at h5
      have h6:=hc _ _ hv
      rw [Option.some.inj h5]
      have e2:(⟨g,off,none⟩:Addr).add j=⟨g,off+j / sz * sz+j % sz,none⟩:=by
        rw [Nat.add_assoc,← e,Addr.add_lit]
      rw [e2];exact h6
    obtain ⟨v',w',hrun,h2,h3,_,h5⟩:=run_append_own_at (P:=P) w B t o.type e i z sz bytes ht hi hz hsize hby hzs hsz (.slice A n c) n css.flatten hown.own ad m c2 news.flatten hflat hcells ho1 h63 hbytes hbase
    unfold Oper.wp execOp
    simp only [ho,resolve,invoke,builtin,Sem.run_bind,Sem.run_pure,Result.andThen_ok,List.map_toArray,List.map_cons,List.map_nil,hs,hx,hrun]
    rw [ob_slice] at h3 h5
    exact done v' w' h2 h3 h5
theorem wpList_append (hgd:o.guard=none) (s x:Operand) (t:TypeId)
    (ho:o.op=.call { callee:=.builtin .append,args:=#[s,x],argTypes:=#[t,t] })
    (B e sz bytes:Nat) (i:TypeInfo) (z:Value) (ht:P.underlying t=some (.slice e)) (hi:P.info? e=some i) (hz:i.zero=some z)
    (hsize:i.size=sz) (hby:i.bytes=bytes) (hzs:z.cells.size=sz) (hsz:0 < sz)
    (A:Option Addr) (n c:Nat) (css:List (List Value)) (hs:a.eval s=.slice A n c) (hown:Own w B e sz A n c css)
    (A2:Option Addr) (m c2:Nat) (news:List (List Value)) (hx:a.eval x=.slice A2 m c2) (hr:Row w A2 m sz news) (he:∀ cs∈news,cs.length=sz) (h1:∀ cs∈news,∀ u∈cs,u.oneCell'=true)
    (h63:n+m≤maxLen) (hbytes:(n+m) * bytes≤140737488355328) (hbase:B≤w.heap.size)
    (h:∀ A' c' w',Own w' B e sz A' (n+m) c' (css++news)→w.grownBy w' (ob A)→(ob A'=ob A∨ob A'=some w.heap.size)→wpList P ops Q rest (a.put o.dst (.slice A' (n+m) c')) w'):wpList P ops Q (o :: rest) a w :=
  wpList_plain hgd fun K hK=>wp_append s x t ho B e sz bytes i z ht hi hz hsize hby hzs hsz A n c css hs hown A2 m c2 news hx hr he h1 h63 hbytes hbase fun A' c' w' h2 h3 h4=>hK _ _ (h A' c' w' h2 h3 h4)
theorem step_append {K:Act→World→Prop} {E:Prop} (hgd:o.guard=none) (s x:Operand) (t:TypeId)
    (ho:o.op=.call { callee:=.builtin .append,args:=#[s,x],argTypes:=#[t,t] })
    (B e sz bytes:Nat) (i:TypeInfo) (z:Value) (ht:P.underlying t=some (.slice e)) (hi:P.info? e=some i) (hz:i.zero=some z)
    (hsize:i.size=sz) (hby:i.bytes=bytes) (hzs:z.cells.size=sz) (hsz:0 < sz)
    (A:Option Addr) (n c:Nat) (css:List (List Value)) (hs:a.eval s=.slice A n c) (hown:Own w B e sz A n c css)
    (A2:Option Addr) (m c2:Nat) (news:List (List Value)) (hx:a.eval x=.slice A2 m c2) (hr:Row w A2 m sz news) (he:∀ cs∈news,cs.length=sz) (h1:∀ cs∈news,∀ u∈cs,u.oneCell'=true)
    (h63:n+m≤maxLen) (hbytes:(n+m) * bytes≤140737488355328) (hbase:B≤w.heap.size)
    (h:∀ A' c' w',Own w' B e sz A' (n+m) c' (css++news)→w.grownBy w' (ob A)→(ob A'=ob A∨ob A'=some w.heap.size)→K (a.put o.dst (.slice A' (n+m) c')) w'):if Region.wanted o (yielded ops a.tmps)=true then Oper.wp P o a w K Q else E:=by
  have hw:Region.wanted o (yielded ops a.tmps)=true:=by simp [Region.wanted,hgd]
  rw [if_pos hw]
  exact wp_append s x t ho B e sz bytes i z ht hi hz hsize hby hzs hsz A n c css hs hown A2 m c2 news hx hr he h1 h63 hbytes hbase h
end

def Fill {α:Type} (c:α→List Value) (z:List Value) (l:List α) (k n:Nat):List (List Value):=(l.take k).map c++List.replicate (n - k) z
theorem Fill.zero {α:Type} (c:α→List Value) (z:List Value) (l:List α) (n:Nat):Fill c z l 0 n=List.replicate n z:=by simp [Fill]
theorem Fill.set_ {α:Type} (c:α→List Value) (z:List Value) {l:List α} {k n:Nat} {f:α} (hf:Hid (l[k]? = some f)) (hl:Hid (l.length=n)):(Fill c z l k n).set k (c f)=Fill c z l (k+1) n:=by
  have h1:l[k]? = some f:=hf
  have h2:l.length=n:=hl
  obtain ⟨hk,rfl⟩:=List.getElem?_eq_some_iff.1 h1
  have e:n - k=(n - (k+1))+1:=by omega
  unfold Fill
  rw [e,List.replicate_succ,List.set_append_right _ _ (by simp;omega),List.take_succ_eq_append_getElem hk,List.map_append,List.append_assoc]
  have e2:k - (List.map c (List.take k l)).length=0:=by simp;omega
  rw [e2]
  simp
theorem Fill.full {α:Type} (c:α→List Value) (z:List Value) {l:List α} {k n:Nat} (hl:Hid (l.length=n)) (hk:¬ k < n):Fill c z l k n=l.map c:=by
  have h2:l.length=n:=hl
  unfold Fill
  rw [List.take_of_length_le (by omega)]
  have:n - k=0:=by omega
  simp [this]
theorem bGrown {a w w':World} {row:Option Nat} (h:Below a.heap.size a w) (hg:w.grownBy w' row) (hr:∀ k,row=some k→a.heap.size≤k):Below a.heap.size a w':=h.grown hg h.size hr
theorem one_of {cs:List Value} (h:cs.all (·.oneCell')=true):∀ u∈cs,u.oneCell'=true:=fun u hu=>List.all_eq_true.1 h u hu

theorem run_byte1 {P:Program} (src dst e t:TypeId) (hs:P.underlying src=some (.slice e)) (he:P.underlying e=some (.int .u8)) (hd:P.underlying dst=some .string) (w:World) (n:Int) :
    (convert src dst (.slice (some ⟨w.heap.size,0,none⟩) 1 1)).run P (w.alloc (.cells #[.int .u8 n] t))=.ok (.string ⟨#[UInt8.ofNat n.toNat]⟩) (w.alloc (.cells #[.int .u8 n] t)):=by
  rw [run_convert_bytes_string _ src dst e _ _ _ hs he hd]
  have hl:=run_loadCells_list (P:=P) (w.alloc (.cells #[.int .u8 n] t)) ⟨w.heap.size,0,none⟩ [.int .u8 n] (fun j v hv=>by
    rw [Addr.add_lit,Nat.zero_add,cell_of_row _ _ _ _ _ _ (heap_alloc_new w _)]
    simpa using hv)
  rw [run_bytesToString (ns:=[n]) _ _ _ _ (by simpa using hl)]
  rfl
theorem push_front (b:UInt8) (acc:List UInt8):((⟨#[b]⟩:ByteArray)++⟨acc.toArray⟩)=⟨(b :: acc).toArray⟩:=by
  apply ByteArray.ext
  apply Array.ext'
  simp [ByteArray.data_append]

def Mrk (mk:Nat→List Value) (css:List (List Value)) (i:Nat):List (List Value):=(List.range i).map mk++css.drop i
theorem Mrk.zero (mk:Nat→List Value) (css:List (List Value)):Mrk mk css 0=css:=by simp [Mrk]
theorem Mrk.get {mk:Nat→List Value} {css:List (List Value)} {i:Nat} (hi:i < css.length):(Mrk mk css i)[i]? = some css[i]:=by
  unfold Mrk
  rw [List.getElem?_append_right (by simp)]
  simp [hi]
theorem Mrk.set_ {mk:Nat→List Value} {css:List (List Value)} {i:Nat} (hi:i < css.length):(Mrk mk css i).set i (mk i)=Mrk mk css (i+1):=by
  unfold Mrk
  rw [List.set_append_right _ _ (by simp),List.range_succ,List.map_append,List.append_assoc]
  congr 1
  rw [List.drop_eq_getElem_cons hi]
  simp only [List.length_map,List.length_range,Nat.sub_self,List.set_cons_zero,List.map_cons,List.map_nil,List.singleton_append]
theorem Mrk.full {mk:Nat→List Value} {css:List (List Value)} {i:Nat} (hi:¬ i < css.length) (h2:i≤css.length):Mrk mk css i=(List.range css.length).map mk:=by
  have:i=css.length:=by omega
  subst this
  simp [Mrk]

theorem wpList_store_cell {P:Program} {w:World} {ops:Array Oper} {rest:List Oper} {o:Oper} {a:Act} {Q:Exit→Act→World→Prop} (hgd:o.guard=none) (ty:TypeId) (x v:Operand) (ho:o.op=.store ty x v)
    (B e sz n c g k j off:Nat) (hoff:off=k * sz+j) (hj:j < sz) (css:List (List Value)) (cs:List Value) (hx:a.eval x=.pointer (some ⟨g,off,none⟩)) (V:Value) (hv:a.eval v=V) (hV:V.cells = #[V])
    (h1:V.oneCell'=true) (hty:(P.info? ty).map (·.size)=some 1) (hown:Own w B e sz (some ⟨g,0,none⟩) n c css) (hcs:css[k]? = some cs)
    (h:∀ w',Own w' B e sz (some ⟨g,0,none⟩) n c (css.set k (cs.set j V))→(css.set k (cs.set j V))[k]? = some (cs.set j V)→w.grownBy w' (some g)→wpList P ops Q rest (a.put o.dst undef) w'):wpList P ops Q (o :: rest) a w:=by
  subst hoff
  have hk:k < css.length:=(List.getElem?_eq_some_iff.1 hcs).1
  have hl:cs.length=sz:=hown.each cs (List.mem_of_getElem? hcs)
  obtain ⟨h2,h3⟩:=hown.cell hcs hj V
  have hr:=hown.row.2 k cs hcs
  obtain ⟨g',off',hA,hc⟩:=hr
  simp only [Option.some.injEq,Addr.mk.injEq,and_true] at hA
  obtain ⟨rfl,rfl⟩:=hA
  have hcell:w.cell? ⟨g,k * sz+j,none⟩=some (cs[j]'(by omega)):=by
    have:=hc j _ (List.getElem?_eq_getElem (by omega))
    rwa [Nat.zero_add] at this
  have hfr:=hown.frozen rfl (k * sz+j)
  have hrun:(storeVar ty ⟨g,k * sz+j,none⟩ V).run P w=.ok () (w.setCell ⟨g,k * sz+j,none⟩ V):=by
    cases hq:P.info? ty with
    | none=>simp [hq] at hty
    | some i =>
      have hi:i.size=1:=by simpa [hq] using hty
      have hst:=run_store P w ⟨g,k * sz+j,none⟩ V .plain h1
      simp [storeVar,sizeOf,typeInfo,hq,hi,hV,storeCells,Addr.add_lit,hst,hcell,hfr]
  refine wpList_plain hgd fun _ hK=>?_
  unfold Oper.wp execOp
  simp only [ho,hx,hv,Instr.storeAt,Instr.sureAddr,Sem.run_bind,Sem.run_pure,Result.andThen_ok,hrun]
  exact hK _ _ (h _ h2 (by simp [List.getElem?_set_self hk]) h3)
theorem gTrans {a w w':World} {row:Option Nat} (h:a.grownBy w row) (k:w.grownBy w' row):a.grownBy w' row :=
  ⟨k.os.trans h.os,k.tape.trans h.tape,k.output.trans h.output,Nat.le_trans h.size k.size,fun i hi hne=>(k.block i (Nat.lt_of_lt_of_le hi h.size) hne).trans (h.block i hi hne)⟩
theorem gBelow {a w w':World} {row:Option Nat} (h:a.grownBy w row) (k:Below w.heap.size w w'):a.grownBy w' row :=
  gTrans h ⟨k.os,k.tape,k.output,k.size,fun i hi _=>k.block i hi⟩
theorem Mrk.get_ {mk:Nat→List Value} {css:List (List Value)} {i n:Nat} (hl:css.length=n) (hi:i < n):∃ cs,(Mrk mk css i)[i]? = some cs:=⟨_,Mrk.get (by omega)⟩
theorem Mrk.next {mk:Nat→List Value} {css:List (List Value)} {i n:Nat} (hl:css.length=n) (hi:i < n) {cs:List Value} (hcs:cs=mk i):(Mrk mk css i).set i cs=Mrk mk css (i+1):=by rw [hcs];exact Mrk.set_ (by omega)
theorem Mrk.end_ {mk:Nat→List Value} {css:List (List Value)} {i n:Nat} (hl:css.length=n) (hi:¬ i < n) (h2:i≤n):Mrk mk css i=(List.range n).map mk:=by
  have:=Mrk.full (mk:=mk) (css:=css) (i:=i) (by omega) (by omega)
  rw [this,hl]
theorem vlen8 {l:List Value} (h:l.length=8):∃ a b c d e f g i,l=[a,b,c,d,e,f,g,i]:=by
  match l,h with
  | [a,b,c,d,e,f,g,i],_=>exact ⟨a,b,c,d,e,f,g,i,rfl⟩
theorem vlen4 {l:List Value} (h:l.length=4):∃ a b c d,l=[a,b,c,d]:=by
  match l,h with
  | [a,b,c,d],_=>exact ⟨a,b,c,d,rfl⟩
theorem vlen1 {l:List Value} (h:l.length=1):∃ a,l=[a]:=by
  match l,h with
  | [a],_=>exact ⟨a,rfl⟩
theorem Row.new1 (w:World) (t:TypeId) (cs:List Value) (sz:Nat):Row (w.alloc (.cells cs.toArray t)) (some ⟨w.heap.size,0,none⟩) 1 sz [cs]:=by
  refine ⟨rfl,fun i es hi=>⟨w.heap.size,0,rfl,fun j v hj=>?_⟩⟩
  have h0:i=0:=by
    have:=(List.getElem?_eq_some_iff.1 hi).1
    simpa using this
  subst h0
  simp only [List.getElem?_cons_zero,Option.some.injEq] at hi
  subst hi
  rw [cell_of_row _ _ _ _ _ _ (heap_alloc_new w _)]
  simpa using hj
theorem Own.made0 (w:World) {B:Nat} (e sz:Nat) (hB:B≤w.heap.size):Own (w.alloc (.cells #[] e)) B e sz (some ⟨w.heap.size,0,none⟩) 0 0 [] :=
  ⟨World.ownsRow_made w #[] 0 hB (Nat.zero_le _) (by simp),rfl,by simp⟩
theorem Own.alloc_ {w:World} {B e sz n c:Nat} {A:Option Addr} {css:List (List Value)} (h:Own w B e sz A n c css) (o:Obj):Own (w.alloc o) B e sz A n c css:=h.below (bAlloc (Below.refl _ _) o)
theorem Own.nc {w:World} {B e sz n c:Nat} {A:Option Addr} {css:List (List Value)} (h:Own w B e sz A n c css):n≤c∧c≤maxLen:=by
  rcases h.cases with ⟨_,rfl,rfl,_⟩ | ⟨_,_,_,_,h1,h2⟩
  · exact ⟨Nat.le_refl _,Nat.zero_le _⟩
  · exact ⟨h1,h2⟩
theorem region_at {P:Program} {id:Nat} {ops:Array Oper} {d:Bool} {Q:Exit→Act→World→Prop} {a:Act} {w:World} (h:∀ W,Hid (W=w)→(Code.region id ops d).wp P Q a W):(Code.region id ops d).wp P Q a w:=h w rfl
end Go.Proofs.YtdfemnffpaopfaaGreatDoor


namespace Go.Proofs.YtdfemnffpaopfaaGreatDoor
open Go.RowKit
set_option linter.unusedVariables false
set_option linter.unusedSimpArgs false
set_option maxHeartbeats 400000
set_option maxRecDepth 100000
theorem eqFactor_c (id:Int) (kind:Int) (fr:ByteArray) (to:ByteArray) (t:Int) (x:Int) (y:Int) (wt:Int) (w:World) :
    Calls Tryz.prog 194 #[vFactor id kind fr to t x y wt,vFactor id kind fr to t x y wt] w fun e w'=>e=rBool true∧Below w.heap.size w w':=by
  go_enter Tryz.func194,Tryz.ntmps194
  go_wp2
  go_ret
  exact ⟨rfl,by repeat (first | exact Below.refl _ _ | refine bAlloc ?_ _)⟩

theorem eqFactorS_c (A A2:Option Addr) (n c c2:Nat) (l:List Factor) (w:World) (hn:n≤4194304) (hr:RowF w A n l) (hr2:RowF w A2 n l) :
    Calls Tryz.prog 155 #[.slice A n c,.slice A2 n c2] w fun e w'=>e=rBool true∧Below w.heap.size w w':=by
  go_enter Tryz.func155,Tryz.ntmps155
  go_wp2
  go_loopw [5,25] (fun i t wr=>∃ (k:Nat),k≤n∧i=.int .i64 k∧Below w.heap.size w wr) (fun i _ _=>n - (intOf i).toNat)
  case atStart=>exact ⟨0,by omega,rfl,Below.refl _ _⟩
  case round =>
    obtain ⟨k,hk,rfl,hb⟩:=hrel
    by_cases hlt:k < n
    · obtain ⟨f,g,off,hf,rfl,g0,g1,g2,g3,g4,g5,g6,g7⟩:=RowF.at_ (hr.below hb) hlt
      obtain ⟨f2,g',off',hf2,rfl,k0,k1,k2,k3,k4,k5,k6,k7⟩:=RowF.at_ (hr2.below hb) hlt
      obtain rfl:f=f2:=Option.some.inj (hf.out.symm.trans hf2.out)
      have h0:(0:Int)≤(k:Int):=by omega
      have h1:(k:Int) < (n:Int):=by omega
      go_wp2_with fail
      go_region_held3 (fun w'=>w'.cell? ⟨g,off+k * 8,none⟩=some (.int .i64 f.id)∧w'.cell? ⟨g,off+k * 8+1,none⟩=some (.int .i64 f.kind)∧w'.cell? ⟨g,off+k * 8+2,none⟩=some (.string f.frm)∧w'.cell? ⟨g,off+k * 8+3,none⟩=some (.string f.to)∧w'.cell? ⟨g,off+k * 8+4,none⟩=some (.int .i64 f.pose.turn)∧w'.cell? ⟨g,off+k * 8+5,none⟩=some (.int .i64 f.pose.x)∧w'.cell? ⟨g,off+k * 8+6,none⟩=some (.int .i64 f.pose.y)∧w'.cell? ⟨g,off+k * 8+7,none⟩=some (.int .i64 f.weight)∧w'.cell? ⟨g',off'+k * 8,none⟩=some (.int .i64 f.id)∧w'.cell? ⟨g',off'+k * 8+1,none⟩=some (.int .i64 f.kind)∧w'.cell? ⟨g',off'+k * 8+2,none⟩=some (.string f.frm)∧w'.cell? ⟨g',off'+k * 8+3,none⟩=some (.string f.to)∧w'.cell? ⟨g',off'+k * 8+4,none⟩=some (.int .i64 f.pose.turn)∧w'.cell? ⟨g',off'+k * 8+5,none⟩=some (.int .i64 f.pose.x)∧w'.cell? ⟨g',off'+k * 8+6,none⟩=some (.int .i64 f.pose.y)∧w'.cell? ⟨g',off'+k * 8+7,none⟩=some (.int .i64 f.weight))
        (first | go_keep | ((repeat' apply And.intro) <;> exact bCell hb1 (by assumption))) ((go_at_call 194;refine (eqFactor_c _ _ _ _ _ _ _ _ _).mono ?_;rintro e w1 ⟨rfl,hb1⟩))
      go_wp2
      go_roundw
      case rel=>exact ⟨k+1,by omega,by go_num,bTrans (bDrew hb) hb1⟩
      case measure=>simp [intOf];omega
    · go_wp2
      go_ret
      exact ⟨rfl,hb⟩


theorem eqPacket_c (ack:Bool) (num:Int) (tx:ByteArray) (sum:Int) (w:World) :
    Calls Tryz.prog 213 #[vPacket ack num tx sum,vPacket ack num tx sum] w fun e w'=>e=rBool true∧Below w.heap.size w w':=by
  go_enter Tryz.func213,Tryz.ntmps213
  go_wp2
  go_ret
  exact ⟨rfl,by repeat (first | exact Below.refl _ _ | refine bAlloc ?_ _)⟩

theorem eqPacketS_c (A A2:Option Addr) (n c c2:Nat) (l:List Packet) (w:World) (hn:n≤4194304) (hr:RowK w A n l) (hr2:RowK w A2 n l) :
    Calls Tryz.prog 196 #[.slice A n c,.slice A2 n c2] w fun e w'=>e=rBool true∧Below w.heap.size w w':=by
  go_enter Tryz.func196,Tryz.ntmps196
  go_wp2
  go_loopw [5,25] (fun i t wr=>∃ (k:Nat),k≤n∧i=.int .i64 k∧Below w.heap.size w wr) (fun i _ _=>n - (intOf i).toNat)
  case atStart=>exact ⟨0,by omega,rfl,Below.refl _ _⟩
  case round =>
    obtain ⟨k,hk,rfl,hb⟩:=hrel
    by_cases hlt:k < n
    · obtain ⟨f,g,off,hf,rfl,g0,g1,g2,g3⟩:=RowK.at_ (hr.below hb) hlt
      obtain ⟨f2,g',off',hf2,rfl,k0,k1,k2,k3⟩:=RowK.at_ (hr2.below hb) hlt
      obtain rfl:f=f2:=Option.some.inj (hf.out.symm.trans hf2.out)
      have h0:(0:Int)≤(k:Int):=by omega
      have h1:(k:Int) < (n:Int):=by omega
      go_wp2_with fail
      go_region_held3 (fun w'=>w'.cell? ⟨g,off+k * 4,none⟩=some (.bool f.ack)∧w'.cell? ⟨g,off+k * 4+1,none⟩=some (.int .i64 f.number)∧w'.cell? ⟨g,off+k * 4+2,none⟩=some (.string f.text)∧w'.cell? ⟨g,off+k * 4+3,none⟩=some (.int .i64 f.sum)∧w'.cell? ⟨g',off'+k * 4,none⟩=some (.bool f.ack)∧w'.cell? ⟨g',off'+k * 4+1,none⟩=some (.int .i64 f.number)∧w'.cell? ⟨g',off'+k * 4+2,none⟩=some (.string f.text)∧w'.cell? ⟨g',off'+k * 4+3,none⟩=some (.int .i64 f.sum))
        (first | go_keep | ((repeat' apply And.intro) <;> exact bCell hb1 (by assumption))) ((go_at_call 213;refine (eqPacket_c _ _ _ _ _).mono ?_;rintro e w1 ⟨rfl,hb1⟩))
      go_wp2
      go_roundw
      case rel=>exact ⟨k+1,by omega,by go_num,bTrans (bDrew hb) hb1⟩
      case measure=>simp [intOf];omega
    · go_wp2
      go_ret
      exact ⟨rfl,hb⟩

theorem eqStringS_c (A A2:Option Addr) (n c c2:Nat) (l:List ByteArray) (w:World) (hn:n≤4194304) (hr:RowS w A n l) (hr2:RowS w A2 n l) :
    Calls Tryz.prog 195 #[.slice A n c,.slice A2 n c2] w fun e w'=>e=rBool true∧Below w.heap.size w w':=by
  go_enter Tryz.func195,Tryz.ntmps195
  go_wp2
  go_loopw [5] (fun i wr=>∃ (k:Nat),k≤n∧i=.int .i64 k∧Below w.heap.size w wr) (fun i _=>n - (intOf i).toNat)
  case atStart=>exact ⟨0,by omega,rfl,Below.refl _ _⟩
  case round =>
    obtain ⟨k,hk,rfl,hb⟩:=hrel
    by_cases hlt:k < n
    · obtain ⟨f,g,off,hf,rfl,g0⟩:=RowS.at_ (hr.below hb) hlt
      obtain ⟨f2,g',off',hf2,rfl,k0⟩:=RowS.at_ (hr2.below hb) hlt
      obtain rfl:f=f2:=Option.some.inj (hf.out.symm.trans hf2.out)
      have h0:(0:Int)≤(k:Int):=by omega
      have h1:(k:Int) < (n:Int):=by omega
      go_wp2_with fail
      go_quiet (fail)
      go_wp2
      go_roundw
      case rel=>exact ⟨k+1,by omega,by go_num,bDrewN hb _⟩
      case measure=>simp [intOf];omega
    · go_wp2
      go_ret
      exact ⟨rfl,hb⟩


def Factor.same (f g:Factor):Bool:=(f.id == g.id) && ((f.kind == g.kind) && ((f.frm.toList == g.frm.toList) && ((f.to.toList == g.to.toList) && ((f.pose.turn == g.pose.turn) && ((f.pose.x == g.pose.x) && ((f.pose.y == g.pose.y) && (f.weight == g.weight)))))))
theorem run_neq_Factor (w:World) (f g:Factor) :
    (binOp .neq 34 (vFactor f.id f.kind f.frm f.to f.pose.turn f.pose.x f.pose.y f.weight) (vFactor g.id g.kind g.frm g.to g.pose.turn g.pose.x g.pose.y g.weight)).run Tryz.prog w=.ok (.bool (!(f.same g))) w:=by
  simp [go_sem]
  unfold Factor.same
  repeat' split
  all_goals simp_all
def sameL:List Factor→List Factor→Bool
  | [],[]=>true
  | f :: l,g :: m=>f.same g && sameL l m
  | _,_=>false
def SameInv (l m:List Factor) (k:Nat):Prop:=sameL l m=sameL (l.drop k) (m.drop k)
theorem sameL_len:∀ (l m:List Factor),l.length≠m.length→sameL l m=false
  | [],[],h=>absurd rfl h
  | [],_ :: _,_=>rfl
  | _ :: _,[],_=>rfl
  | f :: l,g :: m,h=>by rw [sameL,sameL_len l m (by simpa using h),Bool.and_false]
theorem SameInv.step {l m:List Factor} {k:Nat} {f g:Factor} (h:SameInv l m k) (hf:Hid (l[k]? = some f)) (hg:Hid (m[k]? = some g)):sameL l m=(f.same g && sameL (l.drop (k+1)) (m.drop (k+1))):=by
  unfold SameInv at h
  rw [h,drop_at hf,drop_at hg,sameL]
theorem SameInv.done {l m:List Factor} {k n:Nat} (h:SameInv l m k) (hl:Hid (l.length=n)) (hm:Hid (m.length=n)) (hk:¬ k < n):Hid (sameL l m=true):=by
  unfold SameInv at h
  rw [Hid,h,drop_end hl hk,drop_end hm hk,sameL]
theorem impl_SameFactors_c (A A2:Option Addr) (n n2 c c2:Nat) (l m:List Factor) (w:World) (hn:n≤4194304) (hn2:n2≤4194304) (hr:RowF w A n l) (hr2:RowF w A2 n2 m) :
    Calls Tryz.prog 17 #[.slice A n c,.slice A2 n2 c2] w fun e w'=>e=rBool (sameL l m)∧Below w.heap.size w w':=by
  by_cases hnn:n=n2
  · subst hnn
    go_enter Tryz.func17,Tryz.ntmps17
    go_wp2
    go_loopw [14] (fun i wr=>∃ (k:Nat),k≤n∧i=.int .i64 k∧SameInv l m k∧Below w.heap.size w wr) (fun i _=>n - (intOf i).toNat)
    case atStart=>exact ⟨0,by omega,rfl,rfl,Below.refl _ _⟩
    case round =>
      obtain ⟨k,hk,rfl,hi,hb⟩:=hrel
      by_cases hlt:k < n
      · obtain ⟨f,g,off,hf,rfl,g0,g1,g2,g3,g4,g5,g6,g7⟩:=RowF.at_ (hr.below hb) hlt
        obtain ⟨f2,g',off',hf2,rfl,k0,k1,k2,k3,k4,k5,k6,k7⟩:=RowF.at_ (hr2.below hb) hlt
        have hst:=hi.step hf hf2
        have h0:(0:Int)≤(k:Int):=by omega
        have h1:(k:Int) < (n:Int):=by omega
        have hne:=fun W=>run_neq_Factor W f f2
        have HS:=Lib.hid hst
        clear hst hi
        have l0:=cell_lt g0
        have l1:=cell_lt k0
        dsimp only at l0 l1
        generalize hb2:f.same f2=b at hne
        have HB:=Lib.hid hb2
        clear hb2
        cases b
        · have hfin:Hid (sameL l m=false):=by rw [Hid,HS.out,HB.out,Bool.false_and]
          go_wp2_with fail
          go_quiet (fail)
          go_wp2
          go_ret
          exact ⟨by rw [hfin.out];rfl,by repeat (first | assumption | refine bDrewN ?_ _ | refine bDrew ?_ | refine bAlloc ?_ _)⟩
        · have hnx:SameInv l m (k+1):=by rw [SameInv,HS.out,HB.out,Bool.true_and]
          go_wp2_with fail
          go_quiet (fail)
          go_wp2
          go_roundw
          case rel=>exact ⟨k+1,by omega,by go_num,hnx,by repeat (first | assumption | refine bDrewN ?_ _ | refine bDrew ?_ | refine bAlloc ?_ _)⟩
          case measure=>simp [intOf];omega
      · have hfin:=hi.done hr.len hr2.len hlt
        go_wp2
        go_ret
        exact ⟨by rw [hfin.out];rfl,hb⟩
  · have hfin:Hid (sameL l m=false):=sameL_len l m (by rw [hr.len.out,hr2.len.out];exact hnn)
    have hbb:((n:Int) == (n2:Int))=false:=by simp;omega
    have hbb2:((n:Int) != (n2:Int))=true:=by simp;omega
    go_enter Tryz.func17,Tryz.ntmps17
    go_wp2
    go_ret
    exact ⟨by rw [hfin.out];rfl,Below.refl _ _⟩

def hasId (l:List Factor) (id:Int):Bool:=l.any fun f=>f.id == id
def findId:List Factor→Int→Int→Int
  | [],_,_=>-1
  | f :: l,id,k=>if f.id == id then k else findId l id (k+1)
def hasStr (l:List ByteArray) (s:ByteArray):Bool:=l.any fun t=>t.toList == s.toList
def HasInv (l:List Factor) (id:Int) (k:Nat):Prop:=hasId l id=hasId (l.drop k) id
theorem HasInv.step {l:List Factor} {id:Int} {k:Nat} {f:Factor} (h:HasInv l id k) (hf:Hid (l[k]? = some f)):hasId l id=((f.id == id) || hasId (l.drop (k+1)) id):=by
  unfold HasInv at h;rw [h,drop_at hf];rfl
theorem HasInv.done {l:List Factor} {id:Int} {k n:Nat} (h:HasInv l id k) (hl:Hid (l.length=n)) (hk:¬ k < n):Hid (hasId l id=false):=by
  unfold HasInv at h;rw [Hid,h,drop_end hl hk];rfl
def FindInv (l:List Factor) (id:Int) (k:Nat):Prop:=findId l id 0=findId (l.drop k) id k
theorem FindInv.step {l:List Factor} {id:Int} {k:Nat} {f:Factor} (h:FindInv l id k) (hf:Hid (l[k]? = some f)):findId l id 0=if f.id == id then (k:Int) else findId (l.drop (k+1)) id ((k+1:Nat):Int):=by
  unfold FindInv at h;rw [h,drop_at hf,findId];congr 2
theorem FindInv.done {l:List Factor} {id:Int} {k n:Nat} (h:FindInv l id k) (hl:Hid (l.length=n)) (hk:¬ k < n):Hid (findId l id 0 = -1):=by
  unfold FindInv at h;rw [Hid,h,drop_end hl hk];rfl
theorem findId_neg:∀ (l:List Factor) (id k:Int),0≤k→decide (findId l id k < 0) = !hasId l id
  | [],id,k,_=>by simp [findId,hasId]
  | f :: l,id,k,h=>by
    have ih:=findId_neg l id (k+1) (by omega)
    unfold hasId at ih ⊢
    rw [findId,List.any_cons]
    by_cases he:(f.id == id)=true
    · rw [if_pos he,he];simp;omega
    · rw [if_neg he,ih];simp [he]
theorem findId_lo:∀ (l:List Factor) (id k:Int),0≤k→-1≤findId l id k∧findId l id k≤k+l.length
  | [],id,k,h=>by simp [findId];omega
  | f :: l,id,k,h=>by
    have ih:=findId_lo l id (k+1) (by omega)
    rw [findId]
    split
    · simp;omega
    · simp only [List.length_cons];omega
theorem l28Has_c (A:Option Addr) (n c:Nat) (l:List Factor) (id:Int) (w:World) (hn:n≤4194304) (hr:RowF w A n l) :
    Calls Tryz.prog 128 #[.slice A n c,.int .i64 id] w fun e w'=>e=rBool (hasId l id)∧Below w.heap.size w w':=by
  go_enter Tryz.func128,Tryz.ntmps128
  go_wp2
  go_loopw [9] (fun i wr=>∃ (k:Nat),k≤n∧i=.int .i64 k∧HasInv l id k∧Below w.heap.size w wr) (fun i _=>n - (intOf i).toNat)
  case atStart=>exact ⟨0,by omega,rfl,rfl,Below.refl _ _⟩
  case round =>
    obtain ⟨k,hk,rfl,hi,hb⟩:=hrel
    by_cases hlt:k < n
    · obtain ⟨f,g,off,hf,rfl,g0,g1,g2,g3,g4,g5,g6,g7⟩:=RowF.at_ (hr.below hb) hlt
      have hst:=hi.step hf
      generalize hbe:(f.id == id)=b at hst
      have HS:=Lib.hid hst
      clear hst
      cases b
      · have hnx:HasInv l id (k+1):=by rw [HasInv,HS.out,Bool.false_or]
        go_wp2
        go_roundw
        case rel=>exact ⟨k+1,by omega,by go_num,hnx,bAlloc hb _⟩
        case measure=>simp [intOf];omega
      · go_wp2
        go_ret
        exact ⟨by rw [HS.out,Bool.true_or];rfl,bAlloc hb _⟩
    · have hfin:=hi.done hr.len hlt
      go_wp2
      go_ret
      exact ⟨by rw [hfin.out];rfl,hb⟩
theorem findFactor_c (A:Option Addr) (n c:Nat) (l:List Factor) (id:Int) (w:World) (hn:n≤4194304) (hr:RowF w A n l) :
    Calls Tryz.prog 86 #[.slice A n c,.int .i64 id] w fun e w'=>e=rInt (findId l id 0)∧Below w.heap.size w w':=by
  go_enter Tryz.func86,Tryz.ntmps86
  go_wp2
  go_loopw [9] (fun i wr=>∃ (k:Nat),k≤n∧i=.int .i64 k∧FindInv l id k∧Below w.heap.size w wr) (fun i _=>n - (intOf i).toNat)
  case atStart=>exact ⟨0,by omega,rfl,rfl,Below.refl _ _⟩
  case round =>
    obtain ⟨k,hk,rfl,hi,hb⟩:=hrel
    by_cases hlt:k < n
    · obtain ⟨f,g,off,hf,rfl,g0,g1,g2,g3,g4,g5,g6,g7⟩:=RowF.at_ (hr.below hb) hlt
      have hst:=hi.step hf
      generalize hbe:(f.id == id)=b at hst
      have HS:=Lib.hid hst
      clear hst
      cases b
      · have hnx:FindInv l id (k+1):=by rw [FindInv,HS.out];rfl
        go_wp2
        go_roundw
        case rel=>exact ⟨k+1,by omega,by go_num,hnx,bAlloc hb _⟩
        case measure=>simp [intOf];omega
      · go_wp2
        go_ret
        exact ⟨by rw [HS.out];rfl,bAlloc hb _⟩
    · have hfin:=hi.done hr.len hlt
      go_wp2
      go_ret
      exact ⟨by rw [hfin.out];rfl,hb⟩
def StrInv (l:List ByteArray) (s:ByteArray) (k:Nat):Prop:=hasStr l s=hasStr (l.drop k) s
theorem StrInv.step {l:List ByteArray} {s f:ByteArray} {k:Nat} (h:StrInv l s k) (hf:Hid (l[k]? = some f)):hasStr l s=((f.toList == s.toList) || hasStr (l.drop (k+1)) s):=by
  unfold StrInv at h;rw [h,drop_at hf];rfl
theorem StrInv.done {l:List ByteArray} {s:ByteArray} {k n:Nat} (h:StrInv l s k) (hl:Hid (l.length=n)) (hk:¬ k < n):Hid (hasStr l s=false):=by
  unfold StrInv at h;rw [Hid,h,drop_end hl hk];rfl
theorem hasString_c (A:Option Addr) (n c:Nat) (l:List ByteArray) (s:ByteArray) (w:World) (hn:n≤4194304) (hr:RowS w A n l) :
    Calls Tryz.prog 147 #[.slice A n c,.string s] w fun e w'=>e=rBool (hasStr l s)∧w=w':=by
  go_enter Tryz.func147,Tryz.ntmps147
  go_wp2
  go_loop [9,6] (fun i t=>∃ (k:Nat),k≤n∧i=.int .i64 k∧StrInv l s k) (fun i _=>n - (intOf i).toNat)
  case atStart=>exact ⟨0,by omega,rfl,rfl⟩
  case round =>
    obtain ⟨k,hk,rfl,hi⟩:=hrel
    by_cases hlt:k < n
    · obtain ⟨f,g,off,hf,rfl,g0⟩:=RowS.at_ hr hlt
      have hst:=hi.step hf
      generalize hbe:(f.toList == s.toList)=b at hst
      have HS:=Lib.hid hst
      clear hst
      cases b
      · have hnx:StrInv l s (k+1):=by rw [StrInv,HS.out,Bool.false_or]
        go_wp2
        go_round
        case rel=>exact ⟨k+1,by omega,by go_num,hnx⟩
        case measure=>simp [intOf];omega
      · go_wp2
        go_ret
        exact ⟨by rw [HS.out,Bool.true_or];rfl,rfl⟩
    · have hfin:=hi.done hr.len hlt
      go_wp2
      go_ret
      exact ⟨by rw [hfin.out];rfl,rfl⟩

def missing (l m:List Factor):List Int:=(m.filter fun f=>!hasId l f.id).map (·.id)
end Go.Proofs.YtdfemnffpaopfaaGreatDoor
