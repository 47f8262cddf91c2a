/- Texts of this proof, one behind the other: Push, Places, Draw2, Draw3, Draw4. -/
import Derived.Deep.RegionHeld3
import Derived.Deep.RegionLaw
import Derived.BigRegion
import Derived.Test.YtdfemnffpaopfaaGreatDoorGrs1
import Derived.Test.YtdfemnffpaopfaaGreatDoorGrs2
import Derived.Test.YtdfemnffpaopfaaGreatDoorGrs5
import Derived.Test.YtdfemnffpaopfaaGreatDoorGrs8
import Derived.Test.YtdfemnffpaopfaaGreatDoorGrs10
namespace Go.Proofs.YtdfemnffpaopfaaGreatDoor
open Go.RowKit
set_option linter.unusedVariables false
set_option linter.unusedSimpArgs false
set_option maxHeartbeats 1000000
set_option maxRecDepth 100000
theorem OwSl.push {α:Type} {K:World→List Nat→List Value→α→Prop} (hK:Loc K) {B e sz n c:Nat} {w1:World} {fs f:List Nat} {A:Option Addr} {l:List α} {cs:List Value} {x:α}
    (h:OwSl K w1 fs e sz A n c l) (hf:Fresh B w1 fs) (hk:K w1 f cs x) (hff:Fresh B w1 f) (hap:∀ q∈fs,q ∉ f) (hB:B≤w1.heap.size) :
    ∃ css,Own w1 0 e sz A n c css∧∀ w2 A' c',Own w2 0 e sz A' (n+1) c' (css++[cs])→w1.grownBy w2 (ob A)→(ob A'=ob A∨ob A'=some w1.heap.size) →
      ∃ fs',OwSl K w2 fs' e sz A' (n+1) c' (l++[x])∧Fresh B w2 fs':=by
  obtain ⟨css,fss,h1,h2,rfl⟩:=h
  refine ⟨css,h1,fun w2 A' c' ho hg hat=>?_⟩
  obtain ⟨nA,nF,nd⟩:=List.nodup_append.1 hf.nodup
  have hl2:=h2.lt_ hK
  have kp:∀ q,q∈fss.flatten∨q∈f→w2.heap[q]? = w1.heap[q]?:=by
    intro q hq
    refine hg.block q (by rcases hq with hq | hq;exact hl2 q hq;exact hff.hi q hq) (fun e=>?_)
    have ha:=mem_obl.2 e.symm
    rcases hq with hq | hq
    · exact nd q ha q hq rfl
    · exact hap q (List.mem_append.2 (.inl ha)) hq
  have hE:Each (K w2) (fss++[f]) (css++[cs]) (l++[x]):=(h2.keep_ hK fun q hq=>kp q (.inl hq)).append (Each.one (hK.keep hk fun q hq=>kp q (.inr hq)))
  refine ⟨obl A'++(fss++[f]).flatten,⟨css++[cs],fss++[f],ho,hE,rfl⟩,?_⟩
  have hflat:(fss++[f]).flatten=fss.flatten++f:=by simp
  rw [hflat]
  have hlt2:=hg.size
  have dA:∀ q∈obl A',q ∉ fss.flatten++f∧B≤q∧q < w2.heap.size:=by
    intro q hq
    have hq2:=mem_obl.1 hq
    have hql:=(ho.lt q hq2).2
    rcases hat with hat | hat
    · rw [hat] at hq2
      have ha:=mem_obl.2 hq2
      refine ⟨fun hm=>?_,hf.lo q (List.mem_append.2 (.inl ha)),hql⟩
      rcases List.mem_append.1 hm with hm | hm
      · exact nd q ha q hm rfl
      · exact hap q (List.mem_append.2 (.inl ha)) hm
    · rw [hat] at hq2
      have e:=Option.some.inj hq2
      refine ⟨fun hm=>?_,by omega,hql⟩
      rcases List.mem_append.1 hm with hm | hm
      · have:=hl2 q hm;omega
      · have:=hff.hi q hm;omega
  refine ⟨?_,?_,?_⟩
  · refine List.nodup_append.2 ⟨by unfold obl;cases ob A' <;> simp,List.nodup_append.2 ⟨nF,hff.nodup,fun a ha b hb e=>?_⟩,fun a ha b hb e=>(dA a ha).1 (e ▸ hb)⟩
    subst e
    exact hap a (List.mem_append.2 (.inr ha)) hb
  · intro q hq
    rcases List.mem_append.1 hq with hq | hq
    · exact (dA q hq).2.1
    · rcases List.mem_append.1 hq with hq | hq
      · exact hf.lo q (List.mem_append.2 (.inr hq))
      · exact hff.lo q hq
  · intro q hq
    rcases List.mem_append.1 hq with hq | hq
    · exact (dA q hq).2.2
    · rcases List.mem_append.1 hq with hq | hq
      · have:=hl2 q hq;omega
      · have:=hff.hi q hq;omega
theorem Each.putF {α:Type} {K K':List Nat→List Value→α→Prop}:∀ {fss:List (List Nat)} {css:List (List Value)} {l:List α} {i:Nat} {f':List Nat} {cs':List Value} {x':α},Each K fss css l→K' f' cs' x' →
    (∀ (j:Nat) (f2:List Nat) (cs2:List Value) (x2:α),j≠i→fss[j]? = some f2→css[j]? = some cs2→l[j]? = some x2→K f2 cs2 x2→K' f2 cs2 x2)→Each K' (fss.set i f') (css.set i cs') (l.set i x')
  | [],[],[],i,f',cs',x',_,_,_=>trivial
  | a :: r,c :: cr,y :: lr,0,f',cs',x',he,hk',hall =>
    ⟨hk',he.2.imp fun j f2 cs2 x2 h1 h2 h3 h4=>hall (j+1) f2 cs2 x2 (by omega) (by simpa using h1) (by simpa using h2) (by simpa using h3) h4⟩
  | a :: r,c :: cr,y :: lr,i+1,f',cs',x',he,hk',hall =>
    ⟨hall 0 a c y (by omega) rfl rfl rfl he.1,Each.putF he.2 hk' fun j f2 cs2 x2 hne h1 h2 h3 h4=>hall (j+1) f2 cs2 x2 (by omega) (by simpa using h1) (by simpa using h2) (by simpa using h3) h4⟩
theorem flat_set_mem:∀ {fss:List (List Nat)} {i:Nat} {f':List Nat} {q:Nat},q∈(fss.set i f').flatten→q∈f'∨∃ j g,j≠i∧fss[j]? = some g∧q∈g
  | [],i,f',q,h=>by simp at h
  | a :: r,0,f',q,h=>by
    rw [List.set_cons_zero,List.flatten_cons] at h
    rcases List.mem_append.1 h with h | h
    · exact .inl h
    · obtain ⟨g,hg,hq⟩:=List.mem_flatten.1 h
      obtain ⟨j,hj,rfl⟩:=List.mem_iff_getElem.1 hg
      exact .inr ⟨j+1,_,by omega,by simp,hq⟩
  | a :: r,i+1,f',q,h=>by
    rw [List.set_cons_succ,List.flatten_cons] at h
    rcases List.mem_append.1 h with h | h
    · exact .inr ⟨0,a,by omega,rfl,h⟩
    · rcases flat_set_mem h with h | ⟨j,g,hne,hg,hq⟩
      · exact .inl h
      · exact .inr ⟨j+1,g,by omega,by simpa using hg,hq⟩
theorem flat_set_nodup:∀ {fss:List (List Nat)} {i:Nat} {f f':List Nat},fss.flatten.Nodup→fss[i]? = some f→f'.Nodup→(∀ q∈f',q∈f∨q ∉ fss.flatten)→(fss.set i f').flatten.Nodup
  | a :: r,0,f,f',hn,hf,hd,hq=>by
    simp only [List.getElem?_cons_zero,Option.some.injEq] at hf;subst hf
    rw [List.flatten_cons] at hn
    obtain ⟨n1,n2,n3⟩:=List.nodup_append.1 hn
    rw [List.set_cons_zero,List.flatten_cons]
    refine List.nodup_append.2 ⟨hd,n2,fun x hx y hy e=>?_⟩
    subst e
    rcases hq x hx with h | h
    · exact n3 x h x hy rfl
    · exact h (by rw [List.flatten_cons];exact List.mem_append.2 (.inr hy))
  | a :: r,i+1,f,f',hn,hf,hd,hq=>by
    simp only [List.getElem?_cons_succ] at hf
    rw [List.flatten_cons] at hn
    obtain ⟨n1,n2,n3⟩:=List.nodup_append.1 hn
    rw [List.set_cons_succ,List.flatten_cons]
    have ih:=flat_set_nodup n2 hf hd fun q hqm=>by
      rcases hq q hqm with h | h
      · exact .inl h
      · exact .inr fun hm=>h (by rw [List.flatten_cons];exact List.mem_append.2 (.inr hm))
    refine List.nodup_append.2 ⟨n1,ih,fun x hx y hy e=>?_⟩
    subst e
    rcases flat_set_mem hy with h | ⟨j,g,_,hg,hxg⟩
    · rcases hq x h with h2 | h2
      · exact n3 x hx x (mem_flat hf h2) rfl
      · exact h2 (by rw [List.flatten_cons];exact List.mem_append.2 (.inl hx))
    · exact n3 x hx x (mem_flat hg hxg) rfl
theorem OwSl.refocus {α:Type} {K:World→List Nat→List Value→α→Prop} (hK:Loc K) {B:Nat} {w:World} {fs:List Nat} {e sz n c:Nat} {A:Option Addr} {l:List α} (h:OwSl K w fs e sz A n c l) (hfr:Fresh B w fs) (hB:B≤w.heap.size) {i:Nat} {x:α} (hx:l[i]? = some x) :
    ∃ css f cs g,Own w 0 e sz A n c css∧css[i]? = some cs∧K w f cs x∧A=some ⟨g,0,none⟩∧g ∉ f∧B≤g∧g < w.heap.size∧(∀ k∈f,B≤k∧k < w.heap.size)∧f.Nodup ∧
      (∀ w' cs' x' f',Own w' 0 e sz A n c (css.set i cs')→K w' f' cs' x'→Upd (g :: f) w w'→f'.Nodup→(∀ q∈f',q∈f∨w.heap.size≤q)→∃ fs',OwSl K w' fs' e sz A n c (l.set i x')∧Fresh B w' fs'):=by
  have hlt:=h.lt hK
  obtain ⟨css,fss,h1,h2,rfl⟩:=h
  obtain ⟨f,cs,hf,hcs,hk⟩:=h2.at_ hx
  obtain ⟨hno,hnf,hna⟩:=List.nodup_append.1 hfr.nodup
  rcases h1.cases with ⟨_,_,_,rfl⟩ | ⟨g,rfl,_,hgl,_⟩
  · simp at hcs
  · have hgo:g∈obl (some ⟨g,0,none⟩):=by simp [obl,ob]
    have hgf:g ∉ fss.flatten:=fun hm=>hna g hgo g hm rfl
    have hin:∀ k∈f,k∈obl (some ⟨g,0,none⟩)++fss.flatten:=fun k hk=>List.mem_append.2 (.inr (mem_flat hf hk))
    refine ⟨css,f,cs,g,h1,hcs,hk,rfl,fun hm=>hgf (mem_flat hf hm),hfr.lo g (List.mem_append.2 (.inl hgo)),hgl,fun k hk=>⟨hfr.lo k (hin k hk),hlt k (hin k hk)⟩,flat_nodup hnf (List.mem_of_getElem? hf),fun w' cs' x' f' ho hk' hu hd hq=>?_⟩
    have hold:∀ q∈fss.flatten,q < w.heap.size:=fun q hm=>hlt q (List.mem_append.2 (.inr hm))
    have hE:Each (K w') (fss.set i f') (css.set i cs') (l.set i x'):=h2.putF hk' fun j f2 cs2 x2 hne h3 _ _ hk2=>by
      refine hK.keep hk2 fun k hkf=>hu.block k (hK.lt hk2 k hkf) ?_
      simp only [List.mem_cons,not_or]
      exact ⟨fun e=>hgf (by rw [← e];exact mem_flat h3 hkf),flat_apart hnf h3 hf hne k hkf⟩
    have hmem:∀ q∈(fss.set i f').flatten,q∈fss.flatten∨(w.heap.size≤q∧q∈f'):=fun q hm=>by
      rcases flat_set_mem hm with h | ⟨j,g2,_,hg2,hq2⟩
      · rcases hq q h with h2 | h2
        · exact .inl (mem_flat hf h2)
        · exact .inr ⟨h2,h⟩
      · exact .inl (mem_flat hg2 hq2)
    have hltE:=hE.lt_ hK
    refine ⟨obl (some ⟨g,0,none⟩)++(fss.set i f').flatten,⟨css.set i cs',fss.set i f',ho,hE,rfl⟩,?_,?_,?_⟩
    · refine List.nodup_append.2 ⟨hno,flat_set_nodup hnf hf hd fun q hqm=>?_,fun a ha b hb e=>?_⟩
      · rcases hq q hqm with h2 | h2
        · exact .inl h2
        · exact .inr fun hm=>by have:=hold q hm;omega
      · subst e
        simp [obl,ob] at ha
        subst ha
        rcases hmem a hb with h2 | h2
        · exact hgf h2
        · omega
    · intro q hm
      rcases List.mem_append.1 hm with hm | hm
      · exact hfr.lo q (List.mem_append.2 (.inl hm))
      · rcases hmem q hm with h2 | h2
        · exact hfr.lo q (List.mem_append.2 (.inr h2))
        · omega
    · intro q hm
      rcases List.mem_append.1 hm with hm | hm
      · simp [obl,ob] at hm
        have:=hu.size;omega
      · exact hltE q hm
theorem OwSl.obl_mem {α:Type} {K:World→List Nat→List Value→α→Prop} {w:World} {fs:List Nat} {e sz n c:Nat} {A:Option Addr} {l:List α} (h:OwSl K w fs e sz A n c l):∀ q∈obl A,q∈fs:=by
  obtain ⟨css,fss,_,_,rfl⟩:=h
  exact fun q hq=>List.mem_append.2 (.inl hq)
theorem run_make_lit {P:Program} (w:World) (t e:TypeId) (i:TypeInfo) (z:Value) (zs:List Value) (sz bytes:Nat) (h1:P.underlying t=some (.slice e)) (h2:P.info? e=some i) (h3:i.zero=some z) (h4:i.size=sz) (h5:i.bytes=bytes) (hzs:z.cells=zs.toArray) (n:Nat) (b2:bytes * n≤281474976710656) (b3:n≤maxLen) :
    (Instr.makeSlice t (.int .i64 (n:Int)) (.int .i64 (n:Int))).run P w=.ok (.slice (some ⟨w.heap.size,0,none⟩) n n) (w.alloc (.cells (madeCells zs.toArray (n * sz)) e)):=by
  have h63':(n:Int)≤9223372036854775807:=by
    have h:=b3
    simp [maxLen] at h
    omega
  have hb':(i.bytes:Int) * (n:Int)≤281474976710656:=by
    have h:((i.bytes * n:Nat):Int)≤281474976710656:=by rw [h5];omega
    rwa [Int.natCast_mul] at h
  have hr:=run_make (P:=P) w t e i z h1 h2 h3 .i64 .i64 n n (by omega) (Int.le_refl _) hb' h63'
  simp only [Int.toNat_natCast,h4,hzs] at hr
  exact hr
theorem Own.lit (w:World) (e n sz:Nat) (zs:List Value) {B:Nat} {MC:Array Value} (hB:B≤w.heap.size) (hM:MC=madeCells zs.toArray (n * sz)) (hzl:zs.length=sz) (hs:0 < sz) (b3:n≤maxLen):Own (w.alloc (.cells MC e)) B e sz (some ⟨w.heap.size,0,none⟩) n n (List.replicate n zs):=by
  subst hM
  have r1:=World.ownsRow_lit w (e:=e) (size:=sz) (madeCells zs.toArray (n * sz)) n hB b3 (size_madeCells _ _)
  refine ⟨?_,by simp,fun cs hcs=>by rw [List.eq_of_mem_replicate hcs,hzl]⟩
  rw [← madeCells_flat zs n sz hzl hs];exact r1
theorem own_cells {w:World} {B e sz n c g k:Nat} {css:List (List Value)} {cs:List Value} (h:Own w B e sz (some ⟨g,0,none⟩) n c css) (hcs:css[k]? = some cs):∀ (j:Nat) (u:Value),cs[j]? = some u→w.cell? ⟨g,k * sz+j,none⟩=some u:=by
  intro j u hu
  obtain ⟨g',off',hA,hc⟩:=h.row.2 k cs hcs
  simp only [Option.some.injEq,Addr.mk.injEq,and_true] at hA
  obtain ⟨rfl,rfl⟩:=hA
  simpa using hc j u hu
theorem Row.take_ {α:Type} {w:World} {A:Option Addr} {n sz:Nat} {l:List α} {c:α→List Value} (h:Row w A n sz (l.map c)) {k:Nat} (hk:k≤n):Row w A k sz ((l.take k).map c):=by
  have hl:l.length=n:=h.len
  refine ⟨by simp;omega,fun i cs hi=>?_⟩
  rw [List.map_take] at hi
  have hik:i < k:=by
    have:=(List.getElem?_eq_some_iff.1 hi).1
    simp at this;omega
  rw [List.getElem?_take,if_pos hik] at hi
  exact h.2 i cs hi
theorem pick_row (w:World) (a0 a1 a2 a3 a4:Int):RowI (w.alloc (.cells #[.int .i64 a0,.int .i64 a1,.int .i64 a2,.int .i64 a3,.int .i64 a4] 3)) (some ⟨w.heap.size,0,none⟩) 5 [a0,a1,a2,a3,a4]:=by
  have e:(w.alloc (.cells #[.int .i64 a0,.int .i64 a1,.int .i64 a2,.int .i64 a3,.int .i64 a4] 3)).heap[w.heap.size]? = some (.cells #[.int .i64 a0,.int .i64 a1,.int .i64 a2,.int .i64 a3,.int .i64 a4] 3):=heap_alloc_new w _
  refine ⟨rfl,fun i cs hi=>⟨w.heap.size,0,rfl,fun j v hv=>?_⟩⟩
  unfold World.cell?
  rw [e]
  match i with
  | 0 | 1 | 2 | 3 | 4 =>
    simp [intCells] at hi
    subst hi
    match j with
    | 0=>simp at hv;subst hv;rfl
    | j+1=>simp at hv
  | i+5=>simp at hi
def pnm (k:Nat):ByteArray:=⟨#[112]⟩++itoaB (k:Int)
theorem pnm_eq {k:Nat} (h:k < 10):pnm k=⟨#[112,UInt8.ofNat (48+k)]⟩:=by
  apply bext
  unfold pnm itoaB
  rw [Lib.itoa_nonneg,Lib.decDigits_one h,ByteArray.data_append,Array.toList_append]
  rfl
theorem nm_ok:∀ k:Fin 10,isPoseNm ⟨#[112,UInt8.ofNat (48+k.val)]⟩=true:=by decide +kernel
theorem Upd.grown_hi2 {fs:List Nat} {a b c:World} {row:Option Nat} (h:Upd fs a b) (k:b.grownBy c row) (hr:∀ q,row=some q→a.heap.size≤q):Upd fs a c :=
  ⟨k.os.trans h.os,k.tape.trans h.tape,k.output.trans h.output,Nat.le_trans h.size k.size,fun i hi hn=>(k.block i (Nat.lt_of_lt_of_le hi h.size) (fun e=>by have:=hr i e.symm;omega)).trans (h.block i hi hn)⟩
theorem Cur.keep {W w w':World} {b:Nat} {A:Option Addr} {n c:Nat} (h:Cur W w b A n c) (hB:Below W.heap.size W w') (hk:w'.heap[b]? = w.heap[b]?):Cur W w' b A n c:=by
  have e1:∀ o,w'.cell? ⟨b,o,none⟩=w.cell? ⟨b,o,none⟩:=fun o=>World.cell?_of_block (a:=⟨b,o,none⟩) hk
  have e2:∀ o,w'.frozen? ⟨b,o,none⟩=w.frozen? ⟨b,o,none⟩:=fun o=>World.frozen?_of_block (a:=⟨b,o,none⟩) hk
  obtain ⟨i,hi,h1⟩:=h.c1
  obtain ⟨k,h2⟩:=h.c2
  exact ⟨hB,h.hb,(e1 0).trans h.c0,⟨i,hi,(e1 1).trans h1⟩,⟨k,(e1 2).trans h2⟩,fun o=>(e2 o).trans (h.fz o)⟩
theorem l01Once_c {W w:World} {b:Nat} {A:Option Addr} {n c:Nat} (hy:Bytes W A n) (hn:n≤4194304) (h:Cur W w b A n c) (m:Int) (h0:0 < m) (h1:m≤256) :
    Calls Tryz.prog 83 #[.pointer (some ⟨b,0,none⟩),.int .i64 m] w fun e w'=>∃ x,e=rBool x∧Cur W w' b A n c∧Upd [b] w w':=by
  have HC:=Lib.hid h
  have hy':=Lib.hid hy
  clear h hy
  go_enter Tryz.func83,Tryz.ntmps83
  go_wp2_with fail
  refine Calls.mono (l01Below_c hy'.out hn HC.out m h0 h1) ?_
  rintro e w1 ⟨x,rfl,hx0,hx1,hc1,hu1⟩
  go_wp2
  go_ret
  exact ⟨_,rfl,hc1,hu1⟩
theorem l01Str_c {W w:World} {b:Nat} {A:Option Addr} {n c:Nat} (hy:Bytes W A n) (hn:n≤4194304) (h:Cur W w b A n c) (g m cp:Nat) (l:List ByteArray) (hr:RowS w (some ⟨g,0,none⟩) m l) (hg:g≠b) (h0:0 < m) (h1:m≤256) :
    Calls Tryz.prog 99 #[.pointer (some ⟨b,0,none⟩),.slice (some ⟨g,0,none⟩) m cp] w fun e w'=>∃ x,e=.returned (.string x)∧x∈l∧Cur W w' b A n c∧Upd [b] w w':=by
  have HC:=Lib.hid h
  have hy':=Lib.hid hy
  have hr':=Lib.hid hr
  clear h hy hr
  have hmi0:(0:Int) < (m:Int):=by omega
  have hmi1:(m:Int)≤256:=by omega
  go_enter Tryz.func99,Tryz.ntmps99
  go_wp2_with fail
  refine Calls.mono (l01Below_c hy'.out hn HC.out (m:Int) (by omega) (by omega)) ?_
  rintro e w1 ⟨x,rfl,hx0,hx1,hc1,hu1⟩
  obtain ⟨k,rfl⟩:=Int.eq_ofNat_of_zero_le hx0
  have hk:k < m:=by omega
  obtain ⟨v,g',off',hv,hA,hcell⟩:=RowS.at_ (hr'.out.upd_ hu1 (fun g2 off2 e=>by simp only [Option.some.injEq,Addr.mk.injEq] at e;simp;omega)) hk
  simp only [Option.some.injEq,Addr.mk.injEq,and_true] at hA
  obtain ⟨rfl,rfl⟩:=hA
  rw [Nat.zero_add] at hcell
  go_wp2
  go_ret
  exact ⟨v,rfl,List.mem_of_getElem? hv.out,hc1,hu1⟩
theorem str_row (w:World) (l:List ByteArray):RowS (w.alloc (.cells (l.map Value.string).toArray 9)) (some ⟨w.heap.size,0,none⟩) l.length l:=by
  refine ⟨by simp,fun i cs hi=>⟨w.heap.size,0,rfl,fun j v hv=>?_⟩⟩
  have e:(w.alloc (.cells (l.map Value.string).toArray 9)).heap[w.heap.size]? = some (.cells (l.map Value.string).toArray 9):=heap_alloc_new w _
  unfold World.cell?
  rw [e]
  rw [List.getElem?_map] at hi
  cases hl:l[i]? with
  | none=>rw [hl] at hi;cases hi
  | some s =>
    rw [hl] at hi
    simp only [Option.map_some,Option.some.injEq] at hi
    subst hi
    match j with
    | 0 =>
      simp [strCells] at hv
      subst hv
      simp [hl]
    | j+1=>simp [strCells] at hv
theorem Cur.set_ {W w:World} {b:Nat} {A:Option Addr} {n c:Nat} (h:Cur W w b A n c) {p:Addr} (hp:b < p.block) (u:Value):Cur W (w.setCell p u) b A n c :=
  h.keep (bSet h.hB (by have:=h.hb;omega) u) (Below.heap_setCell _ _ _ _ (by omega))
def nearP (M t x y:Int):Prop:=0≤t∧t≤3∧-M≤x∧x≤M∧-M≤y∧y≤M
theorem l05Draw_c {W w:World} {b:Nat} {A:Option Addr} {n c:Nat} (hy:Bytes W A n) (hn:n≤4194304) (h:Cur W w b A n c) :
    Calls Tryz.prog 78 #[.pointer (some ⟨b,0,none⟩)] w fun e w'=>∃ t x y,e=.returned (vPose t x y)∧nearP 20 t x y∧Cur W w' b A n c∧Upd [b] w w':=by
  have hlt:=h.lt
  have hy':=Lib.hid hy
  have HC:=Lib.hid (h.below (bAlloc (Below.refl _ _) (.cells #[.int .i64 0,.int .i64 0,.int .i64 0] 32)))
  clear h hy
  go_enter Tryz.func78,Tryz.ntmps78
  go_wp2_with fail
  refine Calls.mono (l01Below_c hy'.out hn HC.out 4 (by omega) (by omega)) ?_
  rintro e w1 ⟨t,rfl,ht0,ht1,hc1,hu1⟩
  have HC1:=Lib.hid hc1
  have U1:Upd [b] w w1:=(Upd.of_below (bAlloc (Below.refl _ _) _)).trans hu1
  have q0:=uBox hu1 w.heap.size (by simp) (by simp;omega)
  have f0:=uBoxF hu1 w.heap.size (by simp) (by simp;omega)
  have z1:w.heap.size < w1.heap.size:=by have:=hu1.size;simp at this;omega
  clear hc1 HC
  go_wp2_with fail
  refine Calls.mono (l01Below_c hy'.out hn HC1.out 41 (by omega) (by omega)) ?_
  rintro e w2 ⟨x,rfl,hx0,hx1,hc2,hu2⟩
  have HC2:=Lib.hid hc2
  have U2:=U1.trans hu2
  have q1:=uBox hu2 w.heap.size z1 (by simp;omega)
  have f1:=uBoxF hu2 w.heap.size z1 (by simp;omega)
  have z2:w.heap.size < w2.heap.size:=by have:=hu2.size;omega
  clear hc2 HC1
  go_wp2_with fail
  refine Calls.mono (l01Below_c hy'.out hn HC2.out 41 (by omega) (by omega)) ?_
  rintro e w3 ⟨y,rfl,hy0,hy1,hc3,hu3⟩
  have U3:=U2.trans hu3
  have q2:=uBox hu3 w.heap.size z2 (by simp;omega)
  have f2:=uBoxF hu3 w.heap.size z2 (by simp;omega)
  have z3:w.heap.size < w3.heap.size:=by have:=hu3.size;omega
  have hc4:=((hc3.set_ (p:=⟨w.heap.size,0,none⟩) hlt (.int .i64 t)).set_ (p:=⟨w.heap.size,1,none⟩) hlt (.int .i64 (x - 20))).set_ (p:=⟨w.heap.size,2,none⟩) hlt (.int .i64 (y - 20))
  have U4:=((U3.set_new (p:=⟨w.heap.size,0,none⟩) (Nat.le_refl _) (.int .i64 t)).set_new (p:=⟨w.heap.size,1,none⟩) (Nat.le_refl _) (.int .i64 (x - 20))).set_new (p:=⟨w.heap.size,2,none⟩) (Nat.le_refl _) (.int .i64 (y - 20))
  clear hc3 HC2
  go_wp2
  exact bodyPost_ret (v:=vPose t (x - 20) (y - 20)) (by simp [*,results,Tryz.results78,go_sem]) rfl ⟨t,x - 20,y - 20,rfl,⟨by omega,by omega,by omega,by omega,by omega,by omega⟩,hc4,U4⟩
theorem l16Pose_c {W w:World} {b:Nat} {A:Option Addr} {n c:Nat} (hy:Bytes W A n) (hn:n≤4194304) (h:Cur W w b A n c) :
    Calls Tryz.prog 98 #[.pointer (some ⟨b,0,none⟩)] w fun e w'=>∃ x,e=.returned (.string x)∧x∈[(⟨#[112,48]⟩:ByteArray),⟨#[112,49]⟩,⟨#[112,50]⟩,⟨#[112,51]⟩]∧Cur W w' b A n c∧Upd [b] w w':=by
  have hlt:=h.lt
  have hy':=Lib.hid hy
  have HC:=Lib.hid (h.below (bAlloc (Below.refl _ _) (.cells #[.string ⟨#[112,48]⟩,.string ⟨#[112,49]⟩,.string ⟨#[112,50]⟩,.string ⟨#[112,51]⟩] 9)))
  have hrow:=Lib.hid (str_row w [(⟨#[112,48]⟩:ByteArray),⟨#[112,49]⟩,⟨#[112,50]⟩,⟨#[112,51]⟩])
  clear h hy
  go_enter Tryz.func98,Tryz.ntmps98
  go_wp2_with fail
  refine Calls.mono (l01Str_c hy'.out hn HC.out _ 4 4 _ hrow.out (by omega) (by omega) (by omega)) ?_
  rintro e w1 ⟨x,rfl,hx,hc1,hu1⟩
  have HX:=Lib.hid hx
  clear hx
  go_wp2
  go_ret
  exact ⟨x,rfl,HX.out,hc1,(Upd.of_below (bAlloc (Below.refl _ _) _)).trans hu1⟩
abbrev pNames:List ByteArray:=[(⟨#[112,48]⟩:ByteArray),⟨#[112,49]⟩,⟨#[112,50]⟩,⟨#[112,51]⟩]
abbrev mNames:List ByteArray:=[(⟨#[109,48]⟩:ByteArray),⟨#[109,49]⟩]
theorem pNames_ok:∀ s∈pNames,isPoseNm s=true∧(s.toList == (⟨#[112,52]⟩:ByteArray).toList)=false∧s.toList.isEmpty=false∧s.size=2:=by decide +kernel
theorem mNames_ok:∀ s∈mNames,isLandNm s=true∧(s.toList == (⟨#[112,52]⟩:ByteArray).toList)=false∧s.size=2:=by decide +kernel
theorem mp_ne:∀ s∈pNames,∀ t∈mNames,(s.toList == t.toList)=false:=by decide +kernel
theorem p4_ok:isPoseNm (⟨#[112,52]⟩:ByteArray)=true:=by decide +kernel
theorem nearP.vld {M t x y:Int} (h:nearP M t x y) (hM:M≤1000000):vldPose t x y=true:=by
  obtain ⟨h1,h2,h3,h4,h5,h6⟩:=h
  simp only [vldPose,Bool.and_eq_true]
  exact ⟨inR_iff.2 ⟨h1,h2⟩,inR_iff.2 ⟨by omega,by omega⟩,inR_iff.2 ⟨by omega,by omega⟩⟩
theorem vld_prior {id t x y wt:Int} {to:ByteArray} (h1:inR id 0 99999=true) (h2:vldPose t x y=true) (h3:inR wt 1 9999=true) (h4:isPoseNm to=true):vldFactor ⟨id,1,⟨#[]⟩,to,⟨t,x,y⟩,wt⟩=true:=by
  have e:(⟨#[]⟩:ByteArray).toList.isEmpty=true:=by decide +kernel
  simp [vldFactor,vldF,h1,h2,h3,h4,e]
theorem vld_two {id k t x y wt:Int} {fr to:ByteArray} (hk:k=2∨k=4) (h1:inR id 0 99999=true) (h2:vldPose t x y=true) (h3:inR wt 1 9999=true) (h4:isPoseNm fr=true) (h5:isPoseNm to=true) (h6:(fr.toList == to.toList)=false):vldFactor ⟨id,k,fr,to,⟨t,x,y⟩,wt⟩=true:=by
  have hk1:¬ k=1:=by omega
  simp only [vldFactor,vldF,h1,h2,h3,h4,h5,h6,hk1,hk,if_false,if_true];rfl
theorem vld_land {id x y wt:Int} {fr to:ByteArray} (h1:inR id 0 99999=true) (h2:vldPose 0 x y=true) (h3:inR wt 1 9999=true) (h4:isPoseNm fr=true) (h5:isLandNm to=true):vldFactor ⟨id,3,fr,to,⟨0,x,y⟩,wt⟩=true:=by
  simp [vldFactor,vldF,h1,h2,h3,h4,h5]
theorem cells_b {w:World} {cs:Array Value} {t:TypeId} {k:Nat} {v:Value} (h:cs[k]? = some v):(w.alloc (.cells cs t)).cell? ⟨w.heap.size,k,none⟩=some v:=by
  have e:(w.alloc (.cells cs t)).heap[w.heap.size]? = some (.cells cs t):=heap_alloc_new w _
  unfold World.cell?
  rw [e]
  exact h
theorem frozen_b (w:World) (cs:Array Value) (t:TypeId) (o:Obj) (k:Nat):((w.alloc (.cells cs t)).alloc o).frozen? ⟨w.heap.size,k,none⟩=false:=by
  have e:((w.alloc (.cells cs t)).alloc o).heap[w.heap.size]? = some (.cells cs t):=((bAlloc (Below.refl (w.alloc (.cells cs t)).heap.size (w.alloc (.cells cs t))) o).block w.heap.size (by simp)).trans (heap_alloc_new w _)
  unfold World.frozen?
  rw [e]
  rfl
theorem Cur.alloc_ {W w:World} {b:Nat} {A:Option Addr} {n c:Nat} (h:Cur W w b A n c) (o:Obj):Cur W (w.alloc o) b A n c:=h.below (bAlloc (Below.refl _ _) o)
theorem frozen_a (w:World) (cs:Array Value) (t:TypeId) (k:Nat):(w.alloc (.cells cs t)).frozen? ⟨w.heap.size,k,none⟩=false:=by
  have e:(w.alloc (.cells cs t)).heap[w.heap.size]? = some (.cells cs t):=heap_alloc_new w _
  unfold World.frozen?
  rw [e]
  rfl
theorem frozen_al {w:World} {o:Obj} {g k:Nat} (h:g < w.heap.size) (hf:w.frozen? ⟨g,k,none⟩=false):(w.alloc o).frozen? ⟨g,k,none⟩=false:=((bAlloc (Below.refl w.heap.size w) o).frozen (p:=⟨g,k,none⟩) h).trans hf
theorem pick_row' (w:World) (g:Nat) (hg:g=w.heap.size) (a0 a1 a2 a3 a4:Int):RowI (w.alloc (.cells #[.int .i64 a0,.int .i64 a1,.int .i64 a2,.int .i64 a3,.int .i64 a4] 3)) (some ⟨g,0,none⟩) 5 [a0,a1,a2,a3,a4]:=by subst hg;exact pick_row w a0 a1 a2 a3 a4
theorem str_row' (w:World) (g:Nat) (hg:g=w.heap.size) (l:List ByteArray):RowS (w.alloc (.cells (l.map Value.string).toArray 9)) (some ⟨g,0,none⟩) l.length l:=by subst hg;exact str_row w l
theorem l16Draw_c {W w:World} {b:Nat} {A:Option Addr} {n c:Nat} (hy:Bytes W A n) (hn:n≤4194304) (h:Cur W w b A n c) (id:Int) (hid:inR id 0 99999=true) :
    Calls Tryz.prog 48 #[.pointer (some ⟨b,0,none⟩),.int .i64 id] w fun e w'=>∃ k fr to t x y wt,e=.returned (vFactor id k fr to t x y wt)∧vldFactor ⟨id,k,fr,to,⟨t,x,y⟩,wt⟩=true∧Cur W w' b A n c∧Upd [b] w w':=by
  have hlt:=h.lt
  have hy':=Lib.hid hy
  have hz:Below w.heap.size w (w.alloc (.cells #[.int .i64 0,.int .i64 0,.string ⟨#[]⟩,.string ⟨#[]⟩,.int .i64 0,.int .i64 0,.int .i64 0,.int .i64 0] 34)):=bAlloc (Below.refl _ _) _
  have hc0:=h.below hz
  have HC:=Lib.hid (hc0.below (bAlloc (Below.refl _ _) (.cells #[.int .i64 1,.int .i64 2,.int .i64 2,.int .i64 3,.int .i64 4] 3)))
  have hrow:=Lib.hid (pick_row' (w.alloc (.cells #[.int .i64 0,.int .i64 0,.string ⟨#[]⟩,.string ⟨#[]⟩,.int .i64 0,.int .i64 0,.int .i64 0,.int .i64 0] 34)) (w.heap.size+1) (by simp) 1 2 2 3 4)
  have HID:=Lib.hid hid
  clear h hy hc0 hz hid
  go_enter Tryz.func48,Tryz.ntmps48
  go_wp2_with fail
  refine Calls.mono (l01Pick_c hy'.out hn HC.out _ 5 5 _ hrow.out (by simp;omega) (by omega) (by omega)) ?_
  rintro e w1 ⟨k,rfl,hk,hc1,hu1⟩
  have HC1:=Lib.hid hc1
  have U1:Upd [b] w w1:=(Upd.of_below (bAlloc (bAlloc (Below.refl _ _) _) _)).trans hu1
  have q1:=uBox hu1 w.heap.size (by simp;omega) (by simp;omega)
  have f1:=uBoxF hu1 w.heap.size (by simp;omega) (by simp;omega)
  have z1:w.heap.size+1 < w1.heap.size:=by have:=hu1.size;simp at this;omega
  have HK:=Lib.hid hk
  clear hc1 HC hrow hu1 hk
  go_wp2_with fail
  refine Calls.mono (l16Pose_c hy'.out hn HC1.out) ?_
  rintro e w2 ⟨to,rfl,hto,hc2,hu2⟩
  have HTO:=Lib.hid hto
  have HC2:=Lib.hid hc2
  have U2:=U1.trans hu2
  have q2:=uBox hu2 w.heap.size (by omega) (by simp;omega)
  have f2:=uBoxF hu2 w.heap.size (by omega) (by simp;omega)
  have z2:w.heap.size+1 < w2.heap.size:=by have:=hu2.size;omega
  clear hc2 HC1 hu2 hto
  go_wp2_with fail
  refine Calls.mono (l05Draw_c hy'.out hn HC2.out) ?_
  rintro e w3 ⟨t,x,y,rfl,hp,hc3,hu3⟩
  have HP:=Lib.hid hp
  have HC3:=Lib.hid hc3
  have U3:=U2.trans hu3
  have q3:=uBox hu3 w.heap.size (by omega) (by simp;omega)
  have f3:=uBoxF hu3 w.heap.size (by omega) (by simp;omega)
  have z3:w.heap.size+1 < w3.heap.size:=by have:=hu3.size;omega
  clear hc3 HC2 hu3 hp
  go_wp2_with fail
  refine Calls.mono (l01Below_c hy'.out hn HC3.out 9 (by omega) (by omega)) ?_
  rintro e w4 ⟨wt,rfl,hw0,hw1,hc4,hu4⟩
  have HC4:=Lib.hid (hc4.below (bAlloc (Below.refl _ _) (.cells #[.int .i64 id,.int .i64 k,.string ⟨#[]⟩,.string to,.int .i64 t,.int .i64 x,.int .i64 y,.int .i64 (1+wt)] 34)))
  have U4:Upd [b] w (w4.alloc (.cells #[.int .i64 id,.int .i64 k,.string ⟨#[]⟩,.string to,.int .i64 t,.int .i64 x,.int .i64 y,.int .i64 (1+wt)] 34)):=(U3.trans hu4).alloc_ _
  have q4:=uBox hu4 w.heap.size (by omega) (by simp;omega)
  have f4:=uBoxF hu4 w.heap.size (by omega) (by simp;omega)
  have z4:w.heap.size+1 < w4.heap.size:=by have:=hu4.size;omega
  have hwt:=Lib.hid (inR_iff.2 (show 1≤1+wt∧1+wt≤9999 from ⟨by omega,by omega⟩))
  have s4:∀ (j:Nat) (v:Value),(#[.int .i64 0,.int .i64 0,.string ⟨#[]⟩,.string ⟨#[]⟩,.int .i64 0,.int .i64 0,.int .i64 0,.int .i64 0]:Array Value)[j]? = some v→w4.cell? ⟨w.heap.size,j,none⟩=some v:=fun j v hv=>by
    rw [q4,q3,q2,q1]
    exact bCell (bAlloc (Below.refl _ _) _) (cells_b hv)
  have d0:=s4 0 _ rfl;have d1:=s4 1 _ rfl;have d2:=s4 2 _ rfl;have d3:=s4 3 _ rfl
  have d4:=s4 4 _ rfl;have d5:=s4 5 _ rfl;have d6:=s4 6 _ rfl;have d7:=s4 7 _ rfl
  have g4:∀ o,w4.frozen? ⟨w.heap.size,o,none⟩=false:=fun o=>by rw [f4,f3,f2,f1];exact frozen_b _ _ _ _ _
  have z5:w.heap.size < w4.heap.size:=by omega
  have U4w:=U3.trans hu4
  have hcw:=hc4
  clear s4 q1 q2 q3 q4 f1 f2 f3 f4 z1 z2 z3 hc4 HC3 hu4
  have hkk:k=1∨k=2∨k=3∨k=4:=by have:=HK.out;simp at this;omega
  have UW:=Lib.hid U4w
  have HCw:=Lib.hid hcw
  clear U4w hcw HK
  rcases hkk with rfl | rfl | rfl | rfl
  · obtain ⟨o1,o2,o3,o4⟩:=pNames_ok to HTO.out
    have hne:(([]:List UInt8) == to.toList)=false:=by
      cases h:to.toList with
      | nil=>rw [h] at o3;cases o3
      | cons a l=>rfl
    have hvl:=Lib.hid (vld_prior (id:=id) (to:=to) HID.out (HP.out.vld (by omega)) hwt.out o1)
    clear o1 o2
    go_wp2
    exact bodyPost_ret (v:=vFactor id 1 ⟨#[]⟩ to t x y (1+wt)) (by simp [*,results,Tryz.results48,go_sem]) rfl ⟨1,⟨#[]⟩,to,t,x,y,1+wt,rfl,hvl.out,(by repeat (first | with_reducible exact HCw.out | ((with_reducible refine Cur.set_ ?_ ?_ _);rotate_left;(first | (simp;omega) | (simp) | omega)) | with_reducible refine Cur.alloc_ ?_ _)),(by repeat (first | with_reducible exact UW.out | ((with_reducible refine Upd.set_new ?_ ?_ _);rotate_left;(first | (simp;omega) | (simp) | omega)) | with_reducible refine Upd.alloc_ ?_ _))⟩
  · obtain ⟨o1,o2,o3,o4⟩:=pNames_ok to HTO.out
    go_wp2_with fail
    refine Calls.mono (l16Pose_c hy'.out hn HC4.out) ?_
    rintro e w5 ⟨fr,rfl,hfr,hc5,hu5⟩
    obtain ⟨p1,p2,p3,p4⟩:=pNames_ok fr hfr
    have a0:w5.cell? ⟨w4.heap.size,0,none⟩=some (.int .i64 id):=(uBox hu5 (w4.heap.size) (by simp) (by simp;omega) _).trans (cells_b rfl)
    have a1:w5.cell? ⟨w4.heap.size,1,none⟩=some (.int .i64 2):=(uBox hu5 (w4.heap.size) (by simp) (by simp;omega) _).trans (cells_b rfl)
    have a2:w5.cell? ⟨w4.heap.size,2,none⟩=some (.string ⟨#[]⟩):=(uBox hu5 (w4.heap.size) (by simp) (by simp;omega) _).trans (cells_b rfl)
    have a3:w5.cell? ⟨w4.heap.size,3,none⟩=some (.string to):=(uBox hu5 (w4.heap.size) (by simp) (by simp;omega) _).trans (cells_b rfl)
    have a4:w5.cell? ⟨w4.heap.size,4,none⟩=some (.int .i64 t):=(uBox hu5 (w4.heap.size) (by simp) (by simp;omega) _).trans (cells_b rfl)
    have a5:w5.cell? ⟨w4.heap.size,5,none⟩=some (.int .i64 x):=(uBox hu5 (w4.heap.size) (by simp) (by simp;omega) _).trans (cells_b rfl)
    have a6:w5.cell? ⟨w4.heap.size,6,none⟩=some (.int .i64 y):=(uBox hu5 (w4.heap.size) (by simp) (by simp;omega) _).trans (cells_b rfl)
    have a7:w5.cell? ⟨w4.heap.size,7,none⟩=some (.int .i64 (1+wt)):=(uBox hu5 (w4.heap.size) (by simp) (by simp;omega) _).trans (cells_b rfl)
    have af:∀ o,w5.frozen? ⟨w4.heap.size,o,none⟩=false:=fun o=>(uBoxF hu5 (w4.heap.size) (by simp) (by simp;omega) _).trans (frozen_a _ _ _ _)
    have az:w4.heap.size < w5.heap.size:=by have:=hu5.size;simp at this;omega
    have r0:w5.cell? ⟨w.heap.size,0,none⟩=some (.int .i64 0):=(uBox hu5 (w.heap.size) (by simp;omega) (by simp;omega) _).trans (bCell (bAlloc (Below.refl _ _) _) d0)
    have r1:w5.cell? ⟨w.heap.size,1,none⟩=some (.int .i64 0):=(uBox hu5 (w.heap.size) (by simp;omega) (by simp;omega) _).trans (bCell (bAlloc (Below.refl _ _) _) d1)
    have r2:w5.cell? ⟨w.heap.size,2,none⟩=some (.string ⟨#[]⟩):=(uBox hu5 (w.heap.size) (by simp;omega) (by simp;omega) _).trans (bCell (bAlloc (Below.refl _ _) _) d2)
    have r3:w5.cell? ⟨w.heap.size,3,none⟩=some (.string ⟨#[]⟩):=(uBox hu5 (w.heap.size) (by simp;omega) (by simp;omega) _).trans (bCell (bAlloc (Below.refl _ _) _) d3)
    have r4:w5.cell? ⟨w.heap.size,4,none⟩=some (.int .i64 0):=(uBox hu5 (w.heap.size) (by simp;omega) (by simp;omega) _).trans (bCell (bAlloc (Below.refl _ _) _) d4)
    have r5:w5.cell? ⟨w.heap.size,5,none⟩=some (.int .i64 0):=(uBox hu5 (w.heap.size) (by simp;omega) (by simp;omega) _).trans (bCell (bAlloc (Below.refl _ _) _) d5)
    have r6:w5.cell? ⟨w.heap.size,6,none⟩=some (.int .i64 0):=(uBox hu5 (w.heap.size) (by simp;omega) (by simp;omega) _).trans (bCell (bAlloc (Below.refl _ _) _) d6)
    have r7:w5.cell? ⟨w.heap.size,7,none⟩=some (.int .i64 0):=(uBox hu5 (w.heap.size) (by simp;omega) (by simp;omega) _).trans (bCell (bAlloc (Below.refl _ _) _) d7)
    have rf:∀ o,w5.frozen? ⟨w.heap.size,o,none⟩=false:=fun o=>(uBoxF hu5 (w.heap.size) (by simp;omega) (by simp;omega) _).trans (frozen_al z5 (g4 o))
    have rz:w.heap.size < w5.heap.size:=by have:=hu5.size;simp at this;omega
    have U5:=Lib.hid (U4.trans hu5)
    have HC5:=Lib.hid hc5
    clear d0 d1 d2 d3 d4 d5 d6 d7 g4 hc5 hu5 HC4 HCw UW z5
    cases heq:(fr.toList == to.toList)
    · have hvl:=Lib.hid (vld_two (id:=id) (k:=2) (by omega) HID.out (HP.out.vld (by omega)) hwt.out p1 o1 heq)
      clear p1 o1 p2 o2
      go_wp2
      exact bodyPost_ret (v:=vFactor id 2 fr to t x y (1+wt)) (by simp [*,results,Tryz.results48,go_sem]) rfl ⟨2,fr,to,t,x,y,1+wt,rfl,hvl.out,(by repeat (first | with_reducible exact HC5.out | ((with_reducible refine Cur.set_ ?_ ?_ _);rotate_left;(first | (simp;omega) | (simp) | omega)) | with_reducible refine Cur.alloc_ ?_ _)),(by repeat (first | with_reducible exact U5.out | ((with_reducible refine Upd.set_new ?_ ?_ _);rotate_left;(first | (simp;omega) | (simp) | omega)) | with_reducible refine Upd.alloc_ ?_ _))⟩
    · have o2':((⟨#[112,52]⟩:ByteArray).toList == to.toList)=false:=by
        rw [Bool.eq_false_iff] at o2 ⊢
        intro h;exact o2 (by rw [beq_iff_eq] at h ⊢;exact h.symm)
      have hvl:=Lib.hid (vld_two (id:=id) (k:=2) (by omega) HID.out (HP.out.vld (by omega)) hwt.out p4_ok o1 o2')
      clear p1 o1 p2 o2 o2'
      go_wp2
      exact bodyPost_ret (v:=vFactor id 2 ⟨#[112,52]⟩ to t x y (1+wt)) (by simp [*,results,Tryz.results48,go_sem]) rfl ⟨2,⟨#[112,52]⟩,to,t,x,y,1+wt,rfl,hvl.out,(by repeat (first | with_reducible exact HC5.out | ((with_reducible refine Cur.set_ ?_ ?_ _);rotate_left;(first | (simp;omega) | (simp) | omega)) | with_reducible refine Cur.alloc_ ?_ _)),(by repeat (first | with_reducible exact U5.out | ((with_reducible refine Upd.set_new ?_ ?_ _);rotate_left;(first | (simp;omega) | (simp) | omega)) | with_reducible refine Upd.alloc_ ?_ _))⟩
  · obtain ⟨o1,o2,o3,o4⟩:=pNames_ok to HTO.out
    go_wp2_with fail
    refine Calls.mono (l16Pose_c hy'.out hn HC4.out) ?_
    rintro e w5 ⟨fr,rfl,hfr,hc5,hu5⟩
    obtain ⟨p1,p2,p3,p4⟩:=pNames_ok fr hfr
    have a0:w5.cell? ⟨w4.heap.size,0,none⟩=some (.int .i64 id):=(uBox hu5 (w4.heap.size) (by simp) (by simp;omega) _).trans (cells_b rfl)
    have a1:w5.cell? ⟨w4.heap.size,1,none⟩=some (.int .i64 3):=(uBox hu5 (w4.heap.size) (by simp) (by simp;omega) _).trans (cells_b rfl)
    have a2:w5.cell? ⟨w4.heap.size,2,none⟩=some (.string ⟨#[]⟩):=(uBox hu5 (w4.heap.size) (by simp) (by simp;omega) _).trans (cells_b rfl)
    have a3:w5.cell? ⟨w4.heap.size,3,none⟩=some (.string to):=(uBox hu5 (w4.heap.size) (by simp) (by simp;omega) _).trans (cells_b rfl)
    have a4:w5.cell? ⟨w4.heap.size,4,none⟩=some (.int .i64 t):=(uBox hu5 (w4.heap.size) (by simp) (by simp;omega) _).trans (cells_b rfl)
    have a5:w5.cell? ⟨w4.heap.size,5,none⟩=some (.int .i64 x):=(uBox hu5 (w4.heap.size) (by simp) (by simp;omega) _).trans (cells_b rfl)
    have a6:w5.cell? ⟨w4.heap.size,6,none⟩=some (.int .i64 y):=(uBox hu5 (w4.heap.size) (by simp) (by simp;omega) _).trans (cells_b rfl)
    have a7:w5.cell? ⟨w4.heap.size,7,none⟩=some (.int .i64 (1+wt)):=(uBox hu5 (w4.heap.size) (by simp) (by simp;omega) _).trans (cells_b rfl)
    have af:∀ o,w5.frozen? ⟨w4.heap.size,o,none⟩=false:=fun o=>(uBoxF hu5 (w4.heap.size) (by simp) (by simp;omega) _).trans (frozen_a _ _ _ _)
    have az:w4.heap.size < w5.heap.size:=by have:=hu5.size;simp at this;omega
    have r0:w5.cell? ⟨w.heap.size,0,none⟩=some (.int .i64 0):=(uBox hu5 (w.heap.size) (by simp;omega) (by simp;omega) _).trans (bCell (bAlloc (Below.refl _ _) _) d0)
    have r1:w5.cell? ⟨w.heap.size,1,none⟩=some (.int .i64 0):=(uBox hu5 (w.heap.size) (by simp;omega) (by simp;omega) _).trans (bCell (bAlloc (Below.refl _ _) _) d1)
    have r2:w5.cell? ⟨w.heap.size,2,none⟩=some (.string ⟨#[]⟩):=(uBox hu5 (w.heap.size) (by simp;omega) (by simp;omega) _).trans (bCell (bAlloc (Below.refl _ _) _) d2)
    have r3:w5.cell? ⟨w.heap.size,3,none⟩=some (.string ⟨#[]⟩):=(uBox hu5 (w.heap.size) (by simp;omega) (by simp;omega) _).trans (bCell (bAlloc (Below.refl _ _) _) d3)
    have r4:w5.cell? ⟨w.heap.size,4,none⟩=some (.int .i64 0):=(uBox hu5 (w.heap.size) (by simp;omega) (by simp;omega) _).trans (bCell (bAlloc (Below.refl _ _) _) d4)
    have r5:w5.cell? ⟨w.heap.size,5,none⟩=some (.int .i64 0):=(uBox hu5 (w.heap.size) (by simp;omega) (by simp;omega) _).trans (bCell (bAlloc (Below.refl _ _) _) d5)
    have r6:w5.cell? ⟨w.heap.size,6,none⟩=some (.int .i64 0):=(uBox hu5 (w.heap.size) (by simp;omega) (by simp;omega) _).trans (bCell (bAlloc (Below.refl _ _) _) d6)
    have r7:w5.cell? ⟨w.heap.size,7,none⟩=some (.int .i64 0):=(uBox hu5 (w.heap.size) (by simp;omega) (by simp;omega) _).trans (bCell (bAlloc (Below.refl _ _) _) d7)
    have rf:∀ o,w5.frozen? ⟨w.heap.size,o,none⟩=false:=fun o=>(uBoxF hu5 (w.heap.size) (by simp;omega) (by simp;omega) _).trans (frozen_al z5 (g4 o))
    have rz:w.heap.size < w5.heap.size:=by have:=hu5.size;simp at this;omega
    have U5:=Lib.hid (U4.trans hu5)
    have HC5:=Lib.hid hc5
    clear d0 d1 d2 d3 d4 d5 d6 d7 g4 hc5 hu5 HC4 HCw UW z5
    have hrow2:=Lib.hid (str_row' (w5.setCell ⟨w4.heap.size,2,none⟩ (.string fr)) w5.heap.size (by simp) mNames)
    have HC6:=Lib.hid ((HC5.out.set_ (p:=⟨w4.heap.size,2,none⟩) (by simp;omega) (.string fr)).alloc_ (.cells #[.string ⟨#[109,48]⟩,.string ⟨#[109,49]⟩] 9))
    have U6:=Lib.hid ((U5.out.set_new (p:=⟨w4.heap.size,2,none⟩) (by simp;omega) (.string fr)).alloc_ (.cells #[.string ⟨#[109,48]⟩,.string ⟨#[109,49]⟩] 9))
    clear HC5 U5
    go_wp2_with fail
    refine Calls.mono (l01Str_c hy'.out hn HC6.out _ 2 2 _ hrow2.out (by omega) (by omega) (by omega)) ?_
    rintro e w6 ⟨tl,rfl,htl,hc6,hu6⟩
    obtain ⟨l1,l2,l4⟩:=mNames_ok tl htl
    have hne:=mp_ne fr hfr tl htl
    have hvl:=Lib.hid (vld_land (id:=id) (to:=tl) HID.out (show vldPose 0 x y=true from nearP.vld (M:=20) ⟨by omega,by omega,HP.out.2.2⟩ (by omega)) hwt.out p1 l1)
    have U7:=Lib.hid (U6.out.trans hu6)
    have HC7:=Lib.hid hc6
    have m0:w6.cell? ⟨w4.heap.size,0,none⟩=some (.int .i64 id):=(uBox hu6 (w4.heap.size) (by simp;omega) (by simp;omega) _).trans (by go_simp)
    have m1:w6.cell? ⟨w4.heap.size,1,none⟩=some (.int .i64 3):=(uBox hu6 (w4.heap.size) (by simp;omega) (by simp;omega) _).trans (by go_simp)
    have m2:w6.cell? ⟨w4.heap.size,2,none⟩=some (.string fr):=(uBox hu6 (w4.heap.size) (by simp;omega) (by simp;omega) _).trans (by go_simp)
    have m3:w6.cell? ⟨w4.heap.size,3,none⟩=some (.string to):=(uBox hu6 (w4.heap.size) (by simp;omega) (by simp;omega) _).trans (by go_simp)
    have m4:w6.cell? ⟨w4.heap.size,4,none⟩=some (.int .i64 t):=(uBox hu6 (w4.heap.size) (by simp;omega) (by simp;omega) _).trans (by go_simp)
    have m5:w6.cell? ⟨w4.heap.size,5,none⟩=some (.int .i64 x):=(uBox hu6 (w4.heap.size) (by simp;omega) (by simp;omega) _).trans (by go_simp)
    have m6:w6.cell? ⟨w4.heap.size,6,none⟩=some (.int .i64 y):=(uBox hu6 (w4.heap.size) (by simp;omega) (by simp;omega) _).trans (by go_simp)
    have m7:w6.cell? ⟨w4.heap.size,7,none⟩=some (.int .i64 (1+wt)):=(uBox hu6 (w4.heap.size) (by simp;omega) (by simp;omega) _).trans (by go_simp)
    have mf:∀ o,w6.frozen? ⟨w4.heap.size,o,none⟩=false:=fun o=>(uBoxF hu6 (w4.heap.size) (by simp;omega) (by simp;omega) _).trans (by go_simp)
    have mz:w4.heap.size < w6.heap.size:=by have:=hu6.size;simp at this;omega
    have s0:w6.cell? ⟨w.heap.size,0,none⟩=some (.int .i64 0):=(uBox hu6 (w.heap.size) (by simp;omega) (by simp;omega) _).trans (by go_simp)
    have s1:w6.cell? ⟨w.heap.size,1,none⟩=some (.int .i64 0):=(uBox hu6 (w.heap.size) (by simp;omega) (by simp;omega) _).trans (by go_simp)
    have s2:w6.cell? ⟨w.heap.size,2,none⟩=some (.string ⟨#[]⟩):=(uBox hu6 (w.heap.size) (by simp;omega) (by simp;omega) _).trans (by go_simp)
    have s3:w6.cell? ⟨w.heap.size,3,none⟩=some (.string ⟨#[]⟩):=(uBox hu6 (w.heap.size) (by simp;omega) (by simp;omega) _).trans (by go_simp)
    have s4:w6.cell? ⟨w.heap.size,4,none⟩=some (.int .i64 0):=(uBox hu6 (w.heap.size) (by simp;omega) (by simp;omega) _).trans (by go_simp)
    have s5:w6.cell? ⟨w.heap.size,5,none⟩=some (.int .i64 0):=(uBox hu6 (w.heap.size) (by simp;omega) (by simp;omega) _).trans (by go_simp)
    have s6:w6.cell? ⟨w.heap.size,6,none⟩=some (.int .i64 0):=(uBox hu6 (w.heap.size) (by simp;omega) (by simp;omega) _).trans (by go_simp)
    have s7:w6.cell? ⟨w.heap.size,7,none⟩=some (.int .i64 0):=(uBox hu6 (w.heap.size) (by simp;omega) (by simp;omega) _).trans (by go_simp)
    have sf:∀ o,w6.frozen? ⟨w.heap.size,o,none⟩=false:=fun o=>(uBoxF hu6 (w.heap.size) (by simp;omega) (by simp;omega) _).trans (by go_simp)
    have sz:w.heap.size < w6.heap.size:=by have:=hu6.size;simp at this;omega
    clear a0 a1 a2 a3 a4 a5 a6 a7 af az r0 r1 r2 r3 r4 r5 r6 r7 rf rz hc6 hu6 HC6 U6 hrow2 p1 l1 l2 p2 htl hfr
    go_wp2
    exact bodyPost_ret (v:=vFactor id 3 fr tl 0 x y (1+wt)) (by simp [*,results,Tryz.results48,go_sem]) rfl ⟨3,fr,tl,0,x,y,1+wt,rfl,hvl.out,(by repeat (first | with_reducible exact HC7.out | ((with_reducible refine Cur.set_ ?_ ?_ _);rotate_left;(first | (simp;omega) | (simp) | omega)) | with_reducible refine Cur.alloc_ ?_ _)),(by repeat (first | with_reducible exact U7.out | ((with_reducible refine Upd.set_new ?_ ?_ _);rotate_left;(first | (simp;omega) | (simp) | omega)) | with_reducible refine Upd.alloc_ ?_ _))⟩
  · obtain ⟨o1,o2,o3,o4⟩:=pNames_ok to HTO.out
    go_wp2_with fail
    refine Calls.mono (l16Pose_c hy'.out hn HC4.out) ?_
    rintro e w5 ⟨fr,rfl,hfr,hc5,hu5⟩
    obtain ⟨p1,p2,p3,p4⟩:=pNames_ok fr hfr
    have a0:w5.cell? ⟨w4.heap.size,0,none⟩=some (.int .i64 id):=(uBox hu5 (w4.heap.size) (by simp) (by simp;omega) _).trans (cells_b rfl)
    have a1:w5.cell? ⟨w4.heap.size,1,none⟩=some (.int .i64 4):=(uBox hu5 (w4.heap.size) (by simp) (by simp;omega) _).trans (cells_b rfl)
    have a2:w5.cell? ⟨w4.heap.size,2,none⟩=some (.string ⟨#[]⟩):=(uBox hu5 (w4.heap.size) (by simp) (by simp;omega) _).trans (cells_b rfl)
    have a3:w5.cell? ⟨w4.heap.size,3,none⟩=some (.string to):=(uBox hu5 (w4.heap.size) (by simp) (by simp;omega) _).trans (cells_b rfl)
    have a4:w5.cell? ⟨w4.heap.size,4,none⟩=some (.int .i64 t):=(uBox hu5 (w4.heap.size) (by simp) (by simp;omega) _).trans (cells_b rfl)
    have a5:w5.cell? ⟨w4.heap.size,5,none⟩=some (.int .i64 x):=(uBox hu5 (w4.heap.size) (by simp) (by simp;omega) _).trans (cells_b rfl)
    have a6:w5.cell? ⟨w4.heap.size,6,none⟩=some (.int .i64 y):=(uBox hu5 (w4.heap.size) (by simp) (by simp;omega) _).trans (cells_b rfl)
    have a7:w5.cell? ⟨w4.heap.size,7,none⟩=some (.int .i64 (1+wt)):=(uBox hu5 (w4.heap.size) (by simp) (by simp;omega) _).trans (cells_b rfl)
    have af:∀ o,w5.frozen? ⟨w4.heap.size,o,none⟩=false:=fun o=>(uBoxF hu5 (w4.heap.size) (by simp) (by simp;omega) _).trans (frozen_a _ _ _ _)
    have az:w4.heap.size < w5.heap.size:=by have:=hu5.size;simp at this;omega
    have r0:w5.cell? ⟨w.heap.size,0,none⟩=some (.int .i64 0):=(uBox hu5 (w.heap.size) (by simp;omega) (by simp;omega) _).trans (bCell (bAlloc (Below.refl _ _) _) d0)
    have r1:w5.cell? ⟨w.heap.size,1,none⟩=some (.int .i64 0):=(uBox hu5 (w.heap.size) (by simp;omega) (by simp;omega) _).trans (bCell (bAlloc (Below.refl _ _) _) d1)
    have r2:w5.cell? ⟨w.heap.size,2,none⟩=some (.string ⟨#[]⟩):=(uBox hu5 (w.heap.size) (by simp;omega) (by simp;omega) _).trans (bCell (bAlloc (Below.refl _ _) _) d2)
    have r3:w5.cell? ⟨w.heap.size,3,none⟩=some (.string ⟨#[]⟩):=(uBox hu5 (w.heap.size) (by simp;omega) (by simp;omega) _).trans (bCell (bAlloc (Below.refl _ _) _) d3)
    have r4:w5.cell? ⟨w.heap.size,4,none⟩=some (.int .i64 0):=(uBox hu5 (w.heap.size) (by simp;omega) (by simp;omega) _).trans (bCell (bAlloc (Below.refl _ _) _) d4)
    have r5:w5.cell? ⟨w.heap.size,5,none⟩=some (.int .i64 0):=(uBox hu5 (w.heap.size) (by simp;omega) (by simp;omega) _).trans (bCell (bAlloc (Below.refl _ _) _) d5)
    have r6:w5.cell? ⟨w.heap.size,6,none⟩=some (.int .i64 0):=(uBox hu5 (w.heap.size) (by simp;omega) (by simp;omega) _).trans (bCell (bAlloc (Below.refl _ _) _) d6)
    have r7:w5.cell? ⟨w.heap.size,7,none⟩=some (.int .i64 0):=(uBox hu5 (w.heap.size) (by simp;omega) (by simp;omega) _).trans (bCell (bAlloc (Below.refl _ _) _) d7)
    have rf:∀ o,w5.frozen? ⟨w.heap.size,o,none⟩=false:=fun o=>(uBoxF hu5 (w.heap.size) (by simp;omega) (by simp;omega) _).trans (frozen_al z5 (g4 o))
    have rz:w.heap.size < w5.heap.size:=by have:=hu5.size;simp at this;omega
    have U5:=Lib.hid (U4.trans hu5)
    have HC5:=Lib.hid hc5
    clear d0 d1 d2 d3 d4 d5 d6 d7 g4 hc5 hu5 HC4 HCw UW z5
    cases heq:(fr.toList == to.toList)
    · have hvl:=Lib.hid (vld_two (id:=id) (k:=4) (by omega) HID.out (HP.out.vld (by omega)) hwt.out p1 o1 heq)
      clear p1 o1 p2 o2
      go_wp2
      exact bodyPost_ret (v:=vFactor id 4 fr to t x y (1+wt)) (by simp [*,results,Tryz.results48,go_sem]) rfl ⟨4,fr,to,t,x,y,1+wt,rfl,hvl.out,(by repeat (first | with_reducible exact HC5.out | ((with_reducible refine Cur.set_ ?_ ?_ _);rotate_left;(first | (simp;omega) | (simp) | omega)) | with_reducible refine Cur.alloc_ ?_ _)),(by repeat (first | with_reducible exact U5.out | ((with_reducible refine Upd.set_new ?_ ?_ _);rotate_left;(first | (simp;omega) | (simp) | omega)) | with_reducible refine Upd.alloc_ ?_ _))⟩
    · have o2':((⟨#[112,52]⟩:ByteArray).toList == to.toList)=false:=by
        rw [Bool.eq_false_iff] at o2 ⊢
        intro h;exact o2 (by rw [beq_iff_eq] at h ⊢;exact h.symm)
      have hvl:=Lib.hid (vld_two (id:=id) (k:=4) (by omega) HID.out (HP.out.vld (by omega)) hwt.out p4_ok o1 o2')
      clear p1 o1 p2 o2 o2'
      go_wp2
      exact bodyPost_ret (v:=vFactor id 4 ⟨#[112,52]⟩ to t x y (1+wt)) (by simp [*,results,Tryz.results48,go_sem]) rfl ⟨4,⟨#[112,52]⟩,to,t,x,y,1+wt,rfl,hvl.out,(by repeat (first | with_reducible exact HC5.out | ((with_reducible refine Cur.set_ ?_ ?_ _);rotate_left;(first | (simp;omega) | (simp) | omega)) | with_reducible refine Cur.alloc_ ?_ _)),(by repeat (first | with_reducible exact U5.out | ((with_reducible refine Upd.set_new ?_ ?_ _);rotate_left;(first | (simp;omega) | (simp) | omega)) | with_reducible refine Upd.alloc_ ?_ _))⟩
end Go.Proofs.YtdfemnffpaopfaaGreatDoor
