/- Texts of this proof, one behind the other: Take, NmOf. -/
import Derived.Test.YtdfemnffpaopfaaGreatDoorGct8
import Derived.Test.YtdfemnffpaopfaaGreatDoorGct12
namespace Go.Proofs.YtdfemnffpaopfaaGreatDoor
open Go.RowKit
set_option linter.unusedVariables false
set_option linter.unusedSimpArgs false
set_option maxHeartbeats 800000
set_option maxRecDepth 100000
theorem Own.made' (w:World) {B g:Nat} (e sz:Nat) (hB:B≤w.heap.size) (hg:g=w.heap.size):Own (w.alloc (.cells #[] e)) B e sz (some ⟨g,0,none⟩) 0 0 []:=by subst hg;exact Own.made0 w e sz hB
theorem one_S {l:List ByteArray}:∀ cs∈l.map strCells,cs.length=1:=fun cs h=>by obtain ⟨f,_,rfl⟩:=List.mem_map.1 h;rfl
theorem cell_S {l:List ByteArray}:∀ cs∈l.map strCells,∀ u∈cs,u.oneCell'=true:=fun cs h=>by obtain ⟨f,_,rfl⟩:=List.mem_map.1 h;exact one_of rfl
theorem one_K {l:List Packet}:∀ cs∈l.map Packet.cells,cs.length=4:=fun cs h=>by obtain ⟨f,_,rfl⟩:=List.mem_map.1 h;rfl
theorem cell_K {l:List Packet}:∀ cs∈l.map Packet.cells,∀ u∈cs,u.oneCell'=true:=fun cs h=>by obtain ⟨f,_,rfl⟩:=List.mem_map.1 h;exact one_of rfl
theorem gBoxF {w w':World} {row:Option Nat} (hg:w.grownBy w' row) (b:Nat) (hb:b < w.heap.size) (hne:∀ k,row=some k→k≠b):∀ o,w'.frozen? ⟨b,o,none⟩=w.frozen? ⟨b,o,none⟩ :=
  fun o=>World.frozen?_of_block (a:=⟨b,o,none⟩) (hg.block b hb (fun e=>hne b e.symm rfl))
theorem Upd.grown_new {fs:List Nat} {a b c:World} {g:Nat} (h:Upd fs a b) (k:b.grownBy c (ob (some ⟨g,0,none⟩))) (hg:a.heap.size≤g):Upd fs a c :=
  ⟨k.os.trans h.os,k.tape.trans h.tape,k.output.trans h.output,Nat.le_trans h.size k.size,fun i hi hn=>(k.block i (Nat.lt_of_lt_of_le hi h.size) (by simp [ob];omega)).trans (h.block i hi hn)⟩
theorem upd1 {a b:World} {g:Nat} (h:a.grownBy b (some g)):Upd [g] a b:=Upd.of_grown h fun k hk=>by simp only [Option.some.injEq] at hk;subst hk;simp
theorem chan_end2 {w w1 w2 w3 w4 X:World} (bx:List Nat) {B0 B1 B2 B3:Nat} {A0 A1 A2 A3:Option Addr} {n0 n1 n2 n3 c0 c1 c2 c3:Nat} {c:Chan} (H:Below w.heap.size w w1)
    (ho0:Own w1 B0 9 1 A0 n0 c0 (c.queue.map strCells)) (u1:Upd bx w1 w2) (ho1:Own w2 B1 9 1 A1 n1 c1 (c.inbox.map strCells)) (u2:Upd bx w2 w3)
    (ho2:Own w3 B2 164 4 A2 n2 c2 (c.net.map Packet.cells)) (u3:Upd bx w3 w4) (ho3:Own w4 B3 164 4 A3 n3 c3 (c.acks.map Packet.cells)) (u4:Upd bx w4 X)
    (hbx:∀ k∈bx,w.heap.size≤k∧k < B0) (s0:w.heap.size≤B0) (s00:B0≤w1.heap.size) (t1:B1≤w2.heap.size) (t2:B2≤w3.heap.size) (s1:w1.heap.size≤B1) (s2:w2.heap.size≤B2) (s3:w3.heap.size≤B3) :
    OwC X ⟨⟨A0,n0,c0⟩,⟨A1,n1,c1⟩,⟨A2,n2,c2⟩,⟨A3,n3,c3⟩⟩ c∧Fresh w.heap.size X (fpC ⟨⟨A0,n0,c0⟩,⟨A1,n1,c1⟩,⟨A2,n2,c2⟩,⟨A3,n3,c3⟩⟩)∧Below w.heap.size w X:=by
  have U4:=u4
  have U3:=u3.trans U4
  have U2:=u2.trans U3
  have U1:=u1.trans U2
  have y1:=u1.size;have y2:=u2.size;have y3:=u3.size;have y4:=u4.size
  refine ⟨⟨(ho0.upd U1 (Upd.apart ho0 fun k hk=>(hbx k hk).2)).zero,(ho1.upd U2 (Upd.apart ho1 fun k hk=>by have:=(hbx k hk).2;omega)).zero,(ho2.upd U3 (Upd.apart ho2 fun k hk=>by have:=(hbx k hk).2;omega)).zero,(ho3.upd U4 (Upd.apart ho3 fun k hk=>by have:=(hbx k hk).2;omega)).zero⟩,?_,bUpd H U1 (fun k hk=>(hbx k hk).1)⟩
  exact ((Fresh.obl_ ho0).rebase s0).then_ ((Fresh.obl_ ho1).then_ ((Fresh.obl_ ho2).then_ ((Fresh.obl_ ho3).grow y4) (by omega) (by omega) (by omega)) (by omega) (by omega) (by omega)) (by omega) (by omega) (by omega)
theorem copyStrings_k (v:Sv) (l:List ByteArray) (w:World) (hm:v.n≤4194304) (hr:RowS w v.A v.n l) :
    Calls Tryz.prog 131 #[.slice v.A v.n v.c] w fun e w'=>∃ A' c',e=.returned (.slice A' v.n c')∧Own w' w.heap.size 9 1 A' v.n c' (l.map strCells)∧Below w.heap.size w w':=by
  obtain ⟨i0,hii,hq0,hq1,hq2⟩:=info_parts info_String
  go_enter Tryz.func131,Tryz.ntmps131
  go_wp2_with (at_builtin;refine wpList_append rfl (.tmp 3) (.tmp 4) 81 rfl w.heap.size 9 1 16 i0 _ Tryz.underlying81 hii hq0 hq1 hq2 rfl (by omega) (some ⟨w.heap.size,0,none⟩) 0 0 [] rfl (Own.made0 w _ 1 (Nat.le_refl _)) v.A v.n v.c (l.map strCells) rfl (Row.below hr (bAlloc (Below.refl _ _) _)) one_S cell_S (by simp only [maxLen];omega) (by omega) (by simp) ?_;intro A3 c3 w3 ho3 hg3 hat3)
  have hB:=bGrown (bAlloc (Below.refl w.heap.size w) _) hg3 (fun q hq=>by simp [ob] at hq;omega)
  go_ret
  simp only [Nat.zero_add,List.nil_append] at ho3
  exact ⟨A3,c3,by simp,ho3,hB⟩
theorem copyChannel_k (v:CV) (c:Chan) (w:World) (hm:fewC c) (hr:RdC w v c) :
    Calls Tryz.prog 85 #[vChan v c.base c.expected] w fun e w'=>∃ v',e=.returned (vChan v' c.base c.expected)∧OwC w' v' c∧Fresh w.heap.size w' (fpC v')∧Below w.heap.size w w':=by
  obtain ⟨j0,hjj,hr0,hr1,hr2⟩:=info_parts info_Packet
  have m0:v.q.n≤4194304:=by have:=hr.q.len.out;unfold fewC at hm;omega
  have m1:v.i.n≤4194304:=by have:=hr.i.len.out;unfold fewC at hm;omega
  have m2:v.n.n≤4194304:=by have:=hr.n.len.out;unfold fewC at hm;omega
  have m3:v.a.n≤4194304:=by have:=hr.a.len.out;unfold fewC at hm;omega
  clear hm
  go_enter Tryz.func85,Tryz.ntmps85
  go_wp2_with fail
  refine Calls.mono (copyStrings_k v.q c.queue _ (by omega) ?_) ?_
  · exact hr.q.below (bAlloc (bAlloc (Below.refl _ _) _) _)
  rintro e w1 ⟨A0,c0,rfl,ho0,hb1⟩
  have H:=bTrans (bAlloc (bAlloc (Below.refl w.heap.size w) _) _) hb1
  have H1:=H
  have hz1:w.heap.size+2≤w1.heap.size:=bsz2 hb1
  have kb10:=bBox hb1 (w.heap.size) (by first | (simp;done) | (simp;omega))
  have fb10:=bBoxF hb1 (w.heap.size) (by first | (simp;done) | (simp;omega))
  have kb11:=bBox hb1 (w.heap.size+1) (by first | (simp;done) | (simp;omega))
  have fb11:=bBoxF hb1 (w.heap.size+1) (by first | (simp;done) | (simp;omega))
  go_wp2_with fail
  refine Calls.mono (copyStrings_k v.i c.inbox _ (by omega) ?_) ?_
  · exact hr.i.below (by repeat (first | exact H | refine bSet ?_ (by simp) _))
  rintro e w2 ⟨A1,c1,rfl,ho1,hb2⟩
  have u1:Upd [w.heap.size] w1 w2:=((Upd.refl _ _).set_in (by simp) _).then_below hb2
  have H:=bTrans (bSet H (by simp) _) hb2
  have hz2:w1.heap.size≤w2.heap.size:=by have:=hb2.size;simpa using this
  have kb20:=bBox hb2 (w.heap.size) (by simp;omega)
  have fb20:=bBoxF hb2 (w.heap.size) (by simp;omega)
  have kb21:=bBox hb2 (w.heap.size+1) (by simp;omega)
  have fb21:=bBoxF hb2 (w.heap.size+1) (by simp;omega)
  have hq2:w.heap.size < w2.heap.size:=by omega
  have hq2':w.heap.size+1 < w2.heap.size:=by omega
  have tok:True:=trivial
  go_wp2_with (at_builtin;first
    | (have _t:=tok;refine wpList_append rfl (.tmp 11) (.tmp 13) 82 rfl w2.heap.size 164 4 40 j0 _ Tryz.underlying82 hjj hr0 hr1 hr2 rfl (by omega) (some ⟨w2.heap.size,0,none⟩) 0 0 [] rfl (Own.made' _ _ 4 (by simp) (by simp)) v.n.A v.n.n v.n.c (c.net.map Packet.cells) rfl (hr.n.below (by repeat (first | exact H | refine bAlloc ?_ _ | refine bSet ?_ (by simp) _))) one_K cell_K (by simp only [maxLen];omega) (by omega) (by simp) ?_;clear tok _t;intro A2 c2 w3 ho2 hg3 hat3;have tok2:True:=trivial;have u2:Upd [w.heap.size] w2 w3:=Upd.grown_new (((Upd.refl _ _).set_in (by simp) _).alloc_ _) hg3 (Nat.le_refl _);have hz3:w2.heap.size+1≤w3.heap.size:=(by have:=hg3.size;simpa using this);have hq3:w.heap.size < w3.heap.size:=(by omega);have hq3':w.heap.size+1 < w3.heap.size:=(by omega);have H3:=bUpd H u2 (fun k hk=>by simp at hk;omega);have kb30:=gBox hg3 (w.heap.size) (by simp;omega) (fun k hk=>by simp [ob] at hk;omega);have fb30:=gBoxF hg3 (w.heap.size) (by simp;omega) (fun k hk=>by simp [ob] at hk;omega);have kb31:=gBox hg3 (w.heap.size+1) (by simp;omega) (fun k hk=>by simp [ob] at hk;omega);have fb31:=gBoxF hg3 (w.heap.size+1) (by simp;omega) (fun k hk=>by simp [ob] at hk;omega))
    | (have _t:=tok2;refine wpList_append rfl (.tmp 16) (.tmp 18) 82 rfl w3.heap.size 164 4 40 j0 _ Tryz.underlying82 hjj hr0 hr1 hr2 rfl (by omega) (some ⟨w3.heap.size,0,none⟩) 0 0 [] rfl (Own.made' _ _ 4 (by simp) (by simp)) v.a.A v.a.n v.a.c (c.acks.map Packet.cells) rfl (hr.a.below (by repeat (first | exact H3 | refine bAlloc ?_ _ | refine bSet ?_ (by simp) _))) one_K cell_K (by simp only [maxLen];omega) (by omega) (by simp) ?_;clear tok2 _t;intro A3 c3 w4 ho3 hg4 hat4;have u3:Upd [w.heap.size] w3 w4:=Upd.grown_new (((Upd.refl _ _).set_in (by simp) _).alloc_ _) hg4 (Nat.le_refl _);have hz4:w3.heap.size+1≤w4.heap.size:=(by have:=hg4.size;simpa using this);have kb40:=gBox hg4 (w.heap.size) (by simp;omega) (fun k hk=>by simp [ob] at hk;omega);have fb40:=gBoxF hg4 (w.heap.size) (by simp;omega) (fun k hk=>by simp [ob] at hk;omega);have kb41:=gBox hg4 (w.heap.size+1) (by simp;omega) (fun k hk=>by simp [ob] at hk;omega);have fb41:=gBoxF hg4 (w.heap.size+1) (by simp;omega) (fun k hk=>by simp [ob] at hk;omega)))
  simp only [Nat.zero_add,List.nil_append] at ho2 ho3
  refine bodyPost_ret (v:=vChan ⟨⟨A0,v.q.n,c0⟩,⟨A1,v.i.n,c1⟩,⟨A2,v.n.n,c2⟩,⟨A3,v.a.n,c3⟩⟩ c.base c.expected) (by simp [*,results,Tryz.results85,go_sem]) rfl ⟨_,rfl,?_⟩
  exact chan_end2 [w.heap.size,w.heap.size+1] H1 ho0 (u1.mono (by simp)) ho1 (u2.mono (by simp)) ho2 (u3.mono (by simp)) ho3 (by repeat (first | with_reducible exact Upd.refl _ _ | (with_reducible refine Upd.set_in ?_ ?_ _);rotate_left;simp)) (by simp;omega) (by simp;omega) (by have:=hb1.size;simpa using this) (by have:=hb2.size;simpa using this) (by omega) (by simp) (Nat.le_refl _) (Nat.le_refl _)
theorem Own.box {w:World} {b t sz:Nat} {cs:List Value} (h:w.heap[b]? = some (.cells cs.toArray t (0,0))) (hl:cs.length=sz):Own w 0 t sz (some ⟨b,0,none⟩) 1 1 [cs] :=
  ⟨⟨by simp [hl],.inr ⟨b,1,cs.toArray,rfl,Nat.zero_le _,h,Nat.le_refl _,by simp [maxLen],by simp [hl],by rw [List.take_of_length_le (by simp [hl])];simp⟩⟩,rfl,by simp [hl]⟩
theorem Own.bcell {w:World} {b t sz:Nat} {cs:List Value} (h:Own w 0 t sz (some ⟨b,0,none⟩) 1 1 [cs]):∀ (j:Nat) (u:Value),cs[j]? = some u→w.cell? ⟨b,j,none⟩=some u:=by
  intro j u hu
  obtain ⟨g',off',hA,hc⟩:=h.row.2 0 cs rfl
  simp only [Option.some.injEq,Addr.mk.injEq,and_true] at hA
  obtain ⟨rfl,rfl⟩:=hA
  simpa using hc j u hu
theorem box1 (w:World) (o:Obj):(w.alloc o).heap[w.heap.size]? = some o:=heap_alloc_new w o
theorem box2 (w:World) (o o2:Obj):((w.alloc o).alloc o2).heap[w.heap.size]? = some o:=((bAlloc (Below.refl _ _) o2).block w.heap.size (by simp)).trans (box1 w o)
theorem sz_Chan:(Tryz.prog.info? 84).map (·.size)=some 6:=by kernel_rfl
def nilSv:Sv:=⟨none,0,0⟩
def takeC (c:Chan):Chan:={ c with inbox:=[] }
def TakePost (w:World) (c:Chan) (e:Ending) (w':World):Prop :=
  ∃ (v':CV) (vs:Sv),e=.returned (.tuple #[vChan v' (takeC c).base (takeC c).expected,.slice vs.A vs.n vs.c])∧OwC w' v' (takeC c)∧Fresh w.heap.size w' (fpC v')∧OwS w' vs c.inbox∧Fresh w.heap.size w' (fpS vs)∧(∀ q∈fpC v',q ∉ fpS vs)∧Below w.heap.size w w'
theorem take_end {w w1 X:World} {v:CV} {c:Chan} (bx:List Nat) (H:Below w.heap.size w w1) (ho:OwC w1 v c) {B:Nat} (hf:Fresh B w1 (fpC v)) (hB:w.heap.size≤B) (u:Upd bx w1 X) (hbx:∀ k∈bx,w.heap.size≤k∧(k < B∨w1.heap.size≤k)) :
    OwC X { v with i:=nilSv } (takeC c)∧Fresh w.heap.size X (fpC { v with i:=nilSv })∧OwS X v.i c.inbox∧Fresh w.heap.size X (fpS v.i)∧(∀ q∈fpC { v with i:=nilSv },q ∉ fpS v.i)∧Below w.heap.size w X:=by
  have ho2:=ho.upd u (fun k hk hm=>by have:=hbx k hm;have:=hf.lo k hk;have:=hf.hi k hk;omega)
  have hf2:=(hf.rebase hB).grow u.size
  have e0:obl nilSv.A=[]:=rfl
  obtain ⟨n,lo,hi⟩:=hf2
  simp only [fpC,List.nodup_append,List.mem_append] at n lo hi
  obtain ⟨n0,⟨n1,⟨n2,n3,d2⟩,d1⟩,d0⟩:=n
  refine ⟨⟨ho2.q,Own.nil_ _ _ _ _,ho2.n,ho2.a⟩,⟨?_,?_,?_⟩,ho2.i,⟨n1,fun g hg=>lo g (.inr (.inl hg)),fun g hg=>hi g (.inr (.inl hg))⟩,?_,bUpd H u (fun k hk=>(hbx k hk).1)⟩
  · simp only [fpC,e0,List.nil_append,List.nodup_append,List.mem_append]
    exact ⟨n0,⟨n2,n3,d2⟩,fun a ha b hb=>d0 a ha b (.inr hb)⟩
  · intro g hg
    simp only [fpC,e0,List.nil_append,List.mem_append] at hg
    rcases hg with hg | hg | hg
    · exact lo g (.inl hg)
    · exact lo g (.inr (.inr (.inl hg)))
    · exact lo g (.inr (.inr (.inr hg)))
  · intro g hg
    simp only [fpC,e0,List.nil_append,List.mem_append] at hg
    rcases hg with hg | hg | hg
    · exact hi g (.inl hg)
    · exact hi g (.inr (.inr (.inl hg)))
    · exact hi g (.inr (.inr (.inr hg)))
  · intro g hg hm
    simp only [fpC,e0,List.nil_append,List.mem_append] at hg
    simp only [fpS] at hm
    rcases hg with hg | hg | hg
    · exact d0 g hg g (.inl hm) rfl
    · exact d1 g hm g (.inl hg) rfl
    · exact d1 g hm g (.inr hg) rfl
def NmOfInv (l:List Factor) (k:Nat) (L:List ByteArray):Prop:=namesOf l=(l.drop k).foldl namesF L
theorem NmOfInv.start (l:List Factor):NmOfInv l 0 []:=rfl
theorem NmOfInv.step {l:List Factor} {k:Nat} {L:List ByteArray} {f:Factor} (h:NmOfInv l k L) (hf:Hid (l[k]? = some f)):NmOfInv l (k+1) (namesF L f):=by
  unfold NmOfInv at *;rw [h,drop_at hf];rfl
theorem NmOfInv.done {l:List Factor} {k n:Nat} {L:List ByteArray} (h:NmOfInv l k L) (hl:Hid (l.length=n)) (hk:¬ k < n):Hid (namesOf l=L):=by
  unfold NmOfInv at h;rw [Hid,h,drop_end hl hk];rfl
theorem addNm_empty {L:List ByteArray} {s:ByteArray} (h:Hid (s.toList.isEmpty=true)):addNm L s=L:=by simp [addNm,h.out]
theorem addNm_has {L:List ByteArray} {s:ByteArray} (h:Hid (hasStr L s=true)):addNm L s=L:=by simp [addNm,h.out]
theorem addNm_new {L:List ByteArray} {s:ByteArray} (h:Hid (s.toList.isEmpty=false)) (h2:Hid (hasStr L s=false)):addNm L s=L++[s]:=by simp [addNm,h.out,h2.out]
theorem strs_snoc (L:List ByteArray) (s:ByteArray):L.map strCells++[strCells s]=(L++[s]).map strCells:=by simp
def StrsPost (w:World) (e:Ending) (w':World) (L:List ByteArray) (t:TypeId) (m:Nat):Prop:=∃ v:Sv,e=.returned (.slice v.A v.n v.c)∧Own w' w.heap.size t 1 v.A v.n v.c (L.map strCells)∧Below w.heap.size w w'∧v.n≤m
theorem impl_NamesOf_c (A:Option Addr) (n c:Nat) (l:List Factor) (w:World) (hn:n≤100000) (hr:RowF w A n l) :
    Calls Tryz.prog 101 #[.slice A n c] w fun e w'=>StrsPost w e w' (namesOf l) 9 (2 * n):=by
  obtain ⟨i0,hii,hq0,hq1,hq2⟩:=info_parts info_String
  go_enter Tryz.func101,Tryz.ntmps101
  go_wp2
  go_loopw [9,3] (fun i v wr=>∃ (k:Nat) (A':Option Addr) (n' c':Nat) (L:List ByteArray),k≤n∧n'≤2 * k∧i=.int .i64 k∧v=.slice A' n' c'∧Own wr w.heap.size 9 1 A' n' c' (L.map strCells)∧NmOfInv l k L∧Below w.heap.size w wr) (fun i _ _=>n - (intOf i).toNat)
  case atStart=>exact ⟨0,_,0,0,[],by omega,by omega,rfl,rfl,Own.made0 w 9 1 (Nat.le_refl _),NmOfInv.start l,bAlloc (Below.refl _ _) _⟩
  case round =>
    obtain ⟨k,A',n',c',L,hk,hnk,rfl,rfl,hown,hi,hb⟩:=hrel
    by_cases hlt:k < n
    · obtain ⟨f,g,off,hf,rfl,g0,g1,g2,g3,g4,g5,g6,g7⟩:=RowF.at_ (hr.below hb) hlt
      have hst:=Lib.hid (hi.step hf)
      clear hi
      generalize hfe:f.frm.toList.isEmpty=fe
      generalize hte:f.to.toList.isEmpty=te
      have HF:=Lib.hid hfe
      have HT:=Lib.hid hte
      clear hfe hte
      cases fe
      · have hx0:¬ f.frm.toList=[]:=by have:=HF.out;simpa using this
        have hy0:(!f.frm.toList.isEmpty)=true:=by rw [HF.out];rfl
        have hz0:f.frm.toList.isEmpty=false:=HF.out
        generalize hh0:hasStr L f.frm=b0
        have HS0:=Lib.hid hh0
        clear hh0
        cases b0
        · have e0:=addNm_new HF HS0
          cases te
          · have hx1:¬ f.to.toList=[]:=by have:=HT.out;simpa using this
            have hy1:(!f.to.toList.isEmpty)=true:=by rw [HT.out];rfl
            have hz1:f.to.toList.isEmpty=false:=HT.out
            generalize hh1:hasStr (L++[f.frm]) f.to=b1
            have HS1:=Lib.hid hh1
            clear hh1
            cases b1
            · have e1:=addNm_new HT HS1
              go_wp2_with fail
              refine Calls.mono (hasString_c _ _ _ L f.frm _ (by omega) (hown.alloc_ _).row) ?_
              rintro e wx ⟨rfl,rfl⟩
              rw [HS0.out]
              go_wp2_with (at_builtin;refine wpList_append rfl (.tmp 23) (.tmp 26) 81 rfl w.heap.size 9 1 16 i0 _ Tryz.underlying81 hii hq0 hq1 hq2 rfl (by omega) A' n' c' _ rfl ((hown.alloc_ _).alloc_ _) _ 1 1 [strCells f.frm] rfl (Row.new1' _ _ _ 1 _ (by simp)) (by simp [strCells]) (by simp [strCells,Value.oneCell']) (by simp only [maxLen];omega) (by omega) (bAlloc (bAlloc hb _) _).size ?_;intro A3 c3 w3 ho0 hg0 hat0;have hbx:=gBox hg0 wr.heap.size (by simp;try omega) (fun q hq=>by have h1:=(hown.lt q hq).2;omega);have hlw:wr.heap.size < w3.heap.size:=(by have:=hg0.size;simp at this;omega))
              have hB0:=bGrown (bAlloc (bAlloc hb _) _) hg0 (fun q hq=>(hown.lt q hq).1)
              rw [strs_snoc] at ho0
              refine Calls.mono (hasString_c _ _ _ (L++[f.frm]) f.to _ (by omega) ho0.row) ?_
              rintro e wx ⟨rfl,rfl⟩
              rw [HS1.out]
              go_wp2_with (at_builtin;refine wpList_append rfl (.tmp 38) (.tmp 41) 81 rfl w.heap.size 9 1 16 i0 _ Tryz.underlying81 hii hq0 hq1 hq2 rfl (by omega) A3 (n'+1) c3 _ rfl (ho0.alloc_ _) _ 1 1 [strCells f.to] rfl (Row.new1' _ _ _ 1 _ (by simp)) (by simp [strCells]) (by simp [strCells,Value.oneCell']) (by simp only [maxLen];omega) (by omega) (bAlloc hB0 _).size ?_;intro A4 c4 w4 ho1 hg1 hat1)
              have hB1:=bGrown (bAlloc hB0 _) hg1 (fun q hq=>(ho0.lt q hq).1)
              rw [strs_snoc] at ho1
              go_roundw
              case rel=>exact ⟨k+1,_,n'+1+1,_,((L++[f.frm])++[f.to]),by omega,by omega,by go_num,rfl,ho1,by rw [namesF,e0,e1] at hst;exact hst.out,hB1⟩
              case measure=>simp [intOf];omega
            · have e1:=addNm_has HS1
              go_wp2_with fail
              refine Calls.mono (hasString_c _ _ _ L f.frm _ (by omega) (hown.alloc_ _).row) ?_
              rintro e wx ⟨rfl,rfl⟩
              rw [HS0.out]
              go_wp2_with (at_builtin;refine wpList_append rfl (.tmp 23) (.tmp 26) 81 rfl w.heap.size 9 1 16 i0 _ Tryz.underlying81 hii hq0 hq1 hq2 rfl (by omega) A' n' c' _ rfl ((hown.alloc_ _).alloc_ _) _ 1 1 [strCells f.frm] rfl (Row.new1' _ _ _ 1 _ (by simp)) (by simp [strCells]) (by simp [strCells,Value.oneCell']) (by simp only [maxLen];omega) (by omega) (bAlloc (bAlloc hb _) _).size ?_;intro A3 c3 w3 ho0 hg0 hat0;have hbx:=gBox hg0 wr.heap.size (by simp;try omega) (fun q hq=>by have h1:=(hown.lt q hq).2;omega);have hlw:wr.heap.size < w3.heap.size:=(by have:=hg0.size;simp at this;omega))
              have hB0:=bGrown (bAlloc (bAlloc hb _) _) hg0 (fun q hq=>(hown.lt q hq).1)
              rw [strs_snoc] at ho0
              refine Calls.mono (hasString_c _ _ _ (L++[f.frm]) f.to _ (by omega) ho0.row) ?_
              rintro e wx ⟨rfl,rfl⟩
              rw [HS1.out]
              go_wp2_with fail
              go_roundw
              case rel=>exact ⟨k+1,_,n'+1,_,(L++[f.frm]),by omega,by omega,by go_num,rfl,ho0,by rw [namesF,e0,e1] at hst;exact hst.out,hB0⟩
              case measure=>simp [intOf];omega
          · have hx1:f.to.toList=[]:=by have:=HT.out;simpa using this
            have hy1:(!f.to.toList.isEmpty)=false:=by rw [HT.out];rfl
            have hz1:f.to.toList.isEmpty=true:=HT.out
            have e1:addNm (L++[f.frm]) f.to=(L++[f.frm]):=addNm_empty HT
            go_wp2_with fail
            refine Calls.mono (hasString_c _ _ _ L f.frm _ (by omega) (hown.alloc_ _).row) ?_
            rintro e wx ⟨rfl,rfl⟩
            rw [HS0.out]
            go_wp2_with (at_builtin;refine wpList_append rfl (.tmp 23) (.tmp 26) 81 rfl w.heap.size 9 1 16 i0 _ Tryz.underlying81 hii hq0 hq1 hq2 rfl (by omega) A' n' c' _ rfl ((hown.alloc_ _).alloc_ _) _ 1 1 [strCells f.frm] rfl (Row.new1' _ _ _ 1 _ (by simp)) (by simp [strCells]) (by simp [strCells,Value.oneCell']) (by simp only [maxLen];omega) (by omega) (bAlloc (bAlloc hb _) _).size ?_;intro A3 c3 w3 ho0 hg0 hat0;have hbx:=gBox hg0 wr.heap.size (by simp;try omega) (fun q hq=>by have h1:=(hown.lt q hq).2;omega);have hlw:wr.heap.size < w3.heap.size:=(by have:=hg0.size;simp at this;omega))
            have hB0:=bGrown (bAlloc (bAlloc hb _) _) hg0 (fun q hq=>(hown.lt q hq).1)
            rw [strs_snoc] at ho0
            go_roundw
            case rel=>exact ⟨k+1,_,n'+1,_,(L++[f.frm]),by omega,by omega,by go_num,rfl,ho0,by rw [namesF,e0,e1] at hst;exact hst.out,hB0⟩
            case measure=>simp [intOf];omega
        · have e0:=addNm_has HS0
          cases te
          · have hx1:¬ f.to.toList=[]:=by have:=HT.out;simpa using this
            have hy1:(!f.to.toList.isEmpty)=true:=by rw [HT.out];rfl
            have hz1:f.to.toList.isEmpty=false:=HT.out
            generalize hh1:hasStr L f.to=b1
            have HS1:=Lib.hid hh1
            clear hh1
            cases b1
            · have e1:=addNm_new HT HS1
              go_wp2_with fail
              refine Calls.mono (hasString_c _ _ _ L f.frm _ (by omega) (hown.alloc_ _).row) ?_
              rintro e wx ⟨rfl,rfl⟩
              rw [HS0.out]
              go_wp2_with fail
              refine Calls.mono (hasString_c _ _ _ L f.to _ (by omega) (hown.alloc_ _).row) ?_
              rintro e wx ⟨rfl,rfl⟩
              rw [HS1.out]
              go_wp2_with (at_builtin;refine wpList_append rfl (.tmp 38) (.tmp 41) 81 rfl w.heap.size 9 1 16 i0 _ Tryz.underlying81 hii hq0 hq1 hq2 rfl (by omega) A' n' c' _ rfl ((hown.alloc_ _).alloc_ _) _ 1 1 [strCells f.to] rfl (Row.new1' _ _ _ 1 _ (by simp)) (by simp [strCells]) (by simp [strCells,Value.oneCell']) (by simp only [maxLen];omega) (by omega) (bAlloc (bAlloc hb _) _).size ?_;intro A4 c4 w4 ho1 hg1 hat1)
              have hB1:=bGrown (bAlloc (bAlloc hb _) _) hg1 (fun q hq=>(hown.lt q hq).1)
              rw [strs_snoc] at ho1
              go_roundw
              case rel=>exact ⟨k+1,_,n'+1,_,(L++[f.to]),by omega,by omega,by go_num,rfl,ho1,by rw [namesF,e0,e1] at hst;exact hst.out,hB1⟩
              case measure=>simp [intOf];omega
            · have e1:=addNm_has HS1
              go_wp2_with fail
              refine Calls.mono (hasString_c _ _ _ L f.frm _ (by omega) (hown.alloc_ _).row) ?_
              rintro e wx ⟨rfl,rfl⟩
              rw [HS0.out]
              go_wp2_with fail
              refine Calls.mono (hasString_c _ _ _ L f.to _ (by omega) (hown.alloc_ _).row) ?_
              rintro e wx ⟨rfl,rfl⟩
              rw [HS1.out]
              go_wp2_with fail
              go_roundw
              case rel=>exact ⟨k+1,_,n',_,L,by omega,by omega,by go_num,rfl,(hown.alloc_ _),by rw [namesF,e0,e1] at hst;exact hst.out,(bAlloc hb _)⟩
              case measure=>simp [intOf];omega
          · have hx1:f.to.toList=[]:=by have:=HT.out;simpa using this
            have hy1:(!f.to.toList.isEmpty)=false:=by rw [HT.out];rfl
            have hz1:f.to.toList.isEmpty=true:=HT.out
            have e1:addNm L f.to=L:=addNm_empty HT
            go_wp2_with fail
            refine Calls.mono (hasString_c _ _ _ L f.frm _ (by omega) (hown.alloc_ _).row) ?_
            rintro e wx ⟨rfl,rfl⟩
            rw [HS0.out]
            go_wp2_with fail
            go_roundw
            case rel=>exact ⟨k+1,_,n',_,L,by omega,by omega,by go_num,rfl,(hown.alloc_ _),by rw [namesF,e0,e1] at hst;exact hst.out,(bAlloc hb _)⟩
            case measure=>simp [intOf];omega
      · have hx0:f.frm.toList=[]:=by have:=HF.out;simpa using this
        have hy0:(!f.frm.toList.isEmpty)=false:=by rw [HF.out];rfl
        have hz0:f.frm.toList.isEmpty=true:=HF.out
        have e0:addNm L f.frm=L:=addNm_empty HF
        cases te
        · have hx1:¬ f.to.toList=[]:=by have:=HT.out;simpa using this
          have hy1:(!f.to.toList.isEmpty)=true:=by rw [HT.out];rfl
          have hz1:f.to.toList.isEmpty=false:=HT.out
          generalize hh1:hasStr L f.to=b1
          have HS1:=Lib.hid hh1
          clear hh1
          cases b1
          · have e1:=addNm_new HT HS1
            go_wp2_with fail
            refine Calls.mono (hasString_c _ _ _ L f.to _ (by omega) (hown.alloc_ _).row) ?_
            rintro e wx ⟨rfl,rfl⟩
            rw [HS1.out]
            go_wp2_with (at_builtin;refine wpList_append rfl (.tmp 38) (.tmp 41) 81 rfl w.heap.size 9 1 16 i0 _ Tryz.underlying81 hii hq0 hq1 hq2 rfl (by omega) A' n' c' _ rfl ((hown.alloc_ _).alloc_ _) _ 1 1 [strCells f.to] rfl (Row.new1' _ _ _ 1 _ (by simp)) (by simp [strCells]) (by simp [strCells,Value.oneCell']) (by simp only [maxLen];omega) (by omega) (bAlloc (bAlloc hb _) _).size ?_;intro A4 c4 w4 ho1 hg1 hat1)
            have hB1:=bGrown (bAlloc (bAlloc hb _) _) hg1 (fun q hq=>(hown.lt q hq).1)
            rw [strs_snoc] at ho1
            go_roundw
            case rel=>exact ⟨k+1,_,n'+1,_,(L++[f.to]),by omega,by omega,by go_num,rfl,ho1,by rw [namesF,e0,e1] at hst;exact hst.out,hB1⟩
            case measure=>simp [intOf];omega
          · have e1:=addNm_has HS1
            go_wp2_with fail
            refine Calls.mono (hasString_c _ _ _ L f.to _ (by omega) (hown.alloc_ _).row) ?_
            rintro e wx ⟨rfl,rfl⟩
            rw [HS1.out]
            go_wp2_with fail
            go_roundw
            case rel=>exact ⟨k+1,_,n',_,L,by omega,by omega,by go_num,rfl,(hown.alloc_ _),by rw [namesF,e0,e1] at hst;exact hst.out,(bAlloc hb _)⟩
            case measure=>simp [intOf];omega
        · have hx1:f.to.toList=[]:=by have:=HT.out;simpa using this
          have hy1:(!f.to.toList.isEmpty)=false:=by rw [HT.out];rfl
          have hz1:f.to.toList.isEmpty=true:=HT.out
          have e1:addNm L f.to=L:=addNm_empty HT
          go_wp2_with fail
          go_roundw
          case rel=>exact ⟨k+1,_,n',_,L,by omega,by omega,by go_num,rfl,(hown.alloc_ _),by rw [namesF,e0,e1] at hst;exact hst.out,(bAlloc hb _)⟩
          case measure=>simp [intOf];omega
    · have hfin:=hi.done hr.len hlt
      go_wp2
      go_ret
      refine ⟨⟨A',n',c'⟩,rfl,?_,hb,by simp only;omega⟩
      rw [hfin.out];exact hown
end Go.Proofs.YtdfemnffpaopfaaGreatDoor
