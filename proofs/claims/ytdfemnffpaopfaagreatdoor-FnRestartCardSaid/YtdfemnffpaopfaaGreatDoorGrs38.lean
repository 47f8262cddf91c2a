/- Texts of this proof, one behind the other: ChnS, ChnO, ChnKP, ChnT, ChnI0. -/
import Derived.Test.YtdfemnffpaopfaaGreatDoorGrs8
import Derived.Test.YtdfemnffpaopfaaGreatDoorGrs37
namespace Go.Proofs.YtdfemnffpaopfaaGreatDoor
open Go.RowKit
set_option linter.unusedVariables false
set_option linter.unusedSimpArgs false
set_option maxHeartbeats 4000000
set_option maxRecDepth 100000
theorem sendL_snoc:∀ (l:List ByteArray) (s:ByteArray) (n:Int) (net:List Packet),sendL (l++[s]) n net=putK (sendL l n net) (newPkt false (n+l.length) s)
  | [],s,n,net=>by simp [sendL]
  | x :: l,s,n,net=>by
    simp only [List.cons_append,sendL,List.length_cons]
    rw [sendL_snoc l s]
    congr 2
    push_cast;omega
def sentK (c:Chan) (i:Nat):List Packet:=sendL (c.queue.take (min i 3)) c.base c.net
theorem sentK_zero (c:Chan):sentK c 0=c.net:=by simp [sentK,sendL]
theorem sentK_next (c:Chan) {i:Nat} {s:ByteArray} (h:i < 3) (hs:c.queue[i]? = some s):sentK c (i+1)=putK (sentK c i) (newPkt false (c.base+i) s):=by
  unfold sentK
  have e1:min (i+1) 3=i+1:=by omega
  have e2:min i 3=i:=by omega
  obtain ⟨hi,rfl⟩:=List.getElem?_eq_some_iff.1 hs
  rw [e1,e2,List.take_succ_eq_append_getElem hi,sendL_snoc]
  congr 2
  simp only [List.length_take];omega
theorem sentK_end (c:Chan) {i:Nat} (h:c.queue.length≤i∨3≤i):sentK c i=sendL (c.queue.take 3) c.base c.net:=by
  unfold sentK;congr 1
  by_cases h3:3≤i
  · rw [show min i 3=3 by omega]
  · have hl:c.queue.length≤i:=by omega
    rw [List.take_of_length_le (by omega),List.take_of_length_le (by omega)]
theorem sendL_len:∀ (l:List ByteArray) (n:Int) (net:List Packet),net.length≤12→(sendL l n net).length≤12
  | [],n,net,h=>h
  | s :: l,n,net,h=>sendL_len l (n+1) _ (putK_len h)
theorem sentK_len (c:Chan) (i:Nat) (h:c.net.length≤12):(sentK c i).length≤12:=sendL_len _ _ _ h
def okPk (p:Packet):Prop:=p.text.size≤4194304∧-9223372036854775808≤p.number∧p.number≤9223372036854775807
theorem OKC.netp {m:Int} {c:Chan} (h:OKC m c):∀ p∈c.net,okPk p:=h.net
theorem OKC.ackp {m:Int} {c:Chan} (h:OKC m c):∀ p∈c.acks,okPk p:=h.acks
theorem OKC.up {m m':Int} {c:Chan} (h:OKC m c) (h1:m≤m') (h2:m'≤1000000):OKC m' c :=
  ⟨Int.le_trans h.m0 h1,h2,h.q,h.net,h.acks,h.lq,by have:=h.li;omega,h.ln,h.la,h.b0,h.b1,h.e0,by have:=h.e1;omega⟩
theorem OKC.withNet {m:Int} {c:Chan} (h:OKC m c) {l:List Packet} (hl:∀ p∈l,okPk p) (h12:l.length≤12):OKC m { c with net:=l } :=
  ⟨h.m0,h.m1,h.q,hl,h.acks,h.lq,h.li,h12,h.la,h.b0,h.b1,h.e0,h.e1⟩
theorem OKC.withAcks {m:Int} {c:Chan} (h:OKC m c) {l:List Packet} (hl:∀ p∈l,okPk p) (h12:l.length≤12):OKC m { c with acks:=l } :=
  ⟨h.m0,h.m1,h.q,h.net,hl,h.lq,h.li,h.ln,h12,h.b0,h.b1,h.e0,h.e1⟩
theorem sendL_okP:∀ (q:List ByteArray) (n:Int) (net:List Packet),(∀ s∈q,s.size≤4194304)→0≤n→n+q.length≤2000000→(∀ p∈net,okPk p)→∀ p∈sendL q n net,okPk p
  | [],n,net,_,_,_,h=>h
  | s :: q,n,net,hq,h0,h1,h=>by
    simp only [List.length_cons] at h1
    exact sendL_okP q (n+1) _ (fun t ht=>hq t (by simp [ht])) (by omega) (by push_cast at h1;omega) (putK_all h ⟨hq s (by simp),by show _≤n;omega,by show n≤_;push_cast at h1;omega⟩)
theorem OKC.send {m:Int} {c:Chan} (h:OKC m c):OKC m (sendC c):=by
  have h1:=h.b0;have h2:=h.b1;have h3:=h.lq
  refine h.withNet (sendL_okP _ _ _ (fun s hs=>h.q s (List.mem_of_mem_take hs)) h1 (by have h9:(c.queue.take 3).length≤c.queue.length:=List.length_take_le' _ _;omega) h.netp) (sendL_len _ _ _ h.ln)
theorem OKC.dlv {m:Int} {c:Chan} (h:OKC m c) (hm:m < 1000000) {p:Packet} (hp:okPk p):OKC (m+1) (dlv c p):=by
  have hu:=h.up (m':=m+1) (by omega) (by omega)
  have h1:=h.e0;have h2:=h.e1;have h3:=h.li
  have hnil:(⟨#[]⟩:ByteArray).size≤4194304:=by decide
  unfold Go.Proofs.YtdfemnffpaopfaaGreatDoor.dlv
  split
  · split
    · refine ⟨hu.m0,hu.m1,h.q,h.net,putK_all h.ackp ⟨hnil,by show _≤c.expected+1;omega,by show c.expected+1≤_;omega⟩,h.lq,?_,h.ln,putK_len h.la,h.b0,h.b1,by show 0≤c.expected+1;omega,by show c.expected+1≤_;omega⟩
      show ((c.inbox++[p.text]).length:Int)≤_
      simp;omega
    · exact hu.withAcks (putK_all h.ackp ⟨hnil,by show _≤c.expected;omega,by show c.expected≤_;omega⟩) (putK_len h.la)
  · exact hu
theorem OKC.ackd {m:Int} {c:Chan} (h:OKC m c) (p:Packet):OKC m (ackd c p):=by
  have h1:=h.b0;have h2:=h.b1;have h3:=h.lq
  unfold Go.Proofs.YtdfemnffpaopfaaGreatDoor.ackd
  split
  · rename_i hc
    obtain ⟨_,_,c1,c2⟩:=hc
    exact ⟨h.m0,h.m1,fun s hs=>h.q s (List.mem_of_mem_drop hs),h.net,h.acks,by show (c.queue.drop _).length≤8;simp;omega,h.li,h.ln,h.la,by show 0≤p.number;omega,by show p.number+((c.queue.drop _).length:Int)≤_;simp;omega,h.e0,h.e1⟩
  · exact h
theorem OKC.net1 {m:Int} {c:Chan} (h:OKC m c) (hm:m < 1000000) (mv:Int) (k:Nat):OKC (m+1) (netC c mv k):=by
  have hu:=h.up (m':=m+1) (by omega) (by omega)
  unfold netC
  split
  · exact hu
  · rename_i p hp
    have hpm:=h.netp p (List.mem_of_getElem? hp)
    split
    · exact hu.withNet (putK_all h.netp hpm) (putK_len h.ln)
    split
    · rw [spoilK_eq hp]
      refine hu.withNet (fun x hx=>?_) (by simpa using h.ln)
      rcases List.mem_or_eq_of_mem_set hx with hx | rfl
      · exact h.netp x hx
      · exact hpm
    split
    · exact hu.withNet (dropK_all h.netp) (dropK_len h.ln)
    · exact (h.withNet (dropK_all h.netp) (dropK_len h.ln)).dlv hm hpm
theorem OKC.ack1 {m:Int} {c:Chan} (h:OKC m c) (mv:Int) (k:Nat):OKC m (ackC c mv k):=by
  unfold ackC
  split
  · exact h
  · split
    · exact (h.withAcks (dropK_all h.ackp) (dropK_len h.la)).ackd _
    · exact h.withAcks (dropK_all h.ackp) (dropK_len h.la)
theorem OKC.move {m:Int} {c:Chan} (h:OKC m c) (hm:m < 1000000) (mv at_:Int):OKC (m+1) (moveC c mv at_):=by
  have hu:=h.up (m':=m+1) (by omega) (by omega)
  unfold moveC
  split
  · exact hu.send
  split
  · split
    · exact hu
    · exact h.net1 hm mv _
  split
  · split
    · exact hu
    · exact hu.ack1 mv _
  · exact hu
theorem wf_range {n:Int} (h:wfI n):-9223372036854775808≤n∧n≤9223372036854775807:=by
  simp [wfI,Lit.wf,IntKind.min,IntKind.max,IntKind.signed,IntKind.bits] at h
  omega
theorem OKC.start {c:Chan} (h:isChan c=true) (hm:bulkC c≤4194304) (hok:okC c):OKC 0 c:=by
  unfold Go.Proofs.YtdfemnffpaopfaaGreatDoor.isChan at h
  simp only [Bool.and_eq_true,decide_eq_true_eq,List.all_eq_true] at h
  obtain ⟨h1,h2,h3,h4,h5,h6⟩:=h
  have b:=inR_iff.1 h3;have e:=inR_iff.1 h4
  unfold bulkC at hm
  obtain ⟨o0,o1,o2,o3,_,_⟩:=hok
  refine ⟨Int.le_refl _,by omega,fun s hs=>by have:=h1 s hs;omega,fun p hp=>?_,fun p hp=>?_,h2,by omega,h5,h6,b.1,by omega,by omega,by omega⟩
  · have:=mem_bulk (c:=Packet.bulk) hp
    have hw:=wf_range (o2 p hp).2.1
    simp only [Packet.bulk] at this
    exact ⟨by omega,hw⟩
  · have:=mem_bulk (c:=Packet.bulk) hp
    have hw:=wf_range (o3 p hp).2.1
    simp only [Packet.bulk] at this
    exact ⟨by omega,hw⟩
def junk (t:Int) (l:List Packet):Nat:=(l.filter fun p=>decide (t≤p.number)).length
def room (t:Int) (l:List Packet) (c:Chan):Nat:=c.inbox.length+(t - c.expected).toNat+junk t l
theorem dlv_inbox (c:Chan) (p:Packet):(dlv c p).inbox.length≤c.inbox.length+1:=by
  unfold dlv
  split
  · split
    · show (c.inbox++[p.text]).length≤_;simp
    · show c.inbox.length≤_;omega
  · omega
theorem moveC_inbox (c:Chan) (mv at_:Int):(moveC c mv at_).inbox.length≤c.inbox.length+c.net.length:=by
  unfold moveC
  split
  · show c.inbox.length≤_;omega
  split
  · split
    · omega
    · unfold netC
      split
      · omega
      · rename_i p hp
        have hl:=(List.getElem?_eq_some_iff.1 hp).1
        split
        · show c.inbox.length≤_;omega
        split
        · show c.inbox.length≤_;omega
        split
        · show c.inbox.length≤_;omega
        · have:=dlv_inbox { c with net:=dropK c.net (selK at_ c.net.length) } p
          simp only at this
          omega
  split
  · split
    · omega
    · unfold ackC
      split
      · omega
      · split
        · unfold ackd;split
          · show c.inbox.length≤_;omega
          · show c.inbox.length≤_;omega
        · show c.inbox.length≤_;omega
  · omega
theorem fewC_step {c:Chan} (hm:bulkC c≤4194304) (hok:okC c) (mv at_:Int):fewC (stepC c mv at_):=by
  have hf:=fewC_of hm
  unfold stepC
  split
  · rename_i h
    have h1:=(OKC.start h hm hok).move (by omega) mv at_
    have h2:=moveC_inbox c mv at_
    unfold bulkC at hm
    exact ⟨by have:=h1.lq;omega,by omega,by have:=h1.ln;omega,by have:=h1.la;omega⟩
  · exact hf

theorem box_new2 (w:World) (o o2:Obj):((w.alloc o).alloc o2).heap[w.heap.size+1]? = some o2:=by have:=heap_alloc_new (w.alloc o) o2;simpa using this
theorem Side.below {w w':World} {s:Side} (h:s.ok w) (hb:Below w.heap.size w w'):s.ok w':=Own.below h hb
theorem CB.fin2 {w0 W W' X:World} {fs:List Nat} {B b0:Nat} {v v':CV} {c c':Chan} {sd:List Side} (h:CB w0 fs B b0 v c sd W) {s:Side} (hs:s∈sd) (ho:OwC W' v' c') (hf:Fresh B W' (fpC v')) (hm:∀ q∈fpC v',q∈fpC v∨W.heap.size≤q) (hu:Upd (fpC v) W W') (hx:Upd [s.b] W' X) :
    OwC X v' c'∧Fresh B X (fpC v')∧(∀ q∈fpC v',q∈fs∨w0.heap.size≤q)∧Upd fs w0 X:=by
  have H:=h.sid s hs
  have hlt:=h.slt hs
  have hsz:=h.up.size
  have hn:s.b ∉ fpC v':=fun hq=>(hm _ hq).elim H.2.1 (fun e=>by omega)
  refine ⟨ho.upd hx (fun q hq hx=>by simp only [List.mem_singleton] at hx;exact hn (hx ▸ hq)),⟨hf.nodup,hf.lo,fun q hq=>Nat.lt_of_lt_of_le (hf.hi q hq) hx.size⟩,fun q hq=>(hm q hq).elim (h.mv q) (fun e=>.inr (by omega)),?_⟩
  have u1:Upd fs w0 W':=⟨hu.os.trans h.up.os,hu.tape.trans h.up.tape,hu.output.trans h.up.output,Nat.le_trans h.up.size hu.size,fun i hi hn=>(hu.block i (Nat.lt_of_lt_of_le hi h.up.size) (fun hm=>(h.mv i hm).elim hn (fun hh=>by omega))).trans (h.up.block i hi hn)⟩
  exact ⟨hx.os.trans u1.os,hx.tape.trans u1.tape,hx.output.trans u1.output,Nat.le_trans u1.size hx.size,fun i hi hn=>(hx.block i (Nat.lt_of_lt_of_le hi u1.size) (fun hm=>by simp only [List.mem_singleton] at hm;have:=H.2.2.2;omega)).trans (u1.block i hi hn)⟩
theorem below_upd {w w':World} (h:Upd [] w w'):Below w.heap.size w w':=bUpd (Below.refl _ _) h (fun q hq=>by cases hq)
def SPost (w:World) (c:Chan) (e:Ending) (w':World):Prop:=∃ v',e=.returned (vChan v' c.base c.expected)∧OwC w' v' c∧Fresh w.heap.size w' (fpC v')∧Below w.heap.size w w'
theorem SPost.mk {w X:World} {v':CV} {c:Chan} {b0:Int} (h:OwC X v' c∧Fresh w.heap.size X (fpC v')∧(∀ q∈fpC v',q∈([]:List Nat)∨w.heap.size≤q)∧Upd [] w X):SPost w c (.returned (vChan v' c.base c.expected)) X:=⟨v',rfl,h.1,h.2.1,below_upd h.2.2.2⟩
theorem stepC_no {c:Chan} {mv at_:Int} (h:isChan c=false):stepC c mv at_=c:=by unfold stepC;rw [h];rfl
theorem stepC_yes {c:Chan} {mv at_:Int} (h:isChan c=true):stepC c mv at_=moveC c mv at_:=by unfold stepC;rw [if_pos h]
theorem CB.start3 {w w1 w2:World} {v:CV} {c:Chan} {B' b0:Nat} {sd:List Side} (h:OwC w1 v c) (hf:Fresh B' w1 (fpC v)) (hb:Below w.heap.size w w1) (hb0:w.heap.size≤b0) (hB:b0 < B') (hx:Own w2 0 84 6 (some ⟨b0,0,none⟩) 1 1 [cChan v c.base c.expected]) (hg:w1.grownBy w2 (some b0))
    (hs:∀ s∈sd,s.ok w1∧s.b < B'∧s.b≠b0∧w.heap.size≤s.b):CB w [] w.heap.size b0 v c sd w2:=by
  have hu:=upd1 hg
  have hn:∀ q∈fpC v,q≠b0:=fun q hq e=>by have:=hf.lo q hq;omega
  refine ⟨h.upd hu (fun q hq hm=>by simp only [List.mem_singleton] at hm;exact hn q hq hm),⟨hf.nodup,fun q hq=>by have:=hf.lo q hq;omega,fun q hq=>Nat.lt_of_lt_of_le (hf.hi q hq) hu.size⟩,fun q hq=>.inr (by have:=hf.lo q hq;omega),fun hm=>hn _ hm rfl,hx,hb0,Nat.le_refl _,fun s hm=>?_,?_⟩
  · have H:=hs s hm
    exact ⟨H.1.upd hu (fun q hq hm=>by simp [obl,ob] at hq;simp only [List.mem_singleton] at hm;exact H.2.2.1 (hq ▸ hm)),fun hq=>by have:=hf.lo _ hq;omega,H.2.2.1,H.2.2.2⟩
  · have u0:Upd [] w w1:=Upd.of_below hb
    exact ⟨hu.os.trans u0.os,hu.tape.trans u0.tape,hu.output.trans u0.output,Nat.le_trans u0.size hu.size,fun i hi hn=>(hu.block i (Nat.lt_of_lt_of_le hi u0.size) (fun hm=>by simp only [List.mem_singleton] at hm;omega)).trans (u0.block i hi hn)⟩
theorem moveC_out {c:Chan} {mv at_:Int} (h:¬ (1≤mv∧mv≤7)):moveC c mv at_=c:=by
  unfold moveC
  rw [if_neg (by omega),if_neg (by omega),if_neg (by omega)]
theorem impl_step_out (v:CV) (c:Chan) (mv at_:Int) (w:World) {m:Int} (hok:OKC m c) (hfw:fewC c) (hr:RdC w v c) (hat:-9223372036854775808≤at_∧at_≤9223372036854775807) (hT:Tab w) (h7:¬ (1≤mv∧mv≤7)) :
    Calls Tryz.prog 89 #[vChan v c.base c.expected,.int .i64 mv,.int .i64 at_] w fun e w'=>SPost w (moveC c mv at_) e w':=by
  have OK:=Lib.hid hok
  have HAT:=Lib.hid hat
  have HT:=Lib.hid hT
  clear hok hat hT
  go_enter Tryz.func89,Tryz.ntmps89
  go_wp2_with fail
  refine Calls.mono (copyChannel_k v c _ hfw ?_) ?_
  · exact hr.below (bAlloc (bAlloc (Below.refl _ _) _) _)
  rintro e w1 ⟨v1,rfl,ho,hf,hb1⟩
  have hbx:=Lib.hid (Own.below (Own.box (t:=84) (cs:=cChan v c.base c.expected) (sz:=6) (box2 w _ _) rfl) hb1)
  have hsd:Hid (∀ s∈[(⟨w.heap.size+1,84,zC⟩:Side)],s.ok w1∧s.b < w.heap.size+2∧s.b≠w.heap.size∧w.heap.size≤s.b):=by
    intro s hs
    simp only [List.mem_cons,List.not_mem_nil,or_false] at hs
    subst hs
    exact ⟨Side.below (w:=_) (Own.box (box_new2 w _ _) rfl) hb1,by simp,by simp,by simp⟩
  have H1:=Lib.hid (bTrans (bAlloc (bAlloc (Below.refl w.heap.size w) _) _) hb1)
  have hf':=hf.rebase (show w.heap.size+2≤_ by simp)
  have ho:=Lib.hid ho
  have hf:=Lib.hid hf'
  clear hf' hb1
  have hqn:v1.q.n=c.queue.length:=by have h1:=ho.out.q.len;rw [List.length_map] at h1;exact h1.symm
  have hnn:v1.n.n=c.net.length:=by have h1:=ho.out.n.len;rw [List.length_map] at h1;exact h1.symm
  have han:v1.a.n=c.acks.length:=by have h1:=ho.out.a.len;rw [List.length_map] at h1;exact h1.symm
  have HQN:=Lib.hid hqn;have HNN:=Lib.hid hnn;have HAN:=Lib.hid han
  clear hqn hnn han
  · have hE:Hid (moveC c mv at_=c):=moveC_out h7
    have n1:¬ mv=1:=by omega
    have n2:¬ mv=2:=by omega
    have n3:¬ mv=3:=by omega
    have n4:¬ mv=4:=by omega
    have n5:¬ mv=5:=by omega
    have n6:¬ mv=6:=by omega
    have n7:¬ mv=7:=by omega
    clear h7
    have tok:True:=trivial
    go_wp2_with (have _t:=tok;refine wpList_store_elem rfl 84 (.tmp 3) (.tmp 9) rfl 0 84 6 1 1 w.heap.size 0 0 rfl _ rfl _ (cChan v1 c.base c.expected) rfl rfl rfl (one_of rfl) sz_Chan hbx.out (by omega) ?_;clear tok _t;intro w2 hx2 hg2;have CB1:=Lib.hid (CB.start3 (sd:=[⟨w.heap.size+1,84,zC⟩]) ho.out hf.out H1.out (Nat.le_refl _) (by omega) hx2 hg2 hsd.out);obtain ⟨x0,x1,x2,x3,x4,x5,xf,xz⟩:=CB.at6 CB1.out;obtain ⟨r0,r1,r2,r3,r4,r5,rf,rz⟩:=CB.res6 CB1.out (Upd.refl [] _) (fun q hq=>by cases hq) (b:=w.heap.size+1) (t:=84) (by simp);clear hx2 hg2)
    refine bodyPost_ret (v:=vChan v1 c.base c.expected) (by simp [*,results,Tryz.results89,go_sem]) rfl ?_
    rw [hE.out]
    exact SPost.mk (b0:=0) (CB.fin CB1.out (s:=⟨w.heap.size+1,84,zC⟩) (by simp) (((((((Upd.refl _ _).set_in (by simp) _).set_in (by simp) _).set_in (by simp) _).set_in (by simp) _).set_in (by simp) _).set_in (by simp) _))
end Go.Proofs.YtdfemnffpaopfaaGreatDoor
