/- Texts of this proof, one behind the other: ChnS, ChnO, ChnKP, ChnT, ChnI0. -/
import Derived.Test.YtdfemnffpaopfaaGreatDoorGct8
import Derived.Test.YtdfemnffpaopfaaGreatDoorGct38
namespace Go.Proofs.YtdfemnffpaopfaaGreatDoor
open Go.RowKit
set_option linter.unusedVariables false
set_option linter.unusedSimpArgs false
set_option maxHeartbeats 4000000
set_option maxRecDepth 100000
theorem sendL_snoc:∀ (l:List ByteArray) (s:ByteArray) (n:Int) (net:List Packet),sendL (l++[s]) n net=putK (sendL l n net) (newPkt false (n+l.length) s)
  | [],s,n,net=>by simp [sendL]
  | x :: l,s,n,net=>by
    simp only [List.cons_append,sendL,List.length_cons]
    rw [sendL_snoc l s]
    congr 2
    push_cast;omega
def sentK (c:Chan) (i:Nat):List Packet:=sendL (c.queue.take (min i 3)) c.base c.net
theorem sentK_zero (c:Chan):sentK c 0=c.net:=by simp [sentK,sendL]
theorem sentK_more (c:Chan) {i:Nat} (h:3≤i):sentK c (i+1)=sentK c i:=by unfold sentK;congr 2;omega
theorem sentK_next (c:Chan) {i:Nat} {s:ByteArray} (h:i < 3) (hs:c.queue[i]? = some s):sentK c (i+1)=putK (sentK c i) (newPkt false (c.base+i) s):=by
  unfold sentK
  have e1:min (i+1) 3=i+1:=by omega
  have e2:min i 3=i:=by omega
  obtain ⟨hi,rfl⟩:=List.getElem?_eq_some_iff.1 hs
  rw [e1,e2,List.take_succ_eq_append_getElem hi,sendL_snoc]
  congr 2
  simp only [List.length_take];omega
theorem sentK_end (c:Chan) {i:Nat} (h:c.queue.length≤i∨3≤i):sentK c i=sendL (c.queue.take 3) c.base c.net:=by
  unfold sentK;congr 1
  by_cases h3:3≤i
  · rw [show min i 3=3 by omega]
  · have hl:c.queue.length≤i:=by omega
    rw [List.take_of_length_le (by omega),List.take_of_length_le (by omega)]
theorem sendL_len:∀ (l:List ByteArray) (n:Int) (net:List Packet),net.length≤12→(sendL l n net).length≤12
  | [],n,net,h=>h
  | s :: l,n,net,h=>sendL_len l (n+1) _ (putK_len h)
theorem sentK_len (c:Chan) (i:Nat) (h:c.net.length≤12):(sentK c i).length≤12:=sendL_len _ _ _ h
theorem spec_send_k (v:CV) (c:Chan) (B:Nat) (w:World) {m:Int} (hok:OKC m c) (ho:OwC w v c) (hf:Fresh B w (fpC v)) (hB:B≤w.heap.size) :
    Calls Tryz.prog 122 #[vChan v c.base c.expected] w fun e w'=>CPost w (fpC v) B (sendC c) e w':=by
  obtain ⟨⟨qA,qn,qc⟩,vi,vn,va⟩:=v
  have hqn:Hid (c.queue.length=qn):=by have h1:=ho.q.len;rw [List.length_map] at h1;exact h1
  have hq8:qn≤8:=by have h1:=hok.lq;have:=hqn.out;omega
  have hb0:=hok.b0
  have hb1:c.base≤1000008:=by have:=hok.b1;omega
  have HOK:=Lib.hid hok
  have CB0:=CB.side (CB.start ho hf hB) 84 zC
  have hst:CB w (fpC ⟨⟨qA,qn,qc⟩,vi,vn,va⟩) B w.heap.size ⟨⟨qA,qn,qc⟩,vi,vn,va⟩ { c with net:=sentK c 0 } [⟨w.heap.size+1,84,zC⟩] ((w.alloc (.cells #[.slice qA qn qc,.int .i64 c.base,.int .i64 c.expected,.slice vi.A vi.n vi.c,.slice vn.A vn.n vn.c,.slice va.A va.n va.c] 84)).alloc (.cells #[.slice none 0 0,.int .i64 0,.int .i64 0,.slice none 0 0,.slice none 0 0,.slice none 0 0] 84)):=by
    rw [sentK_zero]
    have e:(w.alloc (.cells #[.slice qA qn qc,.int .i64 c.base,.int .i64 c.expected,.slice vi.A vi.n vi.c,.slice vn.A vn.n vn.c,.slice va.A va.n va.c] 84)).heap.size=w.heap.size+1:=by simp
    rw [← e]
    exact CB0
  have HST:=Lib.hid hst
  generalize hFS:fpC ⟨⟨qA,qn,qc⟩,vi,vn,va⟩=FS at *
  clear hok ho hf CB0 hst hFS
  go_enter Tryz.func122,Tryz.ntmps122
  go_wp2_with fail
  go_loopw [8] (fun i wr=>∃ (k:Nat) (vn':Sv),i=.int .i64 (k:Int)∧k≤qn∧CB w FS B w.heap.size ⟨⟨qA,qn,qc⟩,vi,vn',va⟩ { c with net:=sentK c k } [⟨w.heap.size+1,84,zC⟩] wr) (fun i _=>qn - (intOf i).toNat)
  case atStart=>exact ⟨0,vn,rfl,Nat.zero_le _,HST.out⟩
  case round =>
    obtain ⟨k,vn',rfl,hk,hcb⟩:=hrel
    have CBW:=Lib.hid hcb
    obtain ⟨x0,x1,x2,x3,x4,x5,xf,xz⟩:=CB.at6 CBW.out
    obtain ⟨r0,r1,r2,r3,r4,r5,rf,rz⟩:=CB.res6 CBW.out (Upd.refl [] _) (fun q hq=>by cases hq) (b:=w.heap.size+1) (t:=84) (by simp)
    clear hcb HST
    by_cases hlt:k < qn
    · obtain ⟨s,g,off,hs,hA,hc⟩:=RowS.at_ CBW.out.ow.q.row hlt
      dsimp only at hA
      subst hA
      have hs8:s.size≤4194304:=HOK.out.q s (List.mem_of_getElem? hs.out)
      have hk0:(0:Int)≤(k:Int):=by omega
      have hk1:(k:Int) < (qn:Int):=by omega
      by_cases h3:k < 3
      · have h3':(k:Int) < 3:=by omega
        have hw:IntKind.i64.wrap (c.base+(k:Int))=c.base+(k:Int):=by rw [IntKind.wrap_i64];omega
        have hS:=Lib.hid (sentK_next c h3 hs.out)
        have hnl:=sentK_len c k HOK.out.ln
        have hpk:=fun W=>spec_pkt_false (c.base+(k:Int)) s W (by omega) (by omega) hs8
        clear hs
        go_wp2_with fail
        refine region_at fun R hR=>?_
        have CBR:=Lib.hid (CB.at_ CBW.out hR)
        have CBD:=Lib.hid (CB.below CBR.out (bDrew (Below.refl _ _)))
        obtain ⟨x0,x1,x2,x3,x4,x5,xf,xz⟩:=CB.at6 CBR.out
        obtain ⟨r0,r1,r2,r3,r4,r5,rf,rz⟩:=CB.res6 CBR.out (Upd.refl [] _) (fun q hq=>by cases hq) (b:=w.heap.size+1) (t:=84) (by simp)
        clear hR CBW hc
        go_region_law (first
          | (go_simp;go_at_call 165;refine (hpk _).mono ?_;rintro e w7 ⟨rfl,hb7⟩;have CB7:=Lib.hid (CB.below CBD.out hb7);obtain ⟨x0,x1,x2,x3,x4,x5,xf,xz⟩:=CB.at6 CB7.out)
          | (go_simp;go_at_call 164;refine (spec_put_k vn' (sentK c k) (newPkt false (c.base+(k:Int)) s) _ (by omega) ?_).mono ?_;exact CB7.out.ow.n;rintro e w8 ⟨v8,rfl,ho8,hu8,hv8⟩;have CB8:=Lib.hid (CB.turn_n CB7.out ho8 hu8 hv8);obtain ⟨x0,x1,x2,x3,x4,x5,xf,xz⟩:=CB.kept6 CB7.out hu8 (fun q hq=>fpC_mem.2 (.inr (.inr (.inl hq))))))
        all_goals
          rw [← hS.out] at CB8
          clear CB7 CBR CBD hpk
          go_wp2_with fail
          exact ⟨⟨k+1,v8,by simp,by omega,CB8.out⟩,by simp only [intOf];omega⟩
      · have h3':¬ (k:Int) < 3:=by omega
        have hS:=Lib.hid (sentK_more c (i:=k) (by omega))
        go_wp2_with fail
        exact ⟨⟨k+1,vn',by simp,by omega,by rw [hS.out];exact CBW.out⟩,by simp only [intOf];omega⟩
    · obtain rfl:k=qn:=by omega
      have hkn:¬ (k:Int) < (k:Int):=by omega
      have hE:Hid (sendC c = { c with net:=sentK c k }):=by
        unfold Hid sendC;rw [sentK_end c (.inl (by have:=hqn.out;omega))]
      go_wp2_with fail
      refine bodyPost_ret (v:=vChan ⟨⟨qA,k,qc⟩,vi,vn',va⟩ c.base c.expected) (by simp [*,results,Tryz.results122,go_sem]) rfl ?_
      rw [hE.out]
      refine ⟨_,rfl,?_⟩
      exact CB.fin CBW.out (s:=⟨w.heap.size+1,84,zC⟩) (by simp) (((((((Upd.refl _ _).set_in (by simp) _).set_in (by simp) _).set_in (by simp) _).set_in (by simp) _).set_in (by simp) _).set_in (by simp) _)
def okPk (p:Packet):Prop:=p.text.size≤4194304∧-9223372036854775808≤p.number∧p.number≤9223372036854775807
theorem OKC.netp {m:Int} {c:Chan} (h:OKC m c):∀ p∈c.net,okPk p:=h.net
theorem OKC.ackp {m:Int} {c:Chan} (h:OKC m c):∀ p∈c.acks,okPk p:=h.acks
theorem OKC.up {m m':Int} {c:Chan} (h:OKC m c) (h1:m≤m') (h2:m'≤1000000):OKC m' c :=
  ⟨Int.le_trans h.m0 h1,h2,h.q,h.net,h.acks,h.lq,by have:=h.li;omega,h.ln,h.la,h.b0,h.b1,h.e0,by have:=h.e1;omega⟩
theorem OKC.withNet {m:Int} {c:Chan} (h:OKC m c) {l:List Packet} (hl:∀ p∈l,okPk p) (h12:l.length≤12):OKC m { c with net:=l } :=
  ⟨h.m0,h.m1,h.q,hl,h.acks,h.lq,h.li,h12,h.la,h.b0,h.b1,h.e0,h.e1⟩
theorem OKC.withAcks {m:Int} {c:Chan} (h:OKC m c) {l:List Packet} (hl:∀ p∈l,okPk p) (h12:l.length≤12):OKC m { c with acks:=l } :=
  ⟨h.m0,h.m1,h.q,h.net,hl,h.lq,h.li,h.ln,h12,h.b0,h.b1,h.e0,h.e1⟩
theorem sendL_okP:∀ (q:List ByteArray) (n:Int) (net:List Packet),(∀ s∈q,s.size≤4194304)→0≤n→n+q.length≤2000000→(∀ p∈net,okPk p)→∀ p∈sendL q n net,okPk p
  | [],n,net,_,_,_,h=>h
  | s :: q,n,net,hq,h0,h1,h=>by
    simp only [List.length_cons] at h1
    exact sendL_okP q (n+1) _ (fun t ht=>hq t (by simp [ht])) (by omega) (by push_cast at h1;omega) (putK_all h ⟨hq s (by simp),by show _≤n;omega,by show n≤_;push_cast at h1;omega⟩)
theorem OKC.send {m:Int} {c:Chan} (h:OKC m c):OKC m (sendC c):=by
  have h1:=h.b0;have h2:=h.b1;have h3:=h.lq
  refine h.withNet (sendL_okP _ _ _ (fun s hs=>h.q s (List.mem_of_mem_take hs)) h1 (by have h9:(c.queue.take 3).length≤c.queue.length:=List.length_take_le' _ _;omega) h.netp) (sendL_len _ _ _ h.ln)
theorem OKC.dlv {m:Int} {c:Chan} (h:OKC m c) (hm:m < 1000000) {p:Packet} (hp:okPk p):OKC (m+1) (dlv c p):=by
  have hu:=h.up (m':=m+1) (by omega) (by omega)
  have h1:=h.e0;have h2:=h.e1;have h3:=h.li
  have hnil:(⟨#[]⟩:ByteArray).size≤4194304:=by decide
  unfold Go.Proofs.YtdfemnffpaopfaaGreatDoor.dlv
  split
  · split
    · refine ⟨hu.m0,hu.m1,h.q,h.net,putK_all h.ackp ⟨hnil,by show _≤c.expected+1;omega,by show c.expected+1≤_;omega⟩,h.lq,?_,h.ln,putK_len h.la,h.b0,h.b1,by show 0≤c.expected+1;omega,by show c.expected+1≤_;omega⟩
      show ((c.inbox++[p.text]).length:Int)≤_
      simp;omega
    · exact hu.withAcks (putK_all h.ackp ⟨hnil,by show _≤c.expected;omega,by show c.expected≤_;omega⟩) (putK_len h.la)
  · exact hu
theorem OKC.ackd {m:Int} {c:Chan} (h:OKC m c) (p:Packet):OKC m (ackd c p):=by
  have h1:=h.b0;have h2:=h.b1;have h3:=h.lq
  unfold Go.Proofs.YtdfemnffpaopfaaGreatDoor.ackd
  split
  · rename_i hc
    obtain ⟨_,_,c1,c2⟩:=hc
    exact ⟨h.m0,h.m1,fun s hs=>h.q s (List.mem_of_mem_drop hs),h.net,h.acks,by show (c.queue.drop _).length≤8;simp;omega,h.li,h.ln,h.la,by show 0≤p.number;omega,by show p.number+((c.queue.drop _).length:Int)≤_;simp;omega,h.e0,h.e1⟩
  · exact h
theorem OKC.net1 {m:Int} {c:Chan} (h:OKC m c) (hm:m < 1000000) (mv:Int) (k:Nat):OKC (m+1) (netC c mv k):=by
  have hu:=h.up (m':=m+1) (by omega) (by omega)
  unfold netC
  split
  · exact hu
  · rename_i p hp
    have hpm:=h.netp p (List.mem_of_getElem? hp)
    split
    · exact hu.withNet (putK_all h.netp hpm) (putK_len h.ln)
    split
    · rw [spoilK_eq hp]
      refine hu.withNet (fun x hx=>?_) (by simpa using h.ln)
      rcases List.mem_or_eq_of_mem_set hx with hx | rfl
      · exact h.netp x hx
      · exact hpm
    split
    · exact hu.withNet (dropK_all h.netp) (dropK_len h.ln)
    · exact (h.withNet (dropK_all h.netp) (dropK_len h.ln)).dlv hm hpm
theorem OKC.ack1 {m:Int} {c:Chan} (h:OKC m c) (mv:Int) (k:Nat):OKC m (ackC c mv k):=by
  unfold ackC
  split
  · exact h
  · split
    · exact (h.withAcks (dropK_all h.ackp) (dropK_len h.la)).ackd _
    · exact h.withAcks (dropK_all h.ackp) (dropK_len h.la)
theorem OKC.move {m:Int} {c:Chan} (h:OKC m c) (hm:m < 1000000) (mv at_:Int):OKC (m+1) (moveC c mv at_):=by
  have hu:=h.up (m':=m+1) (by omega) (by omega)
  unfold moveC
  split
  · exact hu.send
  split
  · split
    · exact hu
    · exact h.net1 hm mv _
  split
  · split
    · exact hu
    · exact hu.ack1 mv _
  · exact hu
theorem wf_range {n:Int} (h:wfI n):-9223372036854775808≤n∧n≤9223372036854775807:=by
  simp [wfI,Lit.wf,IntKind.min,IntKind.max,IntKind.signed,IntKind.bits] at h
  omega
theorem OKC.start {c:Chan} (h:isChan c=true) (hm:bulkC c≤4194304) (hok:okC c):OKC 0 c:=by
  unfold Go.Proofs.YtdfemnffpaopfaaGreatDoor.isChan at h
  simp only [Bool.and_eq_true,decide_eq_true_eq,List.all_eq_true] at h
  obtain ⟨h1,h2,h3,h4,h5,h6⟩:=h
  have b:=inR_iff.1 h3;have e:=inR_iff.1 h4
  unfold bulkC at hm
  obtain ⟨o0,o1,o2,o3,_,_⟩:=hok
  refine ⟨Int.le_refl _,by omega,fun s hs=>by have:=h1 s hs;omega,fun p hp=>?_,fun p hp=>?_,h2,by omega,h5,h6,b.1,by omega,by omega,by omega⟩
  · have:=mem_bulk (c:=Packet.bulk) hp
    have hw:=wf_range (o2 p hp).2.1
    simp only [Packet.bulk] at this
    exact ⟨by omega,hw⟩
  · have:=mem_bulk (c:=Packet.bulk) hp
    have hw:=wf_range (o3 p hp).2.1
    simp only [Packet.bulk] at this
    exact ⟨by omega,hw⟩
def top (c:Chan):Int:=c.base+c.queue.length
def junk (t:Int) (l:List Packet):Nat:=(l.filter fun p=>decide (t≤p.number)).length
def room (t:Int) (l:List Packet) (c:Chan):Nat:=c.inbox.length+(t - c.expected).toNat+junk t l
theorem room_dlv {t:Int} {p:Packet} {l l2:List Packet} {c:Chan}:room t l (dlv { c with net:=l2 } p)≤room t (p :: l) c:=by
  unfold room junk
  rw [List.filter_cons]
  unfold dlv
  split
  · split
    · rename_i hn
      have hn':p.number=c.expected:=hn
      show (c.inbox++[p.text]).length+(t - (c.expected+1)).toNat+_≤c.inbox.length+(t - c.expected).toNat+_
      by_cases ht:t≤p.number
      · rw [if_pos (by simpa using ht)]
        simp only [List.length_append,List.length_cons,List.length_nil];omega
      · rw [if_neg (by simpa using ht)]
        simp only [List.length_append,List.length_cons,List.length_nil];omega
    · show c.inbox.length+(t - c.expected).toNat+_≤_
      split
      · simp only [List.length_cons];omega
      · exact Nat.le_refl _
  · show c.inbox.length+(t - c.expected).toNat+_≤_
    split
    · simp only [List.length_cons];omega
    · exact Nat.le_refl _
theorem room_netAll:∀ (l:List Packet) (c:Chan) (t:Int),room t [] (netAll l c)≤room t l c
  | [],c,t=>Nat.le_refl _
  | p :: l,c,t=>Nat.le_trans (room_netAll l _ t) room_dlv
theorem junk_put {t:Int} {l:List Packet} {p:Packet} (h:p.number < t):junk t (putK l p)=junk t l:=by
  unfold junk putK
  split
  · rfl
  · rw [List.filter_append];simp;omega
theorem junk_send:∀ (q:List ByteArray) (n t:Int) (net:List Packet),n+q.length≤t→junk t (sendL q n net)=junk t net
  | [],n,t,net,_=>rfl
  | s :: q,n,t,net,h=>by
    simp only [List.length_cons] at h
    rw [sendL,junk_send q (n+1) t _ (by push_cast at h;omega),junk_put (by show n < t;push_cast at h;omega)]
theorem ackAll_same:∀ (l:List Packet) (c:Chan),(ackAll l c).inbox=c.inbox∧(ackAll l c).expected=c.expected∧top (ackAll l c)=top c
  | [],c=>⟨rfl,rfl,rfl⟩
  | p :: l,c=>by
    obtain ⟨h1,h2,h3⟩:=ackAll_same l (ackd { c with acks:=l } p)
    have e1:(ackd { c with acks:=l } p).inbox=c.inbox:=by unfold ackd;split <;> rfl
    have e2:(ackd { c with acks:=l } p).expected=c.expected:=by unfold ackd;split <;> rfl
    have e3:top (ackd { c with acks:=l } p)=top c:=by unfold top;exact ackd_bq { c with acks:=l } p
    exact ⟨h1.trans e1,h2.trans e2,h3.trans e3⟩
theorem top_netAll (l:List Packet) (c:Chan):top (netAll l c)=top c:=by
  have h:=netAll_same l c
  unfold top;rw [h.1,h.2]
theorem room_calm1 (c:Chan):room (top c) [] (calm1 c)≤room (top c) c.net c∧top (calm1 c)=top c:=by
  unfold calm1
  have ha:=ackAll_same (netAll (sendC c).net (sendC c)).acks (netAll (sendC c).net (sendC c))
  have ht:top (sendC c)=top c:=rfl
  have hn:=room_netAll (sendC c).net (sendC c) (top c)
  refine ⟨?_,by rw [ha.2.2,top_netAll];rfl⟩
  have e:room (top c) (sendC c).net (sendC c)=room (top c) c.net c:=by
    unfold room
    have:junk (top c) (sendC c).net=junk (top c) c.net:=junk_send _ _ _ _ (by unfold top;have h9:(c.queue.take 3).length≤c.queue.length:=List.length_take_le' _ _;omega)
    rw [this];rfl
  rw [e] at hn
  refine Nat.le_trans (Nat.le_of_eq ?_) hn
  unfold room
  rw [ha.1,ha.2.1]
theorem room_calmN:∀ (n:Nat) (c:Chan) (t:Int),c.net=[]→top c=t→(calmN n c).inbox.length≤room t [] c
  | 0,c,t,_,_=>by unfold room;show c.inbox.length≤_;omega
  | n+1,c,t,hn,ht=>by
    have h1:=room_calm1 c
    have he:=(calm1_empty c).1
    have h2:=room_calmN n (calm1 c) t he (h1.2.trans ht)
    rw [hn,ht] at h1
    exact Nat.le_trans h2 h1.1
theorem calm_inbox {c:Chan} (h:isChan c=true):(calmC c).inbox.length≤c.inbox.length+c.queue.length+c.net.length:=by
  unfold calmC
  rw [if_pos h]
  unfold isChan at h
  simp only [Bool.and_eq_true,decide_eq_true_eq,List.all_eq_true] at h
  have e:=inR_iff.1 h.2.2.2.1
  have h1:=room_calm1 c
  have h2:=room_calmN 8 (calm1 c) (top c) (calm1_empty c).1 h1.2
  have h3:room (top c) c.net c≤c.inbox.length+c.queue.length+c.net.length:=by
    unfold room junk top
    have:=List.length_filter_le (fun p:Packet=>decide (c.base+(c.queue.length:Int)≤p.number)) c.net
    omega
  exact Nat.le_trans h2 (Nat.le_trans h1.1 h3)
theorem selK_zero (n:Nat):selK 0 n=0:=by simp [selK]
theorem net_step {c:Chan} (h:c.net≠[]):moveC c 2 0=netC c 2 (selK 0 c.net.length)∧netAll (moveC c 2 0).net (moveC c 2 0)=netAll c.net c∧(moveC c 2 0).net.length+1=c.net.length:=by
  obtain ⟨p,l,hl⟩:∃ p l,c.net=p :: l:=by cases hc:c.net with | nil=>exact absurd hc h | cons p l=>exact ⟨p,l,rfl⟩
  have e1:moveC c 2 0=netC c 2 (selK 0 c.net.length):=by
    unfold moveC;rw [if_neg (by decide),if_pos (by decide),if_neg h]
  have e2:moveC c 2 0=dlv { c with net:=l } p:=by
    rw [e1,selK_zero]
    unfold netC
    have h0:c.net[0]? = some p:=by rw [hl];rfl
    rw [h0]
    show (if (2:Int)=4 then _ else _) = _
    rw [if_neg (by decide),if_neg (by decide),if_neg (by decide)]
    congr 2
    rw [hl,dropK_zero]
  refine ⟨e1,?_,?_⟩
  · rw [e2,dlv_net,hl];rfl
  · rw [e2,dlv_net,hl];rfl
theorem ack_step {c:Chan} (h:c.acks≠[]):moveC c 6 0=ackC c 6 (selK 0 c.acks.length)∧ackAll (moveC c 6 0).acks (moveC c 6 0)=ackAll c.acks c∧(moveC c 6 0).acks.length+1=c.acks.length∧(moveC c 6 0).net=c.net∧(moveC c 6 0).inbox=c.inbox∧(moveC c 6 0).expected=c.expected∧top (moveC c 6 0)=top c:=by
  obtain ⟨p,l,hl⟩:∃ p l,c.acks=p :: l:=by cases hc:c.acks with | nil=>exact absurd hc h | cons p l=>exact ⟨p,l,rfl⟩
  have e1:moveC c 6 0=ackC c 6 (selK 0 c.acks.length):=by
    unfold moveC;rw [if_neg (by decide),if_neg (by decide),if_pos (by decide),if_neg h]
  have e2:moveC c 6 0=ackd { c with acks:=l } p:=by
    rw [e1,selK_zero]
    unfold ackC
    have h0:c.acks[0]? = some p:=by rw [hl];rfl
    rw [h0]
    show (if (6:Int)=6 then _ else _) = _
    rw [if_pos rfl]
    congr 2
    rw [hl,dropK_zero]
  refine ⟨e1,?_,?_,?_,?_,?_,?_⟩
  · rw [e2,ackd_acks,hl];rfl
  · rw [e2,ackd_acks,hl];rfl
  · rw [e2,ackd_net]
  · rw [e2];unfold ackd;split <;> rfl
  · rw [e2];unfold ackd;split <;> rfl
  · rw [e2];exact ackd_bq { c with acks:=l } p
structure KI (t m:Int) (c:Chan):Prop where
  ok:OKC m c
  tp:top c=t
  rm:room t c.net c≤4194304
theorem KI.few {t m:Int} {c:Chan} (h:KI t m c):fewC c:=by
  have h1:=h.rm
  unfold room at h1
  exact ⟨by have:=h.ok.lq;omega,by omega,by have:=h.ok.ln;omega,by have:=h.ok.la;omega⟩
theorem KI.send {t m:Int} {c:Chan} (h:KI t m c):KI t m (sendC c):=by
  refine ⟨h.ok.send,h.tp,Nat.le_trans (Nat.le_of_eq ?_) h.rm⟩
  have ht:=h.tp
  unfold top at ht
  unfold room
  have:junk t (sendC c).net=junk t c.net:=junk_send _ _ _ _ (by have h9:(c.queue.take 3).length≤c.queue.length:=List.length_take_le' _ _;omega)
  rw [this];rfl
theorem KI.net {t m:Int} {c:Chan} (h:KI t m c) (hm:m < 1000000) (hn:c.net≠[]):KI t (m+1) (moveC c 2 0):=by
  obtain ⟨p,l,hl⟩:∃ p l,c.net=p :: l:=by cases hc:c.net with | nil=>exact absurd hc hn | cons p l=>exact ⟨p,l,rfl⟩
  have e1:=(net_step hn).1
  have e2:moveC c 2 0=dlv { c with net:=l } p:=by
    rw [e1,selK_zero]
    unfold netC
    have h0:c.net[0]? = some p:=by rw [hl];rfl
    rw [h0]
    show (if (2:Int)=4 then _ else _) = _
    rw [if_neg (by decide),if_neg (by decide),if_neg (by decide)]
    congr 2
    rw [hl,dropK_zero]
  refine ⟨h.ok.move hm 2 0,?_,?_⟩
  · rw [e2];have:=dlv_same { c with net:=l } p;unfold top;rw [this.1,this.2];exact h.tp
  · rw [e2,dlv_net]
    have hr:=h.rm
    rw [hl] at hr
    exact Nat.le_trans (room_dlv (l:=l) (l2:=l) (c:=c)) hr
theorem KI.ack {t m:Int} {c:Chan} (h:KI t m c) (hn:c.acks≠[]):KI t m (moveC c 6 0):=by
  obtain ⟨e1,_,_,e4,e5,e6,e7⟩:=ack_step hn
  refine ⟨?_,e7.trans h.tp,?_⟩
  · rw [e1];exact h.ok.ack1 6 _
  · unfold room;rw [e4,e5,e6];exact h.rm
theorem KI.up {t m m':Int} {c:Chan} (h:KI t m c) (h1:m≤m') (h2:m'≤1000000):KI t m' c:=⟨h.ok.up h1 h2,h.tp,h.rm⟩
theorem KI.start {c:Chan} (h:isChan c=true) (hm:bulkC c≤4194304) (hok:okC c):KI (top c) 0 c:=by
  refine ⟨OKC.start h hm hok,rfl,?_⟩
  unfold isChan at h
  simp only [Bool.and_eq_true,decide_eq_true_eq,List.all_eq_true] at h
  have e:=inR_iff.1 h.2.2.2.1
  unfold room junk top
  have:=List.length_filter_le (fun p:Packet=>decide (c.base+(c.queue.length:Int)≤p.number)) c.net
  unfold bulkC at hm
  omega
theorem fewC_calm {c:Chan} (hm:bulkC c≤4194304) (hok:okC c):fewC (calmC c):=by
  have hf:=fewC_of hm
  by_cases h:isChan c=true
  · have hi:=calm_inbox h
    have ok:=OKC.start h hm hok
    have hq:∀ (n:Nat) (c:Chan),c.queue.length≤8→(calmN n c).queue.length≤8:=by
      intro n
      induction n with
      | zero=>exact fun c h=>h
      | succ n ih =>
        intro c hc
        refine ih _ ?_
        have h1:=(netAll_same (sendC c).net (sendC c)).2
        have h2:∀ (l:List Packet) (d:Chan),d.queue.length≤8→(ackAll l d).queue.length≤8:=by
          intro l
          induction l with
          | nil=>exact fun d hd=>hd
          | cons p l ihl =>
            intro d hd
            refine ihl _ ?_
            unfold ackd;split
            · show (d.queue.drop _).length≤8;simp;omega
            · exact hd
        exact h2 _ _ (by rw [h1];exact hc)
    have hn:∀ (n:Nat) (c:Chan),c.net=[]→c.acks=[]→(calmN n c).net=[]∧(calmN n c).acks=[]:=by
      intro n
      induction n with
      | zero=>exact fun c h1 h2=>⟨h1,h2⟩
      | succ n ih=>exact fun c _ _=>ih _ (calm1_empty c).1 (calm1_empty c).2
    unfold calmC at hi ⊢
    rw [if_pos h] at hi ⊢
    have h8:=hn 8 (calm1 c) (calm1_empty c).1 (calm1_empty c).2
    refine ⟨by have:=hq 9 c ok.lq;omega,?_,?_,?_⟩
    · unfold bulkC at hm;omega
    · show (calmN 8 (calm1 c)).net.length≤_;rw [h8.1];simp
    · show (calmN 8 (calm1 c)).acks.length≤_;rw [h8.2];simp
  · unfold calmC;rw [if_neg h];exact hf
theorem CB.chan6 {w0 w w1:World} {fs:List Nat} {B b0:Nat} {v:CV} {c:Chan} {sd:List Side} {gs:List Nat} (h:CB w0 fs B b0 v c sd w) (hu:Upd gs w w1) (hg:∀ q∈gs,q∈fpC v) {b t:Nat} {v2:CV} {b2 e2:Int} (hs:(⟨b,t,cChan v2 b2 e2⟩:Side)∈sd):w1.cell? ⟨b,0,none⟩=some (.slice v2.q.A v2.q.n v2.q.c)∧w1.cell? ⟨b,1,none⟩=some (.int .i64 b2)∧w1.cell? ⟨b,2,none⟩=some (.int .i64 e2)∧w1.cell? ⟨b,3,none⟩=some (.slice v2.i.A v2.i.n v2.i.c)∧w1.cell? ⟨b,4,none⟩=some (.slice v2.n.A v2.n.n v2.n.c)∧w1.cell? ⟨b,5,none⟩=some (.slice v2.a.A v2.a.n v2.a.c)∧(∀ o,w1.frozen? ⟨b,o,none⟩=false)∧b < w1.heap.size :=
  have K:=h.s_kept hu hg hs
  ⟨(K.1 0).trans (h.s_cell hs 0 _ rfl),(K.1 1).trans (h.s_cell hs 1 _ rfl),(K.1 2).trans (h.s_cell hs 2 _ rfl),(K.1 3).trans (h.s_cell hs 3 _ rfl),(K.1 4).trans (h.s_cell hs 4 _ rfl),(K.1 5).trans (h.s_cell hs 5 _ rfl),K.2,Nat.lt_of_lt_of_le (h.slt hs) hu.size⟩
theorem box_new2 (w:World) (o o2:Obj):((w.alloc o).alloc o2).heap[w.heap.size+1]? = some o2:=by have:=heap_alloc_new (w.alloc o) o2;simpa using this
theorem Side.below {w w':World} {s:Side} (h:s.ok w) (hb:Below w.heap.size w w'):s.ok w':=Own.below h hb
theorem CB.start2 {w w1:World} {v:CV} {c:Chan} {B':Nat} {sd:List Side} (h:OwC w1 v c) (hf:Fresh B' w1 (fpC v)) (hb:Below w.heap.size w w1) (hB:w.heap.size≤B') (hs:∀ s∈sd,s.ok w1∧s.b < B'∧w.heap.size≤s.b) :
    CB w [] w.heap.size w1.heap.size v c sd (w1.alloc (.cells (cChan v c.base c.expected).toArray 84)) :=
  ⟨h.below (bAlloc (Below.refl _ _) _),⟨hf.nodup,fun q hq=>Nat.le_trans hB (hf.lo q hq),fun q hq=>by have:=hf.hi q hq;simp;omega⟩,fun q hq=>.inr (Nat.le_trans hB (hf.lo q hq)),fun hm=>by have:=hf.hi _ hm;omega,Own.box (heap_alloc_new w1 _) rfl,hb.size,Nat.le_refl _,
    fun s hm =>
      have H:=hs s hm
      ⟨H.1.below (bAlloc (Below.refl _ _) _),fun hq=>by have:=hf.lo _ hq;omega,by have:=H.1.lt1;omega,H.2.2⟩,Upd.of_below (bAlloc hb _)⟩
theorem CB.fin2 {w0 W W' X:World} {fs:List Nat} {B b0:Nat} {v v':CV} {c c':Chan} {sd:List Side} (h:CB w0 fs B b0 v c sd W) {s:Side} (hs:s∈sd) (ho:OwC W' v' c') (hf:Fresh B W' (fpC v')) (hm:∀ q∈fpC v',q∈fpC v∨W.heap.size≤q) (hu:Upd (fpC v) W W') (hx:Upd [s.b] W' X) :
    OwC X v' c'∧Fresh B X (fpC v')∧(∀ q∈fpC v',q∈fs∨w0.heap.size≤q)∧Upd fs w0 X:=by
  have H:=h.sid s hs
  have hlt:=h.slt hs
  have hsz:=h.up.size
  have hn:s.b ∉ fpC v':=fun hq=>(hm _ hq).elim H.2.1 (fun e=>by omega)
  refine ⟨ho.upd hx (fun q hq hx=>by simp only [List.mem_singleton] at hx;exact hn (hx ▸ hq)),⟨hf.nodup,hf.lo,fun q hq=>Nat.lt_of_lt_of_le (hf.hi q hq) hx.size⟩,fun q hq=>(hm q hq).elim (h.mv q) (fun e=>.inr (by omega)),?_⟩
  have u1:Upd fs w0 W':=⟨hu.os.trans h.up.os,hu.tape.trans h.up.tape,hu.output.trans h.up.output,Nat.le_trans h.up.size hu.size,fun i hi hn=>(hu.block i (Nat.lt_of_lt_of_le hi h.up.size) (fun hm=>(h.mv i hm).elim hn (fun hh=>by omega))).trans (h.up.block i hi hn)⟩
  exact ⟨hx.os.trans u1.os,hx.tape.trans u1.tape,hx.output.trans u1.output,Nat.le_trans u1.size hx.size,fun i hi hn=>(hx.block i (Nat.lt_of_lt_of_le hi u1.size) (fun hm=>by simp only [List.mem_singleton] at hm;have:=H.2.2.2;omega)).trans (u1.block i hi hn)⟩
theorem below_upd {w w':World} (h:Upd [] w w'):Below w.heap.size w w':=bUpd (Below.refl _ _) h (fun q hq=>by cases hq)
def SPost (w:World) (c:Chan) (e:Ending) (w':World):Prop:=∃ v',e=.returned (vChan v' c.base c.expected)∧OwC w' v' c∧Fresh w.heap.size w' (fpC v')∧Below w.heap.size w w'
theorem SPost.mk {w X:World} {v':CV} {c:Chan} {b0:Int} (h:OwC X v' c∧Fresh w.heap.size X (fpC v')∧(∀ q∈fpC v',q∈([]:List Nat)∨w.heap.size≤q)∧Upd [] w X):SPost w c (.returned (vChan v' c.base c.expected)) X:=⟨v',rfl,h.1,h.2.1,below_upd h.2.2.2⟩
theorem CB.start3 {w w1 w2:World} {v:CV} {c:Chan} {B' b0:Nat} {sd:List Side} (h:OwC w1 v c) (hf:Fresh B' w1 (fpC v)) (hb:Below w.heap.size w w1) (hb0:w.heap.size≤b0) (hB:b0 < B') (hx:Own w2 0 84 6 (some ⟨b0,0,none⟩) 1 1 [cChan v c.base c.expected]) (hg:w1.grownBy w2 (some b0))
    (hs:∀ s∈sd,s.ok w1∧s.b < B'∧s.b≠b0∧w.heap.size≤s.b):CB w [] w.heap.size b0 v c sd w2:=by
  have hu:=upd1 hg
  have hn:∀ q∈fpC v,q≠b0:=fun q hq e=>by have:=hf.lo q hq;omega
  refine ⟨h.upd hu (fun q hq hm=>by simp only [List.mem_singleton] at hm;exact hn q hq hm),⟨hf.nodup,fun q hq=>by have:=hf.lo q hq;omega,fun q hq=>Nat.lt_of_lt_of_le (hf.hi q hq) hu.size⟩,fun q hq=>.inr (by have:=hf.lo q hq;omega),fun hm=>hn _ hm rfl,hx,hb0,Nat.le_refl _,fun s hm=>?_,?_⟩
  · have H:=hs s hm
    exact ⟨H.1.upd hu (fun q hq hm=>by simp [obl,ob] at hq;simp only [List.mem_singleton] at hm;exact H.2.2.1 (hq ▸ hm)),fun hq=>by have:=hf.lo _ hq;omega,H.2.2.1,H.2.2.2⟩
  · have u0:Upd [] w w1:=Upd.of_below hb
    exact ⟨hu.os.trans u0.os,hu.tape.trans u0.tape,hu.output.trans u0.output,Nat.le_trans u0.size hu.size,fun i hi hn=>(hu.block i (Nat.lt_of_lt_of_le hi u0.size) (fun hm=>by simp only [List.mem_singleton] at hm;omega)).trans (u0.block i hi hn)⟩
theorem moveC_out {c:Chan} {mv at_:Int} (h:¬ (1≤mv∧mv≤7)):moveC c mv at_=c:=by
  unfold moveC
  rw [if_neg (by omega),if_neg (by omega),if_neg (by omega)]
theorem impl_step_out (v:CV) (c:Chan) (mv at_:Int) (w:World) {m:Int} (hok:OKC m c) (hfw:fewC c) (hr:RdC w v c) (hat:-9223372036854775808≤at_∧at_≤9223372036854775807) (hT:Tab w) (h7:¬ (1≤mv∧mv≤7)) :
    Calls Tryz.prog 89 #[vChan v c.base c.expected,.int .i64 mv,.int .i64 at_] w fun e w'=>SPost w (moveC c mv at_) e w':=by
  have OK:=Lib.hid hok
  have HAT:=Lib.hid hat
  have HT:=Lib.hid hT
  clear hok hat hT
  go_enter Tryz.func89,Tryz.ntmps89
  go_wp2_with fail
  refine Calls.mono (copyChannel_k v c _ hfw ?_) ?_
  · exact hr.below (bAlloc (bAlloc (Below.refl _ _) _) _)
  rintro e w1 ⟨v1,rfl,ho,hf,hb1⟩
  have hbx:=Lib.hid (Own.below (Own.box (t:=84) (cs:=cChan v c.base c.expected) (sz:=6) (box2 w _ _) rfl) hb1)
  have hsd:Hid (∀ s∈[(⟨w.heap.size+1,84,zC⟩:Side)],s.ok w1∧s.b < w.heap.size+2∧s.b≠w.heap.size∧w.heap.size≤s.b):=by
    intro s hs
    simp only [List.mem_cons,List.not_mem_nil,or_false] at hs
    subst hs
    exact ⟨Side.below (w:=_) (Own.box (box_new2 w _ _) rfl) hb1,by simp,by simp,by simp⟩
  have H1:=Lib.hid (bTrans (bAlloc (bAlloc (Below.refl w.heap.size w) _) _) hb1)
  have hf':=hf.rebase (show w.heap.size+2≤_ by simp)
  have ho:=Lib.hid ho
  have hf:=Lib.hid hf'
  clear hf' hb1
  have hqn:v1.q.n=c.queue.length:=by have h1:=ho.out.q.len;rw [List.length_map] at h1;exact h1.symm
  have hnn:v1.n.n=c.net.length:=by have h1:=ho.out.n.len;rw [List.length_map] at h1;exact h1.symm
  have han:v1.a.n=c.acks.length:=by have h1:=ho.out.a.len;rw [List.length_map] at h1;exact h1.symm
  have HQN:=Lib.hid hqn;have HNN:=Lib.hid hnn;have HAN:=Lib.hid han
  clear hqn hnn han
  · have hE:Hid (moveC c mv at_=c):=moveC_out h7
    have n1:¬ mv=1:=by omega
    have n2:¬ mv=2:=by omega
    have n3:¬ mv=3:=by omega
    have n4:¬ mv=4:=by omega
    have n5:¬ mv=5:=by omega
    have n6:¬ mv=6:=by omega
    have n7:¬ mv=7:=by omega
    clear h7
    have tok:True:=trivial
    go_wp2_with (have _t:=tok;refine wpList_store_elem rfl 84 (.tmp 3) (.tmp 9) rfl 0 84 6 1 1 w.heap.size 0 0 rfl _ rfl _ (cChan v1 c.base c.expected) rfl rfl rfl (one_of rfl) sz_Chan hbx.out (by omega) ?_;clear tok _t;intro w2 hx2 hg2;have CB1:=Lib.hid (CB.start3 (sd:=[⟨w.heap.size+1,84,zC⟩]) ho.out hf.out H1.out (Nat.le_refl _) (by omega) hx2 hg2 hsd.out);obtain ⟨x0,x1,x2,x3,x4,x5,xf,xz⟩:=CB.at6 CB1.out;obtain ⟨r0,r1,r2,r3,r4,r5,rf,rz⟩:=CB.res6 CB1.out (Upd.refl [] _) (fun q hq=>by cases hq) (b:=w.heap.size+1) (t:=84) (by simp);clear hx2 hg2)
    refine bodyPost_ret (v:=vChan v1 c.base c.expected) (by simp [*,results,Tryz.results89,go_sem]) rfl ?_
    rw [hE.out]
    exact SPost.mk (b0:=0) (CB.fin CB1.out (s:=⟨w.heap.size+1,84,zC⟩) (by simp) (((((((Upd.refl _ _).set_in (by simp) _).set_in (by simp) _).set_in (by simp) _).set_in (by simp) _).set_in (by simp) _).set_in (by simp) _))
end Go.Proofs.YtdfemnffpaopfaaGreatDoor
