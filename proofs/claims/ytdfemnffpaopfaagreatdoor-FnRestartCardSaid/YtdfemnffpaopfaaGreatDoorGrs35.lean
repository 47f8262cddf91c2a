/- Texts of this proof, one behind the other: ChnC. -/
import Derived.Deep.RegionLaw
import Derived.BigRegion
import Derived.Test.YtdfemnffpaopfaaGreatDoorGrs33
import Derived.Test.YtdfemnffpaopfaaGreatDoorGrs34
namespace Go.Proofs.YtdfemnffpaopfaaGreatDoor
open Go.RowKit
set_option linter.unusedVariables false
set_option linter.unusedSimpArgs false
set_option maxHeartbeats 1000000
set_option maxRecDepth 100000
theorem Own.drewC {w:World} {B e sz n c:Nat} {A:Option Addr} {css:List (List Value)} (h:Own w B e sz A n c css):Own w.drew B e sz A n c css:=h.keep fun _ _=>rfl
theorem Row.nilC (w:World) (A:Option Addr) (sz:Nat):Row w A 0 sz []:=⟨rfl,fun i cs h=>by simp at h⟩
theorem Row.dropC {α:Type} {w:World} {g off n sz:Nat} {l:List α} {c:α→List Value} (h:Row w (some ⟨g,off,none⟩) n sz (l.map c)) {k:Nat} (hk:k≤n):Row w (some ⟨g,off+k * sz,none⟩) (n - k) sz ((l.drop k).map c):=by
  have hl:l.length=n:=h.len
  refine ⟨by simp [hl],fun i cs hi=>⟨g,off+k * sz,rfl,fun j v hj=>?_⟩⟩
  have h1:(l.map c)[k+i]? = some cs:=by rw [← hi,List.map_drop,List.getElem?_drop]
  obtain ⟨g',off',hA,hc⟩:=h.2 (k+i) cs h1
  simp only [Option.some.injEq,Addr.mk.injEq,and_true] at hA
  obtain ⟨rfl,rfl⟩:=hA
  have:=hc j v hj
  rw [Nat.add_mul] at this
  rw [← this];congr 2;omega
theorem dropK_cells (l:List Packet) (k:Nat):(dropK l k).map Packet.cells=(l.take k).map Packet.cells++(l.drop (k+1)).map Packet.cells:=by simp [dropK]
theorem Row.takeK {w:World} {A:Option Addr} {n:Nat} {l:List Packet} (h:Row w A n 4 (l.map Packet.cells)) {k:Nat} (hk:k≤n):Row w A k 4 ((l.take k).map Packet.cells):=by
  have hl:l.length=n:=by have:=h.len.out;simpa using this
  refine ⟨by simp [hl];omega,fun i cs hi=>?_⟩
  have hik:i < k:=by
    have:=(List.getElem?_eq_some_iff.1 hi).1
    simp at this;omega
  refine h.2 i cs ?_
  rw [← hi,List.map_take,List.getElem?_take]
  simp [hik]
theorem tmod_sel (a:Int) (n:Nat) (hn:0 < n):(if a.tmod n < 0 then a.tmod n+n else a.tmod n)=(selK a n:Int):=by
  unfold selK
  have h1:=Int.emod_nonneg a (show (n:Int)≠0 by omega)
  rw [Int.toNat_of_nonneg h1]
  have h2:=Int.emod_lt_of_pos a (show (0:Int) < n by omega)
  have h3:=Int.tmod_add_mul_tdiv a n
  by_cases h0:0≤a
  · rw [Int.tmod_eq_emod_of_nonneg h0,if_neg (by omega)]
  · have hb:-(n:Int) < a.tmod n:=by
      have:=Int.neg_tmod a n
      have h5:=Int.emod_lt_of_pos (-a) (show (0:Int) < n by omega)
      have h6:(-a).tmod n=(-a) % n:=Int.tmod_eq_emod_of_nonneg (by omega)
      omega
    have hle:a.tmod n≤0:=by
      have:=Int.neg_tmod a n
      have h5:=Int.emod_nonneg (-a) (show (n:Int)≠0 by omega)
      have h6:(-a).tmod n=(-a) % n:=Int.tmod_eq_emod_of_nonneg (by omega)
      omega
    have hd:(a.tmod n) % n=a % n:=by
      have e:a=a.tmod n+n * (a.tdiv n):=h3.symm
      conv=>rhs;rw [e]
      rw [Int.add_mul_emod_self_left]
    by_cases hz:a.tmod n < 0
    · rw [if_pos hz,← hd]
      have e:a.tmod n % n=(a.tmod n+n * 1) % n:=by rw [Int.add_mul_emod_self_left]
      rw [e,Int.mul_one]
      exact (Int.emod_eq_of_lt (by omega) (by omega)).symm
    · have hz0:a.tmod n=0:=by omega
      rw [if_neg hz,← hd,hz0]
      simp
theorem spec_put_k (v:Sv) (l:List Packet) (p:Packet) (w:World) (hm:l.length≤4194304) (ho:Own w 0 164 4 v.A v.n v.c (l.map Packet.cells)) :
    Calls Tryz.prog 164 #[.slice v.A v.n v.c,vPacket p.ack p.number p.text p.sum] w fun e w'=>∃ v':Sv,e=.returned (.slice v'.A v'.n v'.c)∧Own w' 0 164 4 v'.A v'.n v'.c ((putK l p).map Packet.cells)∧Upd (obl v.A) w w'∧Moved w v v':=by
  obtain ⟨j0,hjj,hr0,hr1,hr2⟩:=info_parts info_Packet
  obtain ⟨A,n,c⟩:=v
  dsimp only at *
  have hn:l.length=n:=by have:=ho.len;simpa using this
  by_cases h12:12≤n
  · have hd:(12:Int)≤(n:Int):=by omega
    have e:putK l p=l:=by unfold putK;rw [if_pos (by omega)]
    go_enter Tryz.func164,Tryz.ntmps164
    go_wp2_with fail
    go_ret
    exact ⟨⟨A,n,c⟩,rfl,by rw [e];exact ho.alloc_ _,(Upd.refl _ _).alloc_ _,Moved.refl _ _⟩
  · have hd:¬ (12:Int)≤(n:Int):=by omega
    have e:putK l p=l++[p]:=by unfold putK;rw [if_neg (by omega)]
    go_enter Tryz.func164,Tryz.ntmps164
    go_wp2_with (at_builtin;refine wpList_append rfl (.tmp 9) (.tmp 11) 82 rfl 0 164 4 40 j0 _ Tryz.underlying82 hjj hr0 hr1 hr2 rfl (by omega) A n c _ rfl ((ho.alloc_ _).alloc_ _) _ 1 1 [p.cells] rfl (Row.new1' _ _ _ 4 _ (by simp)) (by simp [Packet.cells]) (by simp [Packet.cells,Value.oneCell']) (by simp only [maxLen];omega) (by omega) (Nat.zero_le _) ?_;intro A2 c2 w2 ho2 hg2 hat2)
    go_ret
    refine ⟨⟨A2,n+1,c2⟩,rfl,by first | (rw [e];simpa using ho2) | simpa using ho2,(((Upd.refl _ _).alloc_ _).alloc_ _).trans (Upd.of_row hg2),fun q hq=>?_⟩
    rcases hat2 with h1 | h1
    · exact .inl (mem_obl.2 (h1 ▸ mem_obl.1 hq))
    · right
      have h2:=mem_obl.1 hq
      rw [h1] at h2
      have:=Option.some.inj h2
      simp at this;omega
theorem spec_sel_k (a:Int) (n:Nat) (w:World) (h0:0 < n) (hn:n≤4194304) (ha:-9223372036854775808≤a∧a≤9223372036854775807) :
    Calls Tryz.prog 166 #[.int .i64 a,.int .i64 (n:Int)] w fun e w'=>e=rInt (selK a n)∧w=w':=by
  have hs:=tmod_sel a n h0
  have hlt:=selK_lt (a:=a) h0
  have hnz:¬ (n:Int)=0:=by omega
  have hab:-(n:Int)≤a.tmod n∧a.tmod n < n:=by
    by_cases hc:a.tmod n < 0
    · rw [if_pos hc] at hs;omega
    · rw [if_neg hc] at hs;omega
  generalize hS:(selK a n:Int)=S at *
  have HS:=Lib.hid hs
  clear hs hS
  generalize hT:a.tmod (n:Int)=T at *
  have hw:IntKind.i64.wrap T=T:=by rw [IntKind.wrap_i64];omega
  have hw2:IntKind.i64.wrap (T+n)=T+n:=by rw [IntKind.wrap_i64];omega
  by_cases hc:T < 0
  · have hv:T+(n:Int)=S:=by have:=HS.out;rw [if_pos hc] at this;exact this
    have HV:=Lib.hid hv
    clear hv HS
    go_enter Tryz.func166,Tryz.ntmps166
    go_wp2
    go_ret
    refine ⟨?_,rfl⟩
    rw [← HV.out]
    rfl
  · have hv:T=S:=by have:=HS.out;rw [if_neg hc] at this;exact this
    have HV:=Lib.hid hv
    clear hv HS
    go_enter Tryz.func166,Tryz.ntmps166
    go_wp2
    go_ret
    refine ⟨?_,rfl⟩
    rw [← HV.out]
    rfl
theorem spec_pkt_false (n:Int) (s:ByteArray) (w:World) (h0:-9223372036854775808≤n) (h1:n≤9223372036854775807) (hs:s.size≤4194304) :
    Calls Tryz.prog 165 #[.bool false,.int .i64 n,.string s] w fun e w'=>e=.returned (vPacket (newPkt false n s).ack (newPkt false n s).number (newPkt false n s).text (newPkt false n s).sum)∧Below w.heap.size w w':=by
  have HH:=Lib.hid (spec_PacketSum_false n s 0 (((w.alloc (.cells #[.bool false,.int .i64 0,.string ⟨#[]⟩,.int .i64 0] 164)).alloc (.cells #[.bool false,.int .i64 n,.string s,.int .i64 0] 164))) h0 h1 hs)
  go_enter Tryz.func165,Tryz.ntmps165
  go_wp2_with fail
  refine Calls.mono HH.out ?_
  rintro e w1 ⟨rfl,hb1⟩
  have k0:=bBox hb1 w.heap.size (by simp;omega)
  have f0:=bBoxF hb1 w.heap.size (by simp;omega)
  have k1:=bBox hb1 (w.heap.size+1) (by simp)
  have f1:=bBoxF hb1 (w.heap.size+1) (by simp)
  have z1:w.heap.size+2≤w1.heap.size:=bsz2 hb1
  clear HH
  generalize hP:pktSum n s false=P at *
  go_wp2_with fail
  refine bodyPost_ret (v:=vPacket false n s P) (by simp [*,results,Tryz.results165,go_sem]) rfl ⟨by simp [newPkt,hP],?_⟩
  exact bUpd (bTrans (bAlloc (bAlloc (Below.refl w.heap.size w) _) _) hb1) (fs:=[w.heap.size,w.heap.size+1]) (by repeat (first | with_reducible exact Upd.refl _ _ | ((with_reducible refine Upd.set_in ?_ ?_ _);rotate_left;simp))) (by simp)
theorem spec_drop_k (v:Sv) (l:List Packet) (k:Nat) (w:World) (hm:l.length≤4194304) (hk:k < l.length) (ho:Own w 0 164 4 v.A v.n v.c (l.map Packet.cells)) :
    Calls Tryz.prog 167 #[.slice v.A v.n v.c,.int .i64 (k:Int)] w fun e w'=>∃ v':Sv,e=.returned (.slice v'.A v'.n v'.c)∧Own w' w.heap.size 164 4 v'.A v'.n v'.c ((dropK l k).map Packet.cells)∧Below w.heap.size w w':=by
  obtain ⟨j0,hjj,hr0,hr1,hr2⟩:=info_parts info_Packet
  obtain ⟨A,n,c⟩:=v
  dsimp only at *
  have hn:l.length=n:=by have:=ho.len;simpa using this
  obtain ⟨hnc,hcm⟩:=ho.nc
  unfold maxLen at hcm
  rcases ho.cases with ⟨_,h0,_⟩ | ⟨g,rfl,_,hgl,_⟩
  · omega
  have hk0:(0:Int)≤(k:Int):=by omega
  have hkc:(k:Int)≤(c:Int):=by omega
  have hkw:IntKind.i64.wrap ((k:Int)+1)=(k:Int)+1:=by rw [IntKind.wrap_i64];omega
  have hk1:(k:Int)+1≤(n:Int):=by omega
  have hkn:(n:Int)≤(c:Int):=by omega
  have hk10:(0:Int)≤(k:Int)+1:=by omega
  have hrow:=Lib.hid ho.row
  have hDK:=Lib.hid (dropK_cells l k)
  by_cases hcc:k+1=c
  · subst hcc
    obtain rfl:n=k+1:=by omega
    have hkk:¬ (k:Int)+1 < ((k+1:Nat):Int):=by omega
    have hkc3:(k:Int)≤(k:Int)+1:=by omega
    go_enter Tryz.func167,Tryz.ntmps167
    go_wp2_with fail
    go_region_law (first
      | (refine step_append rfl (.tmp 5) (.tmp 8) 82 rfl w.heap.size 164 4 40 j0 _ Tryz.underlying82 hjj hr0 hr1 hr2 rfl (by omega) (some ⟨w.heap.size,0,none⟩) 0 0 [] rfl (Own.drewC (Own.made' w 164 4 (Nat.le_refl _) rfl)) (some ⟨g,0,none⟩) k (k+1) ((l.take k).map Packet.cells) rfl (Row.below (Row.takeK hrow.out (by omega)) (bDrew (bAlloc (Below.refl _ _) _))) one_K cell_K (by simp only [maxLen];omega) (by omega) (by simp) ?_;intro A4 c4 w4 ho4 hg4 hat4;simp only [Nat.zero_add,List.nil_append] at ho4;have h4:Below w.heap.size w w4:=bGrown (bDrew (bAlloc (Below.refl _ _) _)) hg4 (fun q hq=>by simp [ob] at hq;omega))
      | (refine step_append rfl (.tmp 9) (.tmp 13) 82 rfl w.heap.size 164 4 40 j0 _ Tryz.underlying82 hjj hr0 hr1 hr2 rfl (by omega) A4 k c4 _ rfl ho4 (some ⟨g,0,none⟩) 0 0 [] rfl (Row.nilC _ _ _) (by simp) (by simp) (by simp only [maxLen];omega) (by omega) h4.size ?_;intro A5 c5 w5 ho5 hg5 hat5))
    all_goals
      have H5:=bGrown h4 hg5 (fun q hq=>(ho4.lt q hq).1)
      go_wp2_with fail
      go_ret
      exact ⟨⟨A5,k+0,c5⟩,rfl,by rw [hDK.out];rw [show l.drop (k+1)=[] from List.drop_of_length_le (by omega)];simpa using ho5,H5⟩
  · have hcc2:(k:Int)+1 < (c:Int):=by omega
    have hce:¬ c=k+1:=by omega
    go_enter Tryz.func167,Tryz.ntmps167
    go_wp2_with fail
    go_region_law (first
      | (refine step_append rfl (.tmp 5) (.tmp 8) 82 rfl w.heap.size 164 4 40 j0 _ Tryz.underlying82 hjj hr0 hr1 hr2 rfl (by omega) (some ⟨w.heap.size,0,none⟩) 0 0 [] rfl (Own.drewC (Own.made' w 164 4 (Nat.le_refl _) rfl)) (some ⟨g,0,none⟩) k c ((l.take k).map Packet.cells) rfl (Row.below (Row.takeK hrow.out (by omega)) (bDrew (bAlloc (Below.refl _ _) _))) one_K cell_K (by simp only [maxLen];omega) (by omega) (by simp) ?_;intro A4 c4 w4 ho4 hg4 hat4;simp only [Nat.zero_add,List.nil_append] at ho4;have h4:Below w.heap.size w w4:=bGrown (bDrew (bAlloc (Below.refl _ _) _)) hg4 (fun q hq=>by simp [ob] at hq;omega))
      | (refine step_append rfl (.tmp 9) (.tmp 13) 82 rfl w.heap.size 164 4 40 j0 _ Tryz.underlying82 hjj hr0 hr1 hr2 rfl (by omega) A4 k c4 _ rfl ho4 (some ⟨g,(k+1) * 4,none⟩) (n - (k+1)) (c - (k+1)) ((l.drop (k+1)).map Packet.cells) rfl (Row.below (by have:=Row.dropC (k:=k+1) hrow.out (by omega);simpa using this) h4) one_K cell_K (by simp only [maxLen];omega) (by omega) h4.size ?_;intro A5 c5 w5 ho5 hg5 hat5))
    all_goals
      have H5:=bGrown h4 hg5 (fun q hq=>(ho4.lt q hq).1)
      go_wp2_with fail
      go_ret
      exact ⟨⟨A5,k+(n - (k+1)),c5⟩,rfl,by rw [hDK.out];exact ho5,H5⟩
theorem impl_put_k (v:Sv) (l:List Packet) (p:Packet) (w:World) (hm:l.length≤4194304) (ho:Own w 0 164 4 v.A v.n v.c (l.map Packet.cells)) :
    Calls Tryz.prog 134 #[.slice v.A v.n v.c,vPacket p.ack p.number p.text p.sum] w fun e w'=>∃ v':Sv,e=.returned (.slice v'.A v'.n v'.c)∧Own w' 0 164 4 v'.A v'.n v'.c ((putK l p).map Packet.cells)∧Upd (obl v.A) w w'∧Moved w v v':=by
  obtain ⟨j0,hjj,hr0,hr1,hr2⟩:=info_parts info_Packet
  obtain ⟨A,n,c⟩:=v
  dsimp only at *
  have hn:l.length=n:=by have:=ho.len;simpa using this
  by_cases h12:12≤n
  · have hd:(12:Int)≤(n:Int):=by omega
    have e:putK l p=l:=by unfold putK;rw [if_pos (by omega)]
    go_enter Tryz.func134,Tryz.ntmps134
    go_wp2_with fail
    go_ret
    exact ⟨⟨A,n,c⟩,rfl,by rw [e];exact ho.alloc_ _,(Upd.refl _ _).alloc_ _,Moved.refl _ _⟩
  · have hd:¬ (12:Int)≤(n:Int):=by omega
    have e:putK l p=l++[p]:=by unfold putK;rw [if_neg (by omega)]
    go_enter Tryz.func134,Tryz.ntmps134
    go_wp2_with (at_builtin;refine wpList_append rfl (.tmp 9) (.tmp 11) 82 rfl 0 164 4 40 j0 _ Tryz.underlying82 hjj hr0 hr1 hr2 rfl (by omega) A n c _ rfl ((ho.alloc_ _).alloc_ _) _ 1 1 [p.cells] rfl (Row.new1' _ _ _ 4 _ (by simp)) (by simp [Packet.cells]) (by simp [Packet.cells,Value.oneCell']) (by simp only [maxLen];omega) (by omega) (Nat.zero_le _) ?_;intro A2 c2 w2 ho2 hg2 hat2)
    go_ret
    refine ⟨⟨A2,n+1,c2⟩,rfl,by first | (rw [e];simpa using ho2) | simpa using ho2,(((Upd.refl _ _).alloc_ _).alloc_ _).trans (Upd.of_row hg2),fun q hq=>?_⟩
    rcases hat2 with h1 | h1
    · exact .inl (mem_obl.2 (h1 ▸ mem_obl.1 hq))
    · right
      have h2:=mem_obl.1 hq
      rw [h1] at h2
      have:=Option.some.inj h2
      simp at this;omega
theorem impl_sel_k (a:Int) (n:Nat) (w:World) (h0:0 < n) (hn:n≤4194304) (ha:-9223372036854775808≤a∧a≤9223372036854775807) :
    Calls Tryz.prog 137 #[.int .i64 a,.int .i64 (n:Int)] w fun e w'=>e=rInt (selK a n)∧w=w':=by
  have hs:=tmod_sel a n h0
  have hlt:=selK_lt (a:=a) h0
  have hnz:¬ (n:Int)=0:=by omega
  have hab:-(n:Int)≤a.tmod n∧a.tmod n < n:=by
    by_cases hc:a.tmod n < 0
    · rw [if_pos hc] at hs;omega
    · rw [if_neg hc] at hs;omega
  generalize hS:(selK a n:Int)=S at *
  have HS:=Lib.hid hs
  clear hs hS
  generalize hT:a.tmod (n:Int)=T at *
  have hw:IntKind.i64.wrap T=T:=by rw [IntKind.wrap_i64];omega
  have hw2:IntKind.i64.wrap (T+n)=T+n:=by rw [IntKind.wrap_i64];omega
  by_cases hc:T < 0
  · have hv:T+(n:Int)=S:=by have:=HS.out;rw [if_pos hc] at this;exact this
    have HV:=Lib.hid hv
    clear hv HS
    go_enter Tryz.func137,Tryz.ntmps137
    go_wp2
    go_ret
    refine ⟨?_,rfl⟩
    rw [← HV.out]
    rfl
  · have hv:T=S:=by have:=HS.out;rw [if_neg hc] at this;exact this
    have HV:=Lib.hid hv
    clear hv HS
    go_enter Tryz.func137,Tryz.ntmps137
    go_wp2
    go_ret
    refine ⟨?_,rfl⟩
    rw [← HV.out]
    rfl
theorem impl_pkt_false (n:Int) (s:ByteArray) (w:World) (h0:-9223372036854775808≤n) (h1:n≤9223372036854775807) (hs:s.size≤4194304) (hT:Tab w) :
    Calls Tryz.prog 135 #[.bool false,.int .i64 n,.string s] w fun e w'=>e=.returned (vPacket (newPkt false n s).ack (newPkt false n s).number (newPkt false n s).text (newPkt false n s).sum)∧Below w.heap.size w w':=by
  have HH:=Lib.hid (impl_PacketSum_false n s 0 (((w.alloc (.cells #[.bool false,.int .i64 0,.string ⟨#[]⟩,.int .i64 0] 164)).alloc (.cells #[.bool false,.int .i64 n,.string s,.int .i64 0] 164))) h0 h1 hs (hT.below (bAlloc (bAlloc (Below.refl _ _) _) _)))
  go_enter Tryz.func135,Tryz.ntmps135
  go_wp2_with fail
  refine Calls.mono HH.out ?_
  rintro e w1 ⟨rfl,hb1⟩
  have k0:=bBox hb1 w.heap.size (by simp;omega)
  have f0:=bBoxF hb1 w.heap.size (by simp;omega)
  have k1:=bBox hb1 (w.heap.size+1) (by simp)
  have f1:=bBoxF hb1 (w.heap.size+1) (by simp)
  have z1:w.heap.size+2≤w1.heap.size:=bsz2 hb1
  clear HH
  generalize hP:pktSum n s false=P at *
  go_wp2_with fail
  refine bodyPost_ret (v:=vPacket false n s P) (by simp [*,results,Tryz.results135,go_sem]) rfl ⟨by simp [newPkt,hP],?_⟩
  exact bUpd (bTrans (bAlloc (bAlloc (Below.refl w.heap.size w) _) _) hb1) (fs:=[w.heap.size,w.heap.size+1]) (by repeat (first | with_reducible exact Upd.refl _ _ | ((with_reducible refine Upd.set_in ?_ ?_ _);rotate_left;simp))) (by simp)
theorem impl_pkt_true (n:Int) (s:ByteArray) (w:World) (h0:-9223372036854775808≤n) (h1:n≤9223372036854775807) (hs:s.size≤4194304) (hT:Tab w) :
    Calls Tryz.prog 135 #[.bool true,.int .i64 n,.string s] w fun e w'=>e=.returned (vPacket (newPkt true n s).ack (newPkt true n s).number (newPkt true n s).text (newPkt true n s).sum)∧Below w.heap.size w w':=by
  have HH:=Lib.hid (impl_PacketSum_true n s 0 (((w.alloc (.cells #[.bool false,.int .i64 0,.string ⟨#[]⟩,.int .i64 0] 164)).alloc (.cells #[.bool true,.int .i64 n,.string s,.int .i64 0] 164))) h0 h1 hs (hT.below (bAlloc (bAlloc (Below.refl _ _) _) _)))
  go_enter Tryz.func135,Tryz.ntmps135
  go_wp2_with fail
  refine Calls.mono HH.out ?_
  rintro e w1 ⟨rfl,hb1⟩
  have k0:=bBox hb1 w.heap.size (by simp;omega)
  have f0:=bBoxF hb1 w.heap.size (by simp;omega)
  have k1:=bBox hb1 (w.heap.size+1) (by simp)
  have f1:=bBoxF hb1 (w.heap.size+1) (by simp)
  have z1:w.heap.size+2≤w1.heap.size:=bsz2 hb1
  clear HH
  generalize hP:pktSum n s true=P at *
  go_wp2_with fail
  refine bodyPost_ret (v:=vPacket true n s P) (by simp [*,results,Tryz.results135,go_sem]) rfl ⟨by simp [newPkt,hP],?_⟩
  exact bUpd (bTrans (bAlloc (bAlloc (Below.refl w.heap.size w) _) _) hb1) (fs:=[w.heap.size,w.heap.size+1]) (by repeat (first | with_reducible exact Upd.refl _ _ | ((with_reducible refine Upd.set_in ?_ ?_ _);rotate_left;simp))) (by simp)
theorem impl_drop_k (v:Sv) (l:List Packet) (k:Nat) (w:World) (hm:l.length≤4194304) (hk:k < l.length) (ho:Own w 0 164 4 v.A v.n v.c (l.map Packet.cells)) :
    Calls Tryz.prog 177 #[.slice v.A v.n v.c,.int .i64 (k:Int)] w fun e w'=>∃ v':Sv,e=.returned (.slice v'.A v'.n v'.c)∧Own w' w.heap.size 164 4 v'.A v'.n v'.c ((dropK l k).map Packet.cells)∧Below w.heap.size w w':=by
  obtain ⟨j0,hjj,hr0,hr1,hr2⟩:=info_parts info_Packet
  obtain ⟨A,n,c⟩:=v
  dsimp only at *
  have hn:l.length=n:=by have:=ho.len;simpa using this
  obtain ⟨hnc,hcm⟩:=ho.nc
  unfold maxLen at hcm
  rcases ho.cases with ⟨_,h0,_⟩ | ⟨g,rfl,_,hgl,_⟩
  · omega
  have hk0:(0:Int)≤(k:Int):=by omega
  have hkc:(k:Int)≤(c:Int):=by omega
  have hkw:IntKind.i64.wrap ((k:Int)+1)=(k:Int)+1:=by rw [IntKind.wrap_i64];omega
  have hk1:(k:Int)+1≤(n:Int):=by omega
  have hkn:(n:Int)≤(c:Int):=by omega
  have hk10:(0:Int)≤(k:Int)+1:=by omega
  have hrow:=Lib.hid ho.row
  have hDK:=Lib.hid (dropK_cells l k)
  by_cases hcc:k+1=c
  · subst hcc
    obtain rfl:n=k+1:=by omega
    have hkk:¬ (k:Int)+1 < ((k+1:Nat):Int):=by omega
    have hkc3:(k:Int)≤(k:Int)+1:=by omega
    go_enter Tryz.func177,Tryz.ntmps177
    go_wp2_with fail
    go_region_law (first
      | (refine step_append rfl (.tmp 5) (.tmp 8) 82 rfl w.heap.size 164 4 40 j0 _ Tryz.underlying82 hjj hr0 hr1 hr2 rfl (by omega) (some ⟨w.heap.size,0,none⟩) 0 0 [] rfl (Own.drewC (Own.made' w 164 4 (Nat.le_refl _) rfl)) (some ⟨g,0,none⟩) k (k+1) ((l.take k).map Packet.cells) rfl (Row.below (Row.takeK hrow.out (by omega)) (bDrew (bAlloc (Below.refl _ _) _))) one_K cell_K (by simp only [maxLen];omega) (by omega) (by simp) ?_;intro A4 c4 w4 ho4 hg4 hat4;simp only [Nat.zero_add,List.nil_append] at ho4;have h4:Below w.heap.size w w4:=bGrown (bDrew (bAlloc (Below.refl _ _) _)) hg4 (fun q hq=>by simp [ob] at hq;omega))
      | (refine step_append rfl (.tmp 9) (.tmp 13) 82 rfl w.heap.size 164 4 40 j0 _ Tryz.underlying82 hjj hr0 hr1 hr2 rfl (by omega) A4 k c4 _ rfl ho4 (some ⟨g,0,none⟩) 0 0 [] rfl (Row.nilC _ _ _) (by simp) (by simp) (by simp only [maxLen];omega) (by omega) h4.size ?_;intro A5 c5 w5 ho5 hg5 hat5))
    all_goals
      have H5:=bGrown h4 hg5 (fun q hq=>(ho4.lt q hq).1)
      go_wp2_with fail
      go_ret
      exact ⟨⟨A5,k+0,c5⟩,rfl,by rw [hDK.out];rw [show l.drop (k+1)=[] from List.drop_of_length_le (by omega)];simpa using ho5,H5⟩
  · have hcc2:(k:Int)+1 < (c:Int):=by omega
    have hce:¬ c=k+1:=by omega
    go_enter Tryz.func177,Tryz.ntmps177
    go_wp2_with fail
    go_region_law (first
      | (refine step_append rfl (.tmp 5) (.tmp 8) 82 rfl w.heap.size 164 4 40 j0 _ Tryz.underlying82 hjj hr0 hr1 hr2 rfl (by omega) (some ⟨w.heap.size,0,none⟩) 0 0 [] rfl (Own.drewC (Own.made' w 164 4 (Nat.le_refl _) rfl)) (some ⟨g,0,none⟩) k c ((l.take k).map Packet.cells) rfl (Row.below (Row.takeK hrow.out (by omega)) (bDrew (bAlloc (Below.refl _ _) _))) one_K cell_K (by simp only [maxLen];omega) (by omega) (by simp) ?_;intro A4 c4 w4 ho4 hg4 hat4;simp only [Nat.zero_add,List.nil_append] at ho4;have h4:Below w.heap.size w w4:=bGrown (bDrew (bAlloc (Below.refl _ _) _)) hg4 (fun q hq=>by simp [ob] at hq;omega))
      | (refine step_append rfl (.tmp 9) (.tmp 13) 82 rfl w.heap.size 164 4 40 j0 _ Tryz.underlying82 hjj hr0 hr1 hr2 rfl (by omega) A4 k c4 _ rfl ho4 (some ⟨g,(k+1) * 4,none⟩) (n - (k+1)) (c - (k+1)) ((l.drop (k+1)).map Packet.cells) rfl (Row.below (by have:=Row.dropC (k:=k+1) hrow.out (by omega);simpa using this) h4) one_K cell_K (by simp only [maxLen];omega) (by omega) h4.size ?_;intro A5 c5 w5 ho5 hg5 hat5))
    all_goals
      have H5:=bGrown h4 hg5 (fun q hq=>(ho4.lt q hq).1)
      go_wp2_with fail
      go_ret
      exact ⟨⟨A5,k+(n - (k+1)),c5⟩,rfl,by rw [hDK.out];exact ho5,H5⟩
end Go.Proofs.YtdfemnffpaopfaaGreatDoor
