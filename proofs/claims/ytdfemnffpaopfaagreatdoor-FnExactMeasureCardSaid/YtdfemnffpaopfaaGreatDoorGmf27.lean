/- Texts of this proof, one behind the other: PsJrnS, PsApp, PsBunK, Rpl, ChnP, ChnM, RplS. -/
import Derived.Test.YtdfemnffpaopfaaGreatDoorGmf3
import Derived.Test.YtdfemnffpaopfaaGreatDoorGmf8
import Derived.Test.YtdfemnffpaopfaaGreatDoorGmf9
import Derived.Test.YtdfemnffpaopfaaGreatDoorGmf13
import Derived.Test.YtdfemnffpaopfaaGreatDoorGmf23
import Derived.Test.YtdfemnffpaopfaaGreatDoorGmf25
import Derived.Test.YtdfemnffpaopfaaGreatDoorGmf26
import Derived.Test.YtdfemnffpaopfaaGreatDoorGmf28
namespace Go.Proofs.YtdfemnffpaopfaaGreatDoor
open Go.RowKit
set_option linter.unusedVariables false
set_option linter.unusedSimpArgs false
set_option maxHeartbeats 4000000
set_option maxRecDepth 100000
theorem spec_l27Read_c (s:ByteArray) (w:World) (hs:s.size≤4194304):Calls Tryz.prog 108 #[.string s] w fun e w'=>RjPost w s e w':=by
  obtain ⟨i0,hii,hq0,hq1,hq2⟩:=info_parts info_EntryJ
  have hsl:=bsize s
  have HSL:=Lib.hid hsl
  clear hsl
  go_enter Tryz.func108,Tryz.ntmps108
  go_wp2_with fail
  go_loopw [5,6,7] (fun lv nv qv wr=>∃ (l:List Entry) (A:Option Addr) (c n:Nat) (q:Int),lv=.slice A l.length c∧nv=.int .i64 (n:Int)∧qv=.int .i64 q∧RjInv s.data.toList l n q∧inR q 0 65520=true∧Own wr w.heap.size 42 10 A l.length c (l.map Entry.cells)∧Below w.heap.size w wr) (fun lv _ _ _=>60 - lenV lv)
  case atStart=>exact ⟨[],_,0,0,1,rfl,rfl,rfl,RjInv.start _,by decide,Own.made0 w _ 10 (Nat.le_refl _),bAlloc (Below.refl _ _) _⟩
  case round =>
    obtain ⟨l,A,c,n,q,rfl,rfl,rfl,hi,hq,ho,hb⟩:=hrel
    have HI:=Lib.hid hi
    have HO:=Lib.hid ho
    have HB:=Lib.hid hb
    have HQ:=Lib.hid hq
    have hl60:=hi.1
    have hns:n≤s.size:=by have:=hi.2.1;have:=HSL.out;omega
    have hn0:(0:Int)≤(n:Int):=by omega
    have hn1:(n:Int)≤(s.size:Int):=by omega
    clear hi ho hb hq
    by_cases hlt:l.length < 60
    · have hltI:(l.length:Int) < 60:=by omega
      go_wp2_with fail
      go_loopw [8] (fun ev wr2=>∃ (j:Nat),ev=.int .i64 (j:Int)∧n≤j∧j≤s.size∧(∀ x∈(s.data.toList.drop n).take (j - n),isB 10 x=false)∧wr2=wr) (fun ev _=>s.size - (intOf ev).toNat)
      case atStart=>exact ⟨n,rfl,Nat.le_refl _,hns,by simp,rfl⟩
      case round =>
        obtain ⟨j,rfl,hnj,hjs,hno,rfl⟩:=hrel
        have HNO:=Lib.hid hno
        clear hno
        have hj0:(0:Int)≤(j:Int):=by omega
        by_cases hjl:j < s.size
        · have hj1:(j:Int) < (s.size:Int):=by omega
          by_cases hc:s[j]=10
          · have hcI:(s[j].toNat:Int)=10:=by rw [hc];rfl
            obtain ⟨ln,hln⟩:∃ ln,ln=(s.data.toList.drop n).take (j - n):=⟨_,rfl⟩
            obtain ⟨t,ht⟩:∃ t,t=s.data.toList.drop (j+1):=⟨_,rfl⟩
            have h1:s.data.toList.drop n=ln++10 :: t:=by
              have e1:=sdrop s hjl
              rw [hc,← ht] at e1
              have e2:=(List.take_append_drop (j - n) (s.data.toList.drop n)).symm
              rw [List.drop_drop,show n+(j - n)=j by omega,e1,← hln] at e2
              exact e2
            have hlnl:ln.length=j - n:=by
              rw [hln,List.length_take,List.length_drop,HSL.out];omega
            have hL1:(s.extract n j).data.toList=ln:=by rw [ext_list,hln]
            have hL2:(s.extract n (j+1)).data.toList=ln++[10]:=by
              rw [ext_list,h1,show j+1 - n=ln.length+1 by omega]
              simp [List.take_append,List.take_of_length_le]
            have hz1:(s.extract n j).size≤s.size:=by
              have:=bsize (s.extract n j)
              rw [hL1] at this;omega
            have H2:=Lib.hid (show ∀ x∈ln,isB 10 x=false by rw [hln];exact HNO.out)
            have H1:=Lib.hid h1
            have HL1:=Lib.hid hL1
            have HL2:=Lib.hid hL2
            have HLN:=Lib.hid hlnl
            have hne:¬ (j:Int)=(s.size:Int):=by omega
            have hneb:((j:Int) == (s.size:Int))=false:=by simp only [beq_eq_false_iff_ne];omega
            have hnjI:(n:Int)≤(j:Int):=by omega
            have hnjI1:(n:Int)≤(j:Int)+1:=by omega
            have hj1s:(j:Int)+1≤(s.size:Int):=by omega
            clear hln ht h1 hlnl hL1 hL2 hc
            go_wp2_with fail
            refine Calls.mono (spec_l27Entry_c (s.extract n j) _ (by omega)) ?_
            rintro e w2_ ⟨en,rfl,hok,hres,hb2⟩
            rw [HL1.out] at hres
            obtain ⟨rm,eid,⟨fi,fk,ff,ft,⟨pt,px,py⟩,fw⟩⟩:=en
            rw [show vEntryE ⟨rm,eid,⟨fi,fk,ff,ft,⟨pt,px,py⟩,fw⟩⟩=vEntry rm eid fi fk ff ft pt px py fw from rfl]
            obtain ⟨k1,k2,k3,k4⟩:=hok
            have HB2:=Lib.hid (bTrans HB.out hb2)
            have HO2:=Lib.hid (HO.out.below hb2)
            have BXE:=Lib.hid (Bk.new w2_ [.bool rm,.int .i64 eid,.int .i64 fi,.int .i64 fk,.string ff,.string ft,.int .i64 pt,.int .i64 px,.int .i64 py,.int .i64 fw] 42 _ rfl)
            clear hb2
            by_cases hEnt:EntOf ln q ⟨rm,eid,⟨fi,fk,ff,ft,⟨pt,px,py⟩,fw⟩⟩
            · obtain ⟨y1,y2,y3,y4,y5⟩:=line_yes (t:=t) HL2.out hEnt
              rw [← H1.out] at y3
              have hnx:=HI.out.next hlt y3
              rw [y4,HLN.out,show n+(j - n+1)=j+1 by omega] at hnx
              have HNX:=Lib.hid hnx
              have HY1:=Lib.hid y1
              have hqn:=entSum_in ⟨rm,eid,⟨fi,fk,ff,ft,⟨pt,px,py⟩,fw⟩⟩ q
              have HQN:=Lib.hid hqn
              rw [y1] at y2 y5
              simp only at y2 y5
              obtain ⟨line,hline⟩:∃ x,x=entT ⟨rm,eid,⟨fi,fk,ff,ft,⟨pt,px,py⟩,fw⟩⟩ q:=⟨_,rfl⟩
              obtain ⟨sm,hsm⟩:∃ x,x=entSum ⟨rm,eid,⟨fi,fk,ff,ft,⟨pt,px,py⟩,fw⟩⟩ q:=⟨_,rfl⟩
              rw [← hsm] at HNX HQN
              rw [← hline] at y2 y5
              rw [← hline,← hsm] at HY1
              clear y1 y3 y4 hEnt hres hqn hline hsm hnx
              go_wp2_with (first
                | (go_at_call 119;refine (spec_FormatEntry_c rm eid fi fk ff ft pt px py fw q _ ⟨k3,k4⟩ k1 k2).mono ?_;rw [HY1.out];rintro e w3_ ⟨rfl,hb3⟩;have bx3:=BXE.out.below hb3;have r0:=bx3.bx.cells 0 _ rfl;have r1:=bx3.bx.cells 1 _ rfl;have r2:=bx3.bx.cells 2 _ rfl;have r3:=bx3.bx.cells 3 _ rfl;have r4:=bx3.bx.cells 4 _ rfl;have r5:=bx3.bx.cells 5 _ rfl;have r6:=bx3.bx.cells 6 _ rfl;have r7:=bx3.bx.cells 7 _ rfl;have r8:=bx3.bx.cells 8 _ rfl;have r9:=bx3.bx.cells 9 _ rfl)
                | (at_builtin;refine wpList_append rfl (.tmp 61) (.tmp 63) 96 rfl w.heap.size 42 10 96 i0 _ Tryz.underlying96 hii hq0 hq1 hq2 rfl (by omega) A l.length c (l.map Entry.cells) rfl ((((HO2.out.alloc_ _).below hb3)).alloc_ _) _ 1 1 [Entry.cells ⟨rm,eid,⟨fi,fk,ff,ft,⟨pt,px,py⟩,fw⟩⟩] rfl (Row.new1' _ _ _ 10 _ (by simp)) (by simp [Entry.cells,Factor.cells]) (by simp [Entry.cells,Factor.cells,Value.oneCell']) (by simp only [maxLen];omega) (by omega) (by have:=HB2.out.size;have:=hb3.size;simp at *;omega) ?_;intro A5 c5 w5_ ho5 hg5 hat5))
              exact ⟨⟨l++[⟨rm,eid,⟨fi,fk,ff,ft,⟨pt,px,py⟩,fw⟩⟩],A5,c5,j+1,sm,by simp,by simp,rfl,HNX.out,HQN.out,by rw [List.length_append,List.map_append];exact ho5,bGrown (bAlloc (bTrans (bAlloc HB2.out _) hb3) _) hg5 (fun q hq=>(HO2.out.lt q hq).1)⟩,by simp [lenV];omega⟩
            · obtain ⟨z1,z2⟩:=line_no (t:=t) (ok:=true) H2.out HL2.out (fun p g h=>⟨hres p g h,rfl⟩) (fun h=>hEnt h.1)
              rw [← H1.out] at z1
              have HS:=Lib.hid (HI.out.stop z1)
              have z3:=z2 rfl
              obtain ⟨fe,hfe⟩:∃ x,x=fmtEnt ⟨rm,eid,⟨fi,fk,ff,ft,⟨pt,px,py⟩,fw⟩⟩ q:=⟨_,rfl⟩
              have HY1:=Lib.hid hfe
              rw [← hfe] at z3
              clear z1 z2 hres hEnt hfe
              obtain ⟨line,sm⟩:=fe
              simp only at z3
              cases hemp:line.toList.isEmpty
              all_goals
                go_wp2_with (go_at_call 119;refine (spec_FormatEntry_c rm eid fi fk ff ft pt px py fw q _ ⟨k3,k4⟩ k1 k2).mono ?_;rw [← HY1.out];rintro e w3_ ⟨rfl,hb3⟩)
                refine bodyPost_ret (v:=.tuple #[.slice A l.length c,.int .i64 (n:Int),.int .i64 q]) (by simp [*,results,Tryz.results108,go_sem]) rfl ⟨⟨A,l.length,c⟩,by rw [HS.out],?_,Fresh.obl_ ((HO2.out.alloc_ _).below hb3),bTrans (bAlloc HB2.out _) hb3⟩
                rw [HS.out];exact ((HO2.out.alloc_ _).below hb3).zero
          · have hcI:¬ (s[j].toNat:Int)=10:=by
              intro h
              exact hc (UInt8.toNat_inj.1 (by rw [show (10:UInt8).toNat=10 from rfl];omega))
            have hcB:((s[j].toNat:Int) == 10)=false:=by simpa using hcI
            have HNX:=Lib.hid (show ∀ x∈(s.data.toList.drop n).take (j+1 - n),isB 10 x=false by
              have hb:s.data.toList[j]? = some s[j]:=by
                have hk':j < s.data.toList.length:=by rw [HSL.out];exact hjl
                rw [List.getElem?_eq_getElem hk'];rfl
              rw [← take_more hnj hb]
              intro x hx
              rcases List.mem_append.1 hx with hx | hx
              · exact HNO.out x hx
              · rw [List.mem_singleton.1 hx];unfold isB;simpa using hc)
            clear hc
            go_wp2_with fail
            exact ⟨⟨j+1,by simp,by omega,by omega,HNX.out,by first | trivial | rfl⟩,by simp only [intOf];omega⟩
        · obtain rfl:j=s.size:=by omega
          have HS:=Lib.hid (HI.out.stop (no_pfx (q:=0) (by
            have h:=HNO.out
            rw [List.take_of_length_le (by rw [List.length_drop,HSL.out];omega)] at h
            exact h)))
          have hss:¬ (s.size:Int) < (s.size:Int):=by omega
          go_wp2_with fail
          refine bodyPost_ret (v:=.tuple #[.slice A l.length c,.int .i64 (n:Int),.int .i64 q]) (by simp [*,results,Tryz.results108,go_sem]) rfl ⟨⟨A,l.length,c⟩,by rw [HS.out],?_,Fresh.obl_ HO.out,HB.out⟩
          rw [HS.out];exact HO.out.zero
    · have hl:l.length=60:=by omega
      have HS:=Lib.hid (HI.out.full hl)
      have hlI:¬ (l.length:Int) < 60:=by omega
      go_wp2_with fail
      refine bodyPost_ret (v:=.tuple #[.slice A l.length c,.int .i64 (n:Int),.int .i64 q]) (by simp [*,results,Tryz.results108,go_sem]) rfl ⟨⟨A,l.length,c⟩,by rw [HS.out],?_,Fresh.obl_ HO.out,HB.out⟩
      rw [HS.out];exact HO.out.zero
noncomputable def rdE (s:ByteArray):List Entry:=(rdj 60 s.data.toList 1).1
noncomputable def rdN (s:ByteArray):Nat:=(rdj 60 s.data.toList 1).2.1
noncomputable def rdQ (s:ByteArray):Int:=(rdj 60 s.data.toList 1).2.2
theorem rdj_few:∀ (k:Nat) (r:List UInt8) (p:Int),(rdj k r p).1.length≤k
  | 0,_,_=>Nat.le_refl _
  | k+1,r,p=>by
    rw [rdj]
    split
    · simp
    · rename_i e _
      have:=rdj_few k (r.drop (entT e p).size) (entSum e p)
      simp;omega
theorem rdj_len:∀ (k:Nat) (r:List UInt8) (p:Int),(rdj k r p).2.1≤r.length
  | 0,_,_=>Nat.zero_le _
  | k+1,r,p=>by
    rw [rdj]
    split
    · exact Nat.zero_le _
    · rename_i e he
      obtain ⟨_,_,t,ht⟩:=nxt_text he
      have:=rdj_len k (r.drop (entT e p).size) (entSum e p)
      have h1:=congrArg List.length ht
      have h2:=bsize (entT e p)
      simp only [List.length_append] at h1
      simp only [List.length_drop] at this ⊢
      omega
theorem rdj_in:∀ (k:Nat) (r:List UInt8) (p:Int),inR p 0 65520=true→inR (rdj k r p).2.2 0 65520=true
  | 0,_,_,h=>h
  | k+1,r,p,h=>by
    rw [rdj]
    split
    · exact h
    · rename_i e he
      exact rdj_in k _ _ (entSum_in e p)
theorem rdN_le (s:ByteArray):rdN s≤s.size:=by have:=rdj_len 60 s.data.toList 1;rw [bsize] at this;exact this
theorem rdQ_in (s:ByteArray):inR (rdQ s) 0 65520=true:=rdj_in 60 _ 1 (by decide)
theorem rdE_len (s:ByteArray):(rdE s).length≤60:=rdj_few 60 _ 1
noncomputable def apE (s:ByteArray) (e:Entry):ByteArray × Bool:=if vldEntry e=true∧(rdE s).length≠60 then (s.extract 0 (rdN s)++entT e (rdQ s),true) else (s,false)
theorem ent_ne {e:Entry} {p:Int}:(entT e p).toList.isEmpty=false:=by
  rw [ByteArray.toList_eq];unfold entT;simp
theorem fmtEnt_ok {e:Entry} {p:Int} (h:vldEntry e=true) (hp:inR p 0 65520=true):fmtEnt e p=(entT e p,entSum e p):=by unfold fmtEnt;rw [h,hp];rfl
theorem fmtEnt_no {e:Entry} {p:Int} (h:vldEntry e=false):fmtEnt e p=(⟨#[]⟩,0):=by unfold fmtEnt;rw [h];rfl
theorem entT_sz {e:Entry} {p:Int} (h:vldEntry e=true) (hp:inR p 0 65520=true):(entT e p).size≤400:=by
  have hf:∀ f:Factor,vldFactor f=true→(facL f).length≤116:=fun f hv=>by
    have h1:=fmtFac_size f
    have h2:=bsize (fmtFac f)
    rw [fmtFac_data hv] at h2
    omega
  have h2:=bsize (entT e p)
  have h3:=entSum_bound e p
  have h4:=Lib.itoa_length_le (entSum e p) (by omega) (by omega)
  rw [← h2]
  unfold entT
  rcases ent_kinds h with ⟨f,_,hv,he⟩ | ⟨n,_,hn,he⟩
  · have:=hf f hv
    rw [he];simp [addL];omega
  · have:=Lib.itoa_length_le n (by omega) (by omega)
    rw [he];simp [remL];omega
theorem RjPost.out {w w':World} {s:ByteArray} {e:Ending} (h:RjPost w s e w'):∃ v:Sv,e=.returned (.tuple #[.slice v.A v.n v.c,.int .i64 (rdN s:Int),.int .i64 (rdQ s)])∧(rdE s).length=v.n∧Below w.heap.size w w':=by
  obtain ⟨v,h1,h2,_,h3⟩:=h
  refine ⟨v,h1,?_,h3⟩
  have:=h2.rd.1
  simpa [rdE] using this
theorem ap_no {s:ByteArray} {e:Entry} (h:¬ (vldEntry e=true∧(rdE s).length≠60)):apE s e=(s,false):=by unfold apE;rw [if_neg h]
theorem ap_yes {s:ByteArray} {e:Entry} (h:vldEntry e=true) (h2:(rdE s).length≠60):apE s e=(s.extract 0 (rdN s)++entT e (rdQ s),true):=by unfold apE;rw [if_pos ⟨h,h2⟩]
theorem ext_sz (s:ByteArray) (a b:Nat):(s.extract a b).size≤s.size:=by rw [ByteArray.size_extract];omega
theorem impl_AppendEntry_c (s:ByteArray) (rm:Bool) (eid id kind:Int) (fr to:ByteArray) (t x y wt:Int) (w:World) (hs:s.size≤4194304) (hwe:-9223372036854775808≤eid∧eid≤9223372036854775807) (hf:fr.size≤4194304) (ht:to.size≤4194304) (hT:TabJ w) :
    Calls Tryz.prog 37 #[.string s,vEntry rm eid id kind fr to t x y wt] w fun e w'=>e=.returned (.tuple #[.string (apE s ⟨rm,eid,⟨id,kind,fr,to,⟨t,x,y⟩,wt⟩⟩).1,.bool (apE s ⟨rm,eid,⟨id,kind,fr,to,⟨t,x,y⟩,wt⟩⟩).2])∧Below w.heap.size w w':=by
  have HT:=Lib.hid hT
  clear hT
  have bx0:=Bk.new w [.bool rm,.int .i64 eid,.int .i64 id,.int .i64 kind,.string fr,.string to,.int .i64 t,.int .i64 x,.int .i64 y,.int .i64 wt] 42 _ rfl
  have B0:Below w.heap.size w (w.alloc (.cells #[.bool rm,.int .i64 eid,.int .i64 id,.int .i64 kind,.string fr,.string to,.int .i64 t,.int .i64 x,.int .i64 y,.int .i64 wt] 42)):=bAlloc (Below.refl _ _) _
  go_enter Tryz.func37,Tryz.ntmps37
  go_wp2_with fail
  refine Calls.mono (impl_readJournal_c s _ hs (HT.out.below B0)) ?_
  rintro e w1 hpost
  obtain ⟨v,rfl,hl,hb1⟩:=hpost.out
  have bx1:=bx0.below hb1
  have B1:=bTrans B0 hb1
  have hqi:=rdQ_in s
  have hn:=rdN_le s
  have hle:=rdE_len s
  have HNO:=Lib.hid (fun h=>ap_no (s:=s) (e:=⟨rm,eid,⟨id,kind,fr,to,⟨t,x,y⟩,wt⟩⟩) h)
  have HYES:=Lib.hid (fun h h2=>ap_yes (s:=s) (e:=⟨rm,eid,⟨id,kind,fr,to,⟨t,x,y⟩,wt⟩⟩) h h2)
  obtain ⟨n,hne⟩:∃ n,n=rdN s:=⟨_,rfl⟩
  obtain ⟨q,hqe⟩:∃ q,q=rdQ s:=⟨_,rfl⟩
  rw [← hne] at HYES hn ⊢
  rw [← hqe] at HYES hqi ⊢
  have HT1:=Lib.hid (HT.out.below B1)
  have HQ:=Lib.hid hqi
  obtain ⟨A,m,c⟩:=v
  simp only at hl
  rw [hl] at HNO HYES hle
  have r0:=bx1.bx.cells 0 _ rfl;have r1:=bx1.bx.cells 1 _ rfl;have r2:=bx1.bx.cells 2 _ rfl;have r3:=bx1.bx.cells 3 _ rfl;have r4:=bx1.bx.cells 4 _ rfl;have r5:=bx1.bx.cells 5 _ rfl;have r6:=bx1.bx.cells 6 _ rfl;have r7:=bx1.bx.cells 7 _ rfl;have r8:=bx1.bx.cells 8 _ rfl;have r9:=bx1.bx.cells 9 _ rfl
  clear hpost bx0 B0 hb1 hne hqe hqi hl HT
  cases hv:vldEntry ⟨rm,eid,⟨id,kind,fr,to,⟨t,x,y⟩,wt⟩⟩ with
  | false =>
    have HE:=Lib.hid (HNO.out (fun h=>by rw [hv] at h;cases h.1))
    have HV:=Lib.hid hv
    clear hv HNO HYES
    go_wp2_with (go_at_call 44;refine (impl_IsValidEntry_c rm eid id kind fr to t x y wt _ hf ht).mono ?_;rw [HV.out];rintro e w2 ⟨rfl,hb2⟩;have bx2:=bx1.below hb2;have B2:=bTrans B1 hb2;have s0:=bx2.bx.cells 0 _ rfl;have s1:=bx2.bx.cells 1 _ rfl;have s2:=bx2.bx.cells 2 _ rfl;have s3:=bx2.bx.cells 3 _ rfl;have s4:=bx2.bx.cells 4 _ rfl;have s5:=bx2.bx.cells 5 _ rfl;have s6:=bx2.bx.cells 6 _ rfl;have s7:=bx2.bx.cells 7 _ rfl;have s8:=bx2.bx.cells 8 _ rfl;have s9:=bx2.bx.cells 9 _ rfl)
    refine bodyPost_ret (v:=.tuple #[.string s,.bool false]) (by simp [*,results,Tryz.results37,go_sem]) rfl ⟨by rw [HE.out],B2⟩
  | true =>
    have hfe:=fmtEnt_ok hv HQ.out
    have hsz:=entT_sz hv HQ.out
    have hne:=ent_ne (e:=⟨rm,eid,⟨id,kind,fr,to,⟨t,x,y⟩,wt⟩⟩) (p:=q)
    have HF:=Lib.hid hfe
    clear hfe
    by_cases h60:m=60
    · have HE:=Lib.hid (HNO.out (fun h=>h.2 h60))
      have h6:((m:Int) == 60)=true:=by rw [h60];rfl
      have h6i:(m:Int)=60:=by omega
      have HV:=Lib.hid hv
      clear hv HNO HYES h60 hsz
      clear hne
      go_wp2_with (go_at_call 44;refine (impl_IsValidEntry_c rm eid id kind fr to t x y wt _ hf ht).mono ?_;rw [HV.out];rintro e w2 ⟨rfl,hb2⟩;have bx2:=bx1.below hb2;have B2:=bTrans B1 hb2;have s0:=bx2.bx.cells 0 _ rfl;have s1:=bx2.bx.cells 1 _ rfl;have s2:=bx2.bx.cells 2 _ rfl;have s3:=bx2.bx.cells 3 _ rfl;have s4:=bx2.bx.cells 4 _ rfl;have s5:=bx2.bx.cells 5 _ rfl;have s6:=bx2.bx.cells 6 _ rfl;have s7:=bx2.bx.cells 7 _ rfl;have s8:=bx2.bx.cells 8 _ rfl;have s9:=bx2.bx.cells 9 _ rfl)
      refine bodyPost_ret (v:=.tuple #[.string s,.bool false]) (by simp [*,results,Tryz.results37,go_sem]) rfl ⟨by rw [HE.out],B2⟩
    · have HE:=Lib.hid (HYES.out hv h60)
      have h6:((m:Int) == 60)=false:=by simp only [beq_eq_false_iff_ne];omega
      have h6i:¬ (m:Int)=60:=by omega
      have HV:=Lib.hid hv
      clear hv HNO HYES h60
      obtain ⟨line,hline⟩:∃ l,l=entT ⟨rm,eid,⟨id,kind,fr,to,⟨t,x,y⟩,wt⟩⟩ q:=⟨_,rfl⟩
      rw [← hline] at hne hsz HF HE
      clear hline
      obtain ⟨u,e0,z0,c0⟩:=cat (s.extract 0 n) line 4194304 400 (Nat.le_trans (ext_sz s 0 n) hs) hsz (by omega)
      have hn0:(0:Int)≤(n:Int):=by omega
      have hn1:(n:Int)≤(s.size:Int):=by omega
      clear hne
      go_wp2_with (first | (go_at_call 44;refine (impl_IsValidEntry_c rm eid id kind fr to t x y wt _ hf ht).mono ?_;rw [HV.out];rintro e w2 ⟨rfl,hb2⟩;have bx2:=bx1.below hb2;have B2:=bTrans B1 hb2;have s0:=bx2.bx.cells 0 _ rfl;have s1:=bx2.bx.cells 1 _ rfl;have s2:=bx2.bx.cells 2 _ rfl;have s3:=bx2.bx.cells 3 _ rfl;have s4:=bx2.bx.cells 4 _ rfl;have s5:=bx2.bx.cells 5 _ rfl;have s6:=bx2.bx.cells 6 _ rfl;have s7:=bx2.bx.cells 7 _ rfl;have s8:=bx2.bx.cells 8 _ rfl;have s9:=bx2.bx.cells 9 _ rfl) | (go_at_call 13;refine (impl_FormatEntry_c rm eid id kind fr to t x y wt q _ hwe hf ht (HT1.out.below hb2).1.tab).mono ?_;rw [HF.out];rintro e w3 ⟨rfl,hb3⟩;have B3:=bTrans B2 hb3))
      refine bodyPost_ret (v:=.tuple #[.string u,.bool true]) (by simp [*,results,Tryz.results37,go_sem]) rfl ⟨by rw [HE.out,e0.out],B3⟩
theorem spec_AppendEntry_c (s:ByteArray) (rm:Bool) (eid id kind:Int) (fr to:ByteArray) (t x y wt:Int) (w:World) (hs:s.size≤4194304) (hwe:-9223372036854775808≤eid∧eid≤9223372036854775807) (hf:fr.size≤4194304) (ht:to.size≤4194304) :
    Calls Tryz.prog 70 #[.string s,vEntry rm eid id kind fr to t x y wt] w fun e w'=>e=.returned (.tuple #[.string (apE s ⟨rm,eid,⟨id,kind,fr,to,⟨t,x,y⟩,wt⟩⟩).1,.bool (apE s ⟨rm,eid,⟨id,kind,fr,to,⟨t,x,y⟩,wt⟩⟩).2])∧Below w.heap.size w w':=by
  have bx0:=Bk.new w [.bool rm,.int .i64 eid,.int .i64 id,.int .i64 kind,.string fr,.string to,.int .i64 t,.int .i64 x,.int .i64 y,.int .i64 wt] 42 _ rfl
  have B0:Below w.heap.size w (w.alloc (.cells #[.bool rm,.int .i64 eid,.int .i64 id,.int .i64 kind,.string fr,.string to,.int .i64 t,.int .i64 x,.int .i64 y,.int .i64 wt] 42)):=bAlloc (Below.refl _ _) _
  go_enter Tryz.func70,Tryz.ntmps70
  go_wp2_with fail
  refine Calls.mono (spec_l27Read_c s _ hs) ?_
  rintro e w1 hpost
  obtain ⟨v,rfl,hl,hb1⟩:=hpost.out
  have bx1:=bx0.below hb1
  have B1:=bTrans B0 hb1
  have hqi:=rdQ_in s
  have hn:=rdN_le s
  have hle:=rdE_len s
  have HNO:=Lib.hid (fun h=>ap_no (s:=s) (e:=⟨rm,eid,⟨id,kind,fr,to,⟨t,x,y⟩,wt⟩⟩) h)
  have HYES:=Lib.hid (fun h h2=>ap_yes (s:=s) (e:=⟨rm,eid,⟨id,kind,fr,to,⟨t,x,y⟩,wt⟩⟩) h h2)
  obtain ⟨n,hne⟩:∃ n,n=rdN s:=⟨_,rfl⟩
  obtain ⟨q,hqe⟩:∃ q,q=rdQ s:=⟨_,rfl⟩
  rw [← hne] at HYES hn ⊢
  rw [← hqe] at HYES hqi ⊢
  have HQ:=Lib.hid hqi
  obtain ⟨A,m,c⟩:=v
  simp only at hl
  rw [hl] at HNO HYES hle
  have r0:=bx1.bx.cells 0 _ rfl;have r1:=bx1.bx.cells 1 _ rfl;have r2:=bx1.bx.cells 2 _ rfl;have r3:=bx1.bx.cells 3 _ rfl;have r4:=bx1.bx.cells 4 _ rfl;have r5:=bx1.bx.cells 5 _ rfl;have r6:=bx1.bx.cells 6 _ rfl;have r7:=bx1.bx.cells 7 _ rfl;have r8:=bx1.bx.cells 8 _ rfl;have r9:=bx1.bx.cells 9 _ rfl
  clear hpost bx0 B0 hb1 hne hqe hqi hl
  cases hv:vldEntry ⟨rm,eid,⟨id,kind,fr,to,⟨t,x,y⟩,wt⟩⟩ with
  | false =>
    have HE:=Lib.hid (HNO.out (fun h=>by rw [hv] at h;cases h.1))
    have HV:=Lib.hid (fmtEnt_no (p:=q) hv)
    clear hv HNO HYES
    go_wp2_with (go_at_call 119;refine (spec_FormatEntry_c rm eid id kind fr to t x y wt q _ hwe hf ht).mono ?_;rw [HV.out];rintro e w2 ⟨rfl,hb2⟩;have B2:=bTrans B1 hb2)
    refine bodyPost_ret (v:=.tuple #[.string s,.bool false]) (by simp [*,results,Tryz.results70,go_sem]) rfl ⟨by rw [HE.out],B2⟩
  | true =>
    have hfe:=fmtEnt_ok hv HQ.out
    have hsz:=entT_sz hv HQ.out
    have hne:=ent_ne (e:=⟨rm,eid,⟨id,kind,fr,to,⟨t,x,y⟩,wt⟩⟩) (p:=q)
    have HF:=Lib.hid hfe
    clear hfe
    by_cases h60:m=60
    · have HE:=Lib.hid (HNO.out (fun h=>h.2 h60))
      have h6:((m:Int) == 60)=true:=by rw [h60];rfl
      have h6i:(m:Int)=60:=by omega
      have HV:=Lib.hid hv
      clear hv HNO HYES h60 hsz
      obtain ⟨line,hline⟩:∃ l,l=entT ⟨rm,eid,⟨id,kind,fr,to,⟨t,x,y⟩,wt⟩⟩ q:=⟨_,rfl⟩
      rw [← hline] at hne HF
      clear hline
      go_wp2_with (go_at_call 119;refine (spec_FormatEntry_c rm eid id kind fr to t x y wt q _ hwe hf ht).mono ?_;rw [HF.out];rintro e w2 ⟨rfl,hb2⟩;have B2:=bTrans B1 hb2)
      refine bodyPost_ret (v:=.tuple #[.string s,.bool false]) (by simp [*,results,Tryz.results70,go_sem]) rfl ⟨by rw [HE.out],B2⟩
    · have HE:=Lib.hid (HYES.out hv h60)
      have h6:((m:Int) == 60)=false:=by simp only [beq_eq_false_iff_ne];omega
      have h6i:¬ (m:Int)=60:=by omega
      have HV:=Lib.hid hv
      clear hv HNO HYES h60
      obtain ⟨line,hline⟩:∃ l,l=entT ⟨rm,eid,⟨id,kind,fr,to,⟨t,x,y⟩,wt⟩⟩ q:=⟨_,rfl⟩
      rw [← hline] at hne hsz HF HE
      clear hline
      obtain ⟨u,e0,z0,c0⟩:=cat (s.extract 0 n) line 4194304 400 (Nat.le_trans (ext_sz s 0 n) hs) hsz (by omega)
      have hn0:(0:Int)≤(n:Int):=by omega
      have hn1:(n:Int)≤(s.size:Int):=by omega
      go_wp2_with (go_at_call 119;refine (spec_FormatEntry_c rm eid id kind fr to t x y wt q _ hwe hf ht).mono ?_;rw [HF.out];rintro e w2 ⟨rfl,hb2⟩;have B2:=bTrans B1 hb2)
      refine bodyPost_ret (v:=.tuple #[.string u,.bool true]) (by simp [*,results,Tryz.results70,go_sem]) rfl ⟨by rw [HE.out,e0.out],B2⟩

def RpOk (l:List Factor):Prop:=(∀ f∈l,vldFactor f=true)∧l.length≤40
theorem RpOk.nil:RpOk []:=⟨by simp,by simp⟩
theorem RpOk.small {l:List Factor} (h:RpOk l):smallFs l:=fun f hf=>vld_sz (h.1 f hf)
theorem RpOk.few {l:List Factor} (h:RpOk l):fewF l:=by have:=h.2;unfold fewF;omega
theorem fl_rp {l:List Factor} (h:isFL l=true):RpOk l:=by
  refine ⟨?_,isFL_len h⟩
  unfold isFL at h
  simp only [Bool.and_eq_true] at h
  have ha:=h.2.1
  revert ha
  have aux:∀ (l:List Factor) (p:Option Int),ascL l p=true→∀ f∈l,vldFactor f=true:=by
    intro l
    induction l with
    | nil=>intro p _ f hf;simp at hf
    | cons a l ih =>
      intro p h f hf
      simp only [ascL,Bool.and_eq_true] at h
      rcases List.mem_cons.1 hf with rfl | hf
      · exact h.1
      · exact ih _ h.2.2 f hf
  exact aux l none

end Go.Proofs.YtdfemnffpaopfaaGreatDoor

namespace Go.Proofs.YtdfemnffpaopfaaGreatDoor
open Go.RowKit
set_option linter.unusedVariables false
set_option linter.unusedSimpArgs false
structure Side where
  b:Nat
  t:TypeId
  cs:List Value
section
variable {w0 w w' w1:World} {fs:List Nat} {B b0:Nat} {v:CV} {c:Chan} {sd:List Side}
end
end Go.Proofs.YtdfemnffpaopfaaGreatDoor


namespace Go.Proofs.YtdfemnffpaopfaaGreatDoor
open Go.RowKit
set_option linter.unusedVariables false
set_option linter.unusedSimpArgs false
set_option maxHeartbeats 4000000
set_option maxRecDepth 100000

end Go.Proofs.YtdfemnffpaopfaaGreatDoor
