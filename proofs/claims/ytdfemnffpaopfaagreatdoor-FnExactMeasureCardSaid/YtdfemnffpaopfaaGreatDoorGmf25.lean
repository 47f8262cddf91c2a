/- Texts of this proof, one behind the other: PrsJ, PsJrn, PsJoin. -/
import Derived.Test.YtdfemnffpaopfaaGreatDoorGmf6
import Derived.Test.YtdfemnffpaopfaaGreatDoorGmf23
import Derived.Test.YtdfemnffpaopfaaGreatDoorGmf26
namespace Go.Proofs.YtdfemnffpaopfaaGreatDoor
open Go.RowKit
set_option linter.unusedVariables false
set_option linter.unusedSimpArgs false
set_option maxHeartbeats 4000000
set_option maxRecDepth 100000
theorem entSum_in (e:Entry) (p:Int):inR (entSum e p) 0 65520=true:=by
  rw [inR_iff]
  exact entSum_bound e p
theorem no_pfx {r:List UInt8} {p q:Int} (h:∀ x∈r,isB 10 x=false) (e:Entry):¬ PfxOf r p e:=by
  intro hp
  have:=h 10 (pfx_nl hp)
  revert this;decide
theorem bsize (s:ByteArray):s.data.toList.length=s.size:=by simp
theorem info_EntryJ:(Tryz.prog.info? 42).map (fun i=>(i.zero,i.size,i.bytes))=some (some (.agg #[.bool false,.int .i64 0,.int .i64 0,.int .i64 0,.string ByteArray.empty,.string ByteArray.empty,.int .i64 0,.int .i64 0,.int .i64 0,.int .i64 0]),10,96):=by kernel_rfl
def lenV:Value→Nat | .slice _ n _=>n | _=>0
def RjPost (w:World) (s:ByteArray) (e:Ending) (w':World):Prop :=
  ∃ v:Sv,e=.returned (.tuple #[.slice v.A v.n v.c,.int .i64 ((rdj 60 s.data.toList 1).2.1:Int),.int .i64 (rdj 60 s.data.toList 1).2.2])∧OwN w' v (rdj 60 s.data.toList 1).1∧Fresh w.heap.size w' (fpN v)∧Below w.heap.size w w'
theorem idx_nl:∀ r:List UInt8,(Lib.indexByte r 10 = -1∧∀ x∈r,isB 10 x=false)∨∃ ln t,r=ln++10 :: t∧(∀ x∈ln,isB 10 x=false)∧Lib.indexByte r 10=(ln.length:Int)
  | []=>.inl ⟨rfl,by simp⟩
  | b :: r=>by
    by_cases hb:b=10
    · subst hb
      exact .inr ⟨[],r,rfl,by simp,by simp [Lib.indexByte]⟩
    · have hbq:(b == 10)=false:=by simpa using hb
      rcases idx_nl r with ⟨h1,h2⟩ | ⟨ln,t,h1,h2,h3⟩
      · refine .inl ⟨by rw [Lib.indexByte,hbq,h1];rfl,fun x hx=>?_⟩
        rcases List.mem_cons.1 hx with rfl | hx
        · exact hbq
        · exact h2 x hx
      · refine .inr ⟨b :: ln,t,by rw [h1];rfl,fun x hx=>?_,?_⟩
        · rcases List.mem_cons.1 hx with rfl | hx
          · exact hbq
          · exact h2 x hx
        · rw [Lib.indexByte,hbq,h3]
          have:((ln.length:Int) == -1)=false:=by simp
          rw [this];simp
theorem line_yes {ln t:List UInt8} {q:Int} {en:Entry} {full:ByteArray} (hf:full.data.toList=ln++[10]) (hE:EntOf ln q en):fmtEnt en q=(entT en q,entSum en q)∧((fmtEnt en q).1.toList == full.toList)=true∧PfxOf (ln++10 :: t) q en∧(entT en q).size=ln.length+1∧(fmtEnt en q).1.toList.isEmpty=false:=by
  have h1:fmtEnt en q=(entT en q,entSum en q):=by unfold fmtEnt;rw [hE.1,hE.2.1];rfl
  have h2:entT en q=full:=bext (hE.2.2.trans hf.symm)
  refine ⟨h1,by rw [h1,h2];simp,ln_pfx hE,ent_size hE,?_⟩
  rw [h1,h2,ByteArray.toList_eq,hf];simp
theorem line_no {ln t:List UInt8} {q:Int} {en:Entry} {full:ByteArray} {ok:Bool} (hl:∀ x∈ln,isB 10 x=false) (hf:full.data.toList=ln++[10]) (hp:∀ p g,EntOf ln p g→g=en∧ok=true) (hE:¬ (EntOf ln q en∧ok=true)):(∀ g,¬ PfxOf (ln++10 :: t) q g)∧(ok=true→((fmtEnt en q).1.toList == full.toList)=false):=by
  constructor
  · intro g hg
    have h:=pfx_at hl hg
    obtain ⟨rfl,ho⟩:=hp _ _ h
    exact hE ⟨h,ho⟩
  · intro ho
    rw [Bool.eq_false_iff]
    intro h
    have h2:=toL_inj (eq_of_beq h)
    unfold fmtEnt at h2
    by_cases hv:(vldEntry en && inR q 0 65520)=true
    · rw [if_pos hv] at h2
      rw [Bool.and_eq_true] at hv
      exact hE ⟨⟨hv.1,hv.2,by rw [show (entT en q,entSum en q).1=entT en q from rfl] at h2;rw [h2];exact hf⟩,ho⟩
    · rw [if_neg hv] at h2
      have:=congrArg (fun x=>x.data.toList) h2
      rw [hf] at this
      simp at this
theorem impl_readJournal_c (s:ByteArray) (w:World) (hs:s.size≤4194304) (hT:TabJ w):Calls Tryz.prog 87 #[.string s] w fun e w'=>RjPost w s e w':=by
  obtain ⟨i0,hii,hq0,hq1,hq2⟩:=info_parts info_EntryJ
  have HT:=Lib.hid hT
  have hsl:s.data.toList.length=s.size:=by simp
  clear hT
  go_enter Tryz.func87,Tryz.ntmps87
  go_wp2_with fail
  go_loopw [5,6,7] (fun lv nv qv wr=>∃ (l:List Entry) (A:Option Addr) (c n:Nat) (q:Int),lv=.slice A l.length c∧nv=.int .i64 (n:Int)∧qv=.int .i64 q∧RjInv s.data.toList l n q∧inR q 0 65520=true∧Own wr w.heap.size 42 10 A l.length c (l.map Entry.cells)∧Below w.heap.size w wr) (fun lv _ _ _=>60 - lenV lv)
  case atStart=>exact ⟨[],_,0,0,1,rfl,rfl,rfl,RjInv.start _,by decide,Own.made0 w _ 10 (Nat.le_refl _),bAlloc (Below.refl _ _) _⟩
  case round =>
    obtain ⟨l,A,c,n,q,rfl,rfl,rfl,hi,hq,ho,hb⟩:=hrel
    have HI:=Lib.hid hi
    have HO:=Lib.hid ho
    have HB:=Lib.hid hb
    have HQ:=Lib.hid hq
    have hl60:=hi.1
    have hns:n≤s.size:=by have:=hi.2.1;omega
    have hn0:(0:Int)≤(n:Int):=by omega
    have hn1:(n:Int)≤(s.size:Int):=by omega
    clear hi ho hb hq
    by_cases hlt:l.length < 60
    · have hltI:(l.length:Int) < 60:=by omega
      have hdr:(s.extract n s.size).data.toList=s.data.toList.drop n:=by rw [ext_list];exact List.take_of_length_le (by simp)
      rcases idx_nl (s.data.toList.drop n) with ⟨h1,h2⟩ | ⟨ln,t,h1,h2,h3⟩
      · have HS:=Lib.hid (HI.out.stop (no_pfx (q:=0) h2))
        have HX:=Lib.hid h1
        have HD:=Lib.hid hdr
        clear h1 h2 hdr
        go_wp2_with (go_at_call 132;refine (YtdfemnffpaopfaaGreatDoor.strings_IndexByte _ 10 _).mono ?_;rw [HD.out,show (10:Int).toNat.toUInt8=10 from rfl,HX.out];rintro e w1_ ⟨rfl,hw1⟩;subst hw1)
        refine bodyPost_ret (v:=.tuple #[.slice A l.length c,.int .i64 (n:Int),.int .i64 q]) (by simp [*,results,Tryz.results87,go_sem]) rfl ⟨⟨A,l.length,c⟩,by rw [HS.out],?_,Fresh.obl_ HO.out,HB.out⟩
        rw [HS.out];exact HO.out.zero
      · have hlen:s.size - n=ln.length+1+t.length:=by
          have:=congrArg List.length h1
          simp only [List.length_drop,List.length_append,List.length_cons,hsl] at this
          omega
        have hL1:(s.extract n (n+ln.length)).data.toList=ln:=by rw [ext_list,h1];simp
        have hL2:(s.extract n (n+ln.length+1)).data.toList=ln++[10]:=by
          rw [ext_list,h1,show n+ln.length+1 - n=ln.length+1 by omega]
          simp [List.take_append,List.take_of_length_le]
        have hz1:(s.extract n (n+ln.length)).size≤s.size:=by
          have:=bsize (s.extract n (n+ln.length))
          rw [hL1] at this;omega
        have HX:=Lib.hid h3
        have HD:=Lib.hid hdr
        have H2:=Lib.hid h2
        have H1:=Lib.hid h1
        have HL1:=Lib.hid hL1
        have HL2:=Lib.hid hL2
        obtain ⟨E,hE⟩:∃ E,E=ln.length:=⟨_,rfl⟩
        rw [← hE] at hlen HX HL1 HL2 hz1
        have hne:(n:Int)+(E:Int)≤(s.size:Int):=by omega
        have hne1:(n:Int)+(E:Int)+1≤(s.size:Int):=by omega
        have hE0:(0:Int)≤(E:Int):=by omega
        have hnE:(n:Int)≤(n:Int)+(E:Int):=by omega
        have hnE1:(n:Int)≤(n:Int)+(E:Int)+1:=by omega
        have hE1:¬ (E:Int) < 0:=by omega
        have HE:=Lib.hid hE
        clear h1 h2 h3 hdr hL1 hL2 hE
        go_wp2_with (go_at_call 132;refine (YtdfemnffpaopfaaGreatDoor.strings_IndexByte _ 10 _).mono ?_;rw [HD.out,show (10:Int).toNat.toUInt8=10 from rfl,HX.out];rintro e w1_ ⟨rfl,hw1⟩;subst hw1)
        refine Calls.mono (impl_parseEntry_c (s.extract n (n+E)) _ (by omega) (HT.out.below HB.out)) ?_
        rintro e w2_ ⟨en,ok,rfl,hok,hres,hb2⟩
        rw [HL1.out] at hres
        obtain ⟨rm,eid,⟨fi,fk,ff,ft,⟨pt,px,py⟩,fw⟩⟩:=en
        rw [show vEntryE ⟨rm,eid,⟨fi,fk,ff,ft,⟨pt,px,py⟩,fw⟩⟩=vEntry rm eid fi fk ff ft pt px py fw from rfl]
        obtain ⟨k1,k2,k3,k4⟩:=hok
        have HB2:=Lib.hid (bTrans HB.out hb2)
        have HO2:=Lib.hid (HO.out.below hb2)
        have HT2:=Lib.hid (HT.out.below HB2.out)
        have bxe:=Bk.new w2_ [.bool rm,.int .i64 eid,.int .i64 fi,.int .i64 fk,.string ff,.string ft,.int .i64 pt,.int .i64 px,.int .i64 py,.int .i64 fw] 42 _ rfl
        have BXE:=Lib.hid bxe
        clear hb2 bxe
        by_cases hEnt:EntOf ln q ⟨rm,eid,⟨fi,fk,ff,ft,⟨pt,px,py⟩,fw⟩⟩∧ok=true
        · obtain ⟨hEn,rfl⟩:=hEnt
          obtain ⟨y1,y2,y3,y4,_⟩:=line_yes (t:=t) HL2.out hEn
          rw [← H1.out] at y3
          have HNX:=Lib.hid (HI.out.next hlt y3)
          rw [y4,← HE.out] at HNX
          have HY1:=Lib.hid y1
          have hqn:=entSum_in ⟨rm,eid,⟨fi,fk,ff,ft,⟨pt,px,py⟩,fw⟩⟩ q
          have HQN:=Lib.hid hqn
          rw [y1] at y2
          simp only at y2
          obtain ⟨line,hline⟩:∃ x,x=entT ⟨rm,eid,⟨fi,fk,ff,ft,⟨pt,px,py⟩,fw⟩⟩ q:=⟨_,rfl⟩
          obtain ⟨sm,hsm⟩:∃ x,x=entSum ⟨rm,eid,⟨fi,fk,ff,ft,⟨pt,px,py⟩,fw⟩⟩ q:=⟨_,rfl⟩
          rw [← hsm] at HNX HQN
          rw [← hline] at y2
          rw [← hline,← hsm] at HY1
          clear y1 y3 y4 hEn hres hqn hline hsm
          go_wp2_with (first
            | (go_at_call 13;refine (impl_FormatEntry_c rm eid fi fk ff ft pt px py fw q _ ⟨k3,k4⟩ k1 k2 ((HT2.out.1.tab).below (bAlloc (Below.refl _ _) _))).mono ?_;rw [HY1.out];rintro e w3_ ⟨rfl,hb3⟩;have bx3:=BXE.out.below hb3;have r0:=bx3.bx.cells 0 _ rfl;have r1:=bx3.bx.cells 1 _ rfl;have r2:=bx3.bx.cells 2 _ rfl;have r3:=bx3.bx.cells 3 _ rfl;have r4:=bx3.bx.cells 4 _ rfl;have r5:=bx3.bx.cells 5 _ rfl;have r6:=bx3.bx.cells 6 _ rfl;have r7:=bx3.bx.cells 7 _ rfl;have r8:=bx3.bx.cells 8 _ rfl;have r9:=bx3.bx.cells 9 _ rfl)
            | (at_builtin;refine wpList_append rfl (.tmp 52) (.tmp 54) 96 rfl w.heap.size 42 10 96 i0 _ Tryz.underlying96 hii hq0 hq1 hq2 rfl (by omega) A l.length c (l.map Entry.cells) rfl ((((HO2.out.alloc_ _).below hb3)).alloc_ _) _ 1 1 [Entry.cells ⟨rm,eid,⟨fi,fk,ff,ft,⟨pt,px,py⟩,fw⟩⟩] rfl (Row.new1' _ _ _ 10 _ (by simp)) (by simp [Entry.cells,Factor.cells]) (by simp [Entry.cells,Factor.cells,Value.oneCell']) (by simp only [maxLen];omega) (by omega) (by have:=HB2.out.size;have:=hb3.size;simp at *;omega) ?_;intro A5 c5 w5_ ho5 hg5 hat5))
          exact ⟨⟨l++[⟨rm,eid,⟨fi,fk,ff,ft,⟨pt,px,py⟩,fw⟩⟩],A5,c5,n+(E+1),sm,by simp,by simp,rfl,HNX.out,HQN.out,by rw [List.length_append,List.map_append];exact ho5,bGrown (bAlloc (bTrans (bAlloc HB2.out _) hb3) _) hg5 (fun q hq=>(HO2.out.lt q hq).1)⟩,by simp [lenV];omega⟩
        · obtain ⟨z1,z2⟩:=line_no (t:=t) H2.out HL2.out hres hEnt
          rw [← H1.out] at z1
          have HS:=Lib.hid (HI.out.stop z1)
          obtain ⟨fe,hfe⟩:∃ x,x=fmtEnt ⟨rm,eid,⟨fi,fk,ff,ft,⟨pt,px,py⟩,fw⟩⟩ q:=⟨_,rfl⟩
          have HY1:=Lib.hid hfe
          rw [← hfe] at z2
          clear z1 hres hEnt hfe
          obtain ⟨line,sm⟩:=fe
          cases ok
          all_goals
            (try have z3:=z2 rfl)
            clear z2
            go_wp2_with (go_at_call 13;refine (impl_FormatEntry_c rm eid fi fk ff ft pt px py fw q _ ⟨k3,k4⟩ k1 k2 ((HT2.out.1.tab).below (bAlloc (Below.refl _ _) _))).mono ?_;rw [← HY1.out];rintro e w3_ ⟨rfl,hb3⟩)
            refine bodyPost_ret (v:=.tuple #[.slice A l.length c,.int .i64 (n:Int),.int .i64 q]) (by simp [*,results,Tryz.results87,go_sem]) rfl ⟨⟨A,l.length,c⟩,by rw [HS.out],?_,Fresh.obl_ ((HO2.out.alloc_ _).below hb3),bTrans (bAlloc HB2.out _) hb3⟩
            rw [HS.out];exact ((HO2.out.alloc_ _).below hb3).zero
    · have hl:l.length=60:=by omega
      have HS:=Lib.hid (HI.out.full hl)
      have hlI:¬ (l.length:Int) < 60:=by omega
      go_wp2_with fail
      refine bodyPost_ret (v:=.tuple #[.slice A l.length c,.int .i64 (n:Int),.int .i64 q]) (by simp [*,results,Tryz.results87,go_sem]) rfl ⟨⟨A,l.length,c⟩,by rw [HS.out],?_,Fresh.obl_ HO.out,HB.out⟩
      rw [HS.out];exact HO.out.zero
theorem joinL_snoc (c:UInt8) (x:List UInt8):∀ {L:List (List UInt8)},L≠[]→joinL c (L++[x])=joinL c L++c :: x
  | [],h=>absurd rfl h
  | a :: L,_=>by rw [List.cons_append,joinL_flat,joinL_flat,List.flatMap_append];simp
theorem joinL_len (c:UInt8) (M:List (List UInt8)):∀ L:List (List UInt8),(joinL c L).length≤(joinL c (L++M)).length
  | []=>Nat.zero_le _
  | a :: L=>by rw [List.cons_append,joinL_flat,joinL_flat,List.flatMap_append];simp
theorem joinL_mid (c:UInt8) (a z:List UInt8) (T:List (List UInt8)):(joinL c T).length≤(joinL c (a :: (T++[z]))).length:=by
  have h1:=joinL_len c [z] T
  rw [joinL_cons c a (by simp)]
  simp;omega
def dl (T:List ByteArray):List (List UInt8):=T.map fun x=>x.data.toList
theorem spec_Join_c (A:Option Addr) (n c:Nat) (T:List ByteArray) (b:UInt8) (w:World) (hr:RowS w A n T) (hn:n≤4194304) (hz:(joinL b (dl T)).length≤4194304) :
    Calls Tryz.prog 191 #[.slice A n c,.string ⟨#[b]⟩] w fun e w'=>e=.returned (.string ⟨(joinL b (dl T)).toArray⟩)∧w=w':=by
  have HR:=Lib.hid hr
  have hl:T.length=n:=hr.len.out
  clear hr
  go_enter Tryz.func191,Tryz.ntmps191
  go_wp2_with fail
  go_loopw [5,10] (fun sv iv wr=>∃ (k:Nat) (t:ByteArray),k≤n∧iv=.int .i64 (k:Int)∧sv=.string t∧t.data.toList=joinL b (dl (T.take k))∧wr=w) (fun _ iv _=>n - (intOf iv).toNat)
  case atStart=>exact ⟨0,⟨#[]⟩,Nat.zero_le _,rfl,rfl,rfl,rfl⟩
  case round =>
    obtain ⟨k,t,hk,rfl,rfl,ht,rfl⟩:=hrel
    have htl:=bsize t
    have hlen:=joinL_len b (dl (T.drop k)) (dl (T.take k))
    rw [show dl (T.take k)++dl (T.drop k)=dl T by unfold dl;rw [← List.map_append,List.take_append_drop]] at hlen
    by_cases hlt:k < n
    · obtain ⟨x,g,off,hx,rfl,cx⟩:=RowS.at_ HR.out hlt
      have hxe:T[k]? = some x:=hx.out
      obtain ⟨hi,he⟩:=List.getElem?_eq_some_iff.1 hxe
      have htk:dl (T.take (k+1))=dl (T.take k)++[x.data.toList]:=by unfold dl;rw [List.take_succ_eq_append_getElem hi,List.map_append,he];rfl
      have hlen2:=joinL_len b (dl (T.drop (k+1))) (dl (T.take (k+1)))
      rw [show dl (T.take (k+1))++dl (T.drop (k+1))=dl T by unfold dl;rw [← List.map_append,List.take_append_drop]] at hlen2
      have hxl:=bsize x
      by_cases h0:k=0
      · subst h0
        have cx:wr.cell? ⟨g,off,none⟩=some (.string x):=cx
        have hts:t=⟨#[]⟩:=bext (by rw [ht];rfl)
        have hd:dl (T.take (0+1))=[x.data.toList]:=by rw [htk];rfl
        have hxs:x.size≤4194304:=by rw [hd] at hlen2;simp only [joinL] at hlen2;omega
        obtain ⟨u,e0,z0,c0⟩:=cat t x 0 4194304 (by rw [hts];exact Nat.le_refl _) hxs (by omega)
        have HU:=Lib.hid (show u.data.toList=joinL b (dl (T.take (0+1))) by rw [← e0.out,hts,hd];simp [joinL,ByteArray.data_append])
        clear ht htk hlen hlen2 hxe hi he hd hts hx htl
        go_wp2_with fail
        exact ⟨⟨1,u,by omega,by simp,rfl,HU.out,by first | trivial | rfl⟩,by simp only [intOf];omega⟩
      · have hne:dl (T.take k)≠[]:=by
          intro h
          have:=congrArg List.length h
          unfold dl at this
          simp only [List.length_map,List.length_take,List.length_nil] at this
          omega
        have hj:=joinL_snoc b x.data.toList hne
        rw [← htk] at hj
        have hsz:t.size+1+x.size≤4194304:=by
          have:=congrArg List.length hj
          simp only [List.length_append,List.length_cons,← ht] at this
          omega
        obtain ⟨u0,e0,z0,c0⟩:=cat t ⟨#[b]⟩ 4194304 1 (by omega) (by show 1≤1;omega) (by omega)
        obtain ⟨u1,e1,z1,c1⟩:=cat u0 x 4194305 4194304 z0 (by omega) (by omega)
        have HU:=Lib.hid (show u1.data.toList=joinL b (dl (T.take (k+1))) by rw [hj,← e1.out,← e0.out,← ht];simp [ByteArray.data_append])
        have hk0:(0:Int) < (k:Int):=by omega
        have hi0:(0:Int)≤(k:Int):=by omega
        have hi1:(k:Int) < (n:Int):=by omega
        clear ht htk hlen hlen2 hxe hi he hx htl hj hne hsz
        go_wp2_with fail
        exact ⟨⟨k+1,u1,by omega,by simp,rfl,HU.out,by first | trivial | rfl⟩,by simp only [intOf];omega⟩
    · obtain rfl:k=n:=by omega
      have hte:T.take k=T:=List.take_of_length_le (by omega)
      have HF:=Lib.hid (show t=⟨(joinL b (dl T)).toArray⟩ from bext (by rw [ht,hte]))
      have hkk:¬ (k:Int) < (k:Int):=by omega
      clear ht hte hlen htl
      go_wp2_with fail
      refine bodyPost_ret (v:=.string t) (by simp [*,results,Tryz.results191,go_sem]) rfl ⟨by rw [← HF.out],rfl⟩
theorem gF_sz (x:ByteArray):(gF x).frm.size≤4194304∧(gF x).to.size≤4194304:=by
  unfold gF
  cases h:psFac x with
  | none=>exact ⟨by show (0:Nat)≤4194304;omega,by show (0:Nat)≤4194304;omega⟩
  | some f=>exact vld_sz (psFac_text h).1
def EntRes1 (ln:List UInt8) (w:World) (e:Ending) (w':World):Prop :=
  ∃ (en:Entry),e=.returned (vEntryE en)∧entOk en∧(∀ p g,EntOf ln p g→g=en)∧Below w.heap.size w w'
theorem words_add {ln:List UInt8} {w0 z:ByteArray} {T:List ByteArray} (hL:(w0 :: (T++[z])).map (fun x=>x.data.toList)=splitL (isB 32) [] ln) (h0:w0.data.toList=[97,100,100]) {p:Int} {g:Entry} (h:EntOf ln p g):∃ f,g=⟨false,0,f⟩∧psFac ⟨(joinL 32 (dl T)).toArray⟩=some f:=by
  rcases ent_words h hL with ⟨f,v0,U,y,hg,hv,he,_,hj⟩ | ⟨n,v0,v1,y,hg,he,hr,_⟩
  · simp only [List.cons.injEq] at he
    have ht:=List.append_inj' he.2 (by simp)
    refine ⟨f,hg,psFac_some ⟨hv,?_⟩⟩
    rw [ht.1];unfold dl;rw [hj]
  · simp only [List.cons.injEq] at he
    rw [← he.1,h0] at hr;exact absurd hr (by decide)
theorem words_rem {ln:List UInt8} {L:List ByteArray} {w0:ByteArray} (hL:L.map (fun x=>x.data.toList)=splitL (isB 32) [] ln) (hw:L[0]? = some w0) (h0:¬ (w0.data.toList=[97,100,100]∧1 < L.length)) {p:Int} {g:Entry} (h:EntOf ln p g):∃ n w1,g=⟨true,n,zFac⟩∧1 < L.length∧L[1]? = some w1∧psI w1=some n:=by
  rcases ent_words h hL with ⟨f,v0,U,y,hg,hv,rfl,h1,hj⟩ | ⟨n,v0,v1,y,hg,rfl,hr,hp⟩
  · simp only [List.getElem?_cons_zero,Option.some.injEq] at hw
    subst hw
    exact absurd ⟨h1,by simp⟩ h0
  · exact ⟨n,v1,hg,by simp,rfl,hp⟩
theorem spec_l27Entry_c (s:ByteArray) (w:World) (hs:s.size≤4194304):Calls Tryz.prog 152 #[.string s] w fun e w'=>EntRes1 s.data.toList w e w':=by
  go_enter Tryz.func152,Tryz.ntmps152
  go_wp2_with fail
  refine Calls.mono (spec_SplitAny_k s 32 _ (by omega)) ?_
  rintro e w1_ ⟨v,L,rfl,ho,hL,hb1⟩
  have bx1:=(Bk.new w [.bool false,.int .i64 0,.int .i64 0,.int .i64 0,.string ⟨#[]⟩,.string ⟨#[]⟩,.int .i64 0,.int .i64 0,.int .i64 0,.int .i64 0] 42 _ rfl).below hb1
  have B1:Below w.heap.size w w1_:=bTrans (bAlloc (Below.refl _ _) _) hb1
  have HL:=Lib.hid hL
  have hlen:L.length=v.n:=by have:=ho.lens;simpa [Hid] using this
  have hrow:RowS w1_ v.A v.n L:=ho.row
  have hws:=word_size hL
  have hcnt:=words_cnt hL
  have hnc:=ho.nc
  simp only [maxLen] at hnc
  have hne:0 < v.n:=by
    rw [← hlen]
    rcases L with _ | ⟨a,l⟩
    · exact absurd hL.symm (splitL_ne _ _ _)
    · simp
  clear hb1 ho hL
  obtain ⟨A,n,c⟩:=v
  simp only at hlen hrow hnc hne
  obtain ⟨g,off,rfl⟩:=hrow.some_ hne
  obtain ⟨w0,h0⟩:=ex_at (L:=L) (k:=0) (by omega)
  have c0:=RowS.get hrow h0
  simp only [Nat.add_zero] at c0
  have hgl:g < w1_.heap.size:=cell_lt c0
  by_cases hadd:w0.data.toList=[97,100,100]
  · have ha:(w0.toList == [97,100,100])=true:=by rw [ByteArray.toList_eq,hadd];rfl
    by_cases h1n:1 < n
    · obtain ⟨T,z,rfl⟩:∃ T z,L=w0 :: (T++[z]):=by
        rcases L with _ | ⟨a,l⟩
        · simp at h0
        · simp only [List.getElem?_cons_zero,Option.some.injEq] at h0
          subst h0
          have hl:l≠[]:=by intro h;rw [h] at hlen;simp at hlen;omega
          exact ⟨l.dropLast,l.getLast hl,by rw [List.dropLast_concat_getLast hl]⟩
      obtain ⟨m,rfl⟩:∃ m,n=m+2:=⟨n - 2,by omega⟩
      obtain ⟨d,rfl⟩:∃ d,c=d+2:=⟨c - 2,by omega⟩
      have hTl:T.length=m:=by simp at hlen;omega
      have hrT:RowS w1_ (some ⟨g,off+1,none⟩) m T:=by
        have h1:=Row.drop_ (c:=strCells) hrow (k:=1) (by omega)
        have h2:=Row.take_ h1 (k:=m) (by omega)
        have e:((w0 :: (T++[z])).drop 1).take m=T:=by simp [← hTl]
        rw [e] at h2
        simpa using h2
      have hJ:=joinL_mid 32 w0.data.toList z.data.toList (dl T)
      have hj:=joinL_split 32 s.data.toList []
      rw [← HL.out,List.nil_append] at hj
      have hsl:=bsize s
      rw [show (w0 :: (T++[z])).map (fun x=>x.data.toList)=w0.data.toList :: (dl T++[z.data.toList]) by simp [dl]] at hj
      rw [hj,hsl] at hJ
      obtain ⟨J,hJe⟩:∃ J:ByteArray,J=⟨(joinL 32 (dl T)).toArray⟩:=⟨_,rfl⟩
      have hJs:J.size≤4194304:=by rw [hJe,bsz];omega
      have HW:=Lib.hid (fun p g h=>words_add HL.out hadd (p:=p) (g:=g) h)
      rw [← hJe] at HW
      have HJE:=Lib.hid hJe
      have hJ4:(joinL 32 (dl T)).length≤4194304:=by omega
      have hms:m≤4194304:=by simp only [hlen] at hcnt;omega
      have hm1:(m:Int)+1≤(d:Int)+2:=by omega
      have hm2:(1:Int)≤(m:Int)+1:=by omega
      have hmx:(m:Int)≤4194304:=by omega
      clear hJe hws hcnt hj hJ hsl hrow h0 hadd hlen
      go_wp2_with fail
      refine Calls.mono (spec_Join_c _ m _ T 32 _ hrT hms hJ4) ?_
      rw [← HJE.out]
      rintro e w2_ ⟨rfl,rfl⟩
      go_wp2_with fail
      refine Calls.mono (spec_ParseFactor_c J _ hJs) ?_
      rintro e w3_ ⟨rfl,hb3⟩
      have bx3:=bx1.below hb3
      have B3:=bTrans B1 hb3
      obtain ⟨o,HVF⟩:=vFac_gF J
      rw [HVF]
      have HN:=Lib.hid (show ∀ p g,EntOf s.data.toList p g→g=⟨false,0,gF J⟩ from fun p g h=>by obtain ⟨f,hg,hf⟩:=HW.out p g h;rw [hg];unfold gF;rw [hf];rfl)
      have HOK:=Lib.hid (gF_sz J)
      obtain ⟨⟨fi,fk,ff,ft,⟨pt,px,py⟩,fw⟩,hf⟩:∃ f,f=gF J:=⟨_,rfl⟩
      rw [← hf] at HN HOK ⊢
      have bx4:=bx3.alloc_ (.cells #[.int .i64 fi,.int .i64 fk,.string ff,.string ft,.int .i64 pt,.int .i64 px,.int .i64 py,.int .i64 fw] 34)
      have r0:=bx4.bx.cells 0 _ rfl;have r1:=bx4.bx.cells 1 _ rfl;have r2:=bx4.bx.cells 2 _ rfl;have r3:=bx4.bx.cells 3 _ rfl;have r4:=bx4.bx.cells 4 _ rfl;have r5:=bx4.bx.cells 5 _ rfl;have r6:=bx4.bx.cells 6 _ rfl;have r7:=bx4.bx.cells 7 _ rfl;have r8:=bx4.bx.cells 8 _ rfl;have r9:=bx4.bx.cells 9 _ rfl;have rf:=bx4.bx.froz;have rz:=bx4.lt
      clear HVF hf HW hb3 bx1 B1 c0 hrT
      go_wp2_with fail
      refine bodyPost_ret (v:=vEntryE (⟨false,0,⟨fi,fk,ff,ft,⟨pt,px,py⟩,fw⟩⟩)) (by simp [*,vEntryE,zFac,results,Tryz.results152,go_sem]) rfl ⟨⟨false,0,⟨fi,fk,ff,ft,⟨pt,px,py⟩,fw⟩⟩,rfl,?_,?_,?_⟩
      · exact ⟨HOK.out.1,HOK.out.2,by show (-9223372036854775808:Int)≤0;omega,by show (0:Int)≤_;omega⟩
      · exact HN.out
      · exact b10 (bAlloc B3 _) (Nat.le_refl _) _ _ _ _ _ _ _ _ _ _
    · obtain rfl:n=1:=by omega
      have HN:=Lib.hid (show ∀ p g,¬ EntOf s.data.toList p g from fun p g h=>by obtain ⟨n,w1,_,hl,_⟩:=words_rem HL.out h0 (fun hc=>by omega) h;omega)
      have r0:=bx1.bx.cells 0 _ rfl;have r1:=bx1.bx.cells 1 _ rfl;have r2:=bx1.bx.cells 2 _ rfl;have r3:=bx1.bx.cells 3 _ rfl;have r4:=bx1.bx.cells 4 _ rfl;have r5:=bx1.bx.cells 5 _ rfl;have r6:=bx1.bx.cells 6 _ rfl;have r7:=bx1.bx.cells 7 _ rfl;have r8:=bx1.bx.cells 8 _ rfl;have r9:=bx1.bx.cells 9 _ rfl;have rf:=bx1.bx.froz;have rz:=bx1.lt
      clear hws hcnt hrow h0 hadd hlen
      go_wp2_with fail
      refine bodyPost_ret (v:=vEntryE (⟨true,0,zFac⟩)) (by simp [*,vEntryE,zFac,results,Tryz.results152,go_sem]) rfl ⟨⟨true,0,zFac⟩,rfl,?_,?_,?_⟩
      · exact zFac_ok _ (by omega) (by omega)
      · intro p g h;exact absurd h (HN.out p g)
      · exact b10 B1 (Nat.le_refl _) _ _ _ _ _ _ _ _ _ _
  · have ha:(w0.toList == [97,100,100])=false:=by rw [ByteArray.toList_eq];simpa using hadd
    have HW:=Lib.hid (fun p g h=>words_rem HL.out h0 (fun hc=>hadd hc.1) (p:=p) (g:=g) h)
    by_cases h1n:1 < n
    · obtain ⟨w1,h1⟩:=ex_at (L:=L) (k:=1) (by omega)
      have c1:=RowS.get hrow h1
      have z1:=hws w1 (List.mem_of_getElem? h1)
      have h1i:(1:Int) < (n:Int):=by omega
      have HN:=Lib.hid (show ∀ p g,EntOf s.data.toList p g→g=⟨true,(psI w1).getD 0,zFac⟩ from fun p g h=>by obtain ⟨n,w1',hg,_,hw,hp⟩:=HW.out p g h;rw [h1] at hw;injection hw with hw;rw [hg,hw,hp];rfl)
      have HV:=Lib.hid (vPair_eq (psI w1))
      have hrg:=psI_rng w1
      clear hws hcnt hrow h0 hadd HW h1 hlen
      go_wp2_with fail
      refine Calls.mono (spec_ParseInt_c w1 _ (by omega)) ?_
      rintro e w3_ ⟨rfl,hb3⟩
      have bx3:=bx1.below hb3
      have B3:=bTrans B1 hb3
      rw [HV.out]
      clear HV hb3 bx1 B1 c0 c1
      generalize (psI w1).getD 0=nn at *
      have r0:=bx3.bx.cells 0 _ rfl;have r1:=bx3.bx.cells 1 _ rfl;have r2:=bx3.bx.cells 2 _ rfl;have r3:=bx3.bx.cells 3 _ rfl;have r4:=bx3.bx.cells 4 _ rfl;have r5:=bx3.bx.cells 5 _ rfl;have r6:=bx3.bx.cells 6 _ rfl;have r7:=bx3.bx.cells 7 _ rfl;have r8:=bx3.bx.cells 8 _ rfl;have r9:=bx3.bx.cells 9 _ rfl;have rf:=bx3.bx.froz;have rz:=bx3.lt
      go_wp2_with fail
      refine bodyPost_ret (v:=vEntryE (⟨true,nn,zFac⟩)) (by simp [*,vEntryE,zFac,results,Tryz.results152,go_sem]) rfl ⟨⟨true,nn,zFac⟩,rfl,?_,?_,?_⟩
      · exact zFac_ok _ (by omega) (by omega)
      · exact HN.out
      · exact b10 B3 (Nat.le_refl _) _ _ _ _ _ _ _ _ _ _
    · obtain rfl:n=1:=by omega
      have HN:=Lib.hid (show ∀ p g,¬ EntOf s.data.toList p g from fun p g h=>by obtain ⟨n,w1,_,hl,_⟩:=HW.out p g h;omega)
      have r0:=bx1.bx.cells 0 _ rfl;have r1:=bx1.bx.cells 1 _ rfl;have r2:=bx1.bx.cells 2 _ rfl;have r3:=bx1.bx.cells 3 _ rfl;have r4:=bx1.bx.cells 4 _ rfl;have r5:=bx1.bx.cells 5 _ rfl;have r6:=bx1.bx.cells 6 _ rfl;have r7:=bx1.bx.cells 7 _ rfl;have r8:=bx1.bx.cells 8 _ rfl;have r9:=bx1.bx.cells 9 _ rfl;have rf:=bx1.bx.froz;have rz:=bx1.lt
      clear hws hcnt hrow h0 hadd HW hlen
      go_wp2_with fail
      refine bodyPost_ret (v:=vEntryE (⟨true,0,zFac⟩)) (by simp [*,vEntryE,zFac,results,Tryz.results152,go_sem]) rfl ⟨⟨true,0,zFac⟩,rfl,?_,?_,?_⟩
      · exact zFac_ok _ (by omega) (by omega)
      · intro p g h;exact absurd h (HN.out p g)
      · exact b10 B1 (Nat.le_refl _) _ _ _ _ _ _ _ _ _ _
end Go.Proofs.YtdfemnffpaopfaaGreatDoor
