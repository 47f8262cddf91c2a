/- Texts of this proof, one behind the other: PsPose, FmtB. -/
import Derived.Lib.SmallJoins
import Derived.Test.YtdfemnffpaopfaaGreatDoorGmf16
import Derived.Test.YtdfemnffpaopfaaGreatDoorGmf17
namespace Go.Proofs.YtdfemnffpaopfaaGreatDoor
open Go.RowKit
set_option linter.unusedVariables false
set_option linter.unusedSimpArgs false
set_option maxHeartbeats 1000000
set_option maxRecDepth 100000
theorem cells_bx {w:World} {cs:Array Value} {t:TypeId} {k:Nat} {v:Value} (h:cs[k]? = some v):(w.alloc (.cells cs t)).cell? ⟨w.heap.size,k,none⟩=some v:=by
  have e:(w.alloc (.cells cs t)).heap[w.heap.size]? = some (.cells cs t):=heap_alloc_new w _
  unfold World.cell?
  rw [e]
  simpa using h
structure Bx (w:World) (b:Nat) (cs:List Value):Prop where
  cells:∀ (j:Nat) (u:Value),cs[j]? = some u→w.cell? ⟨b,j,none⟩=some u
  froz:∀ o:Nat,w.frozen? ⟨b,o,none⟩=false
  lt:b < w.heap.size
theorem Bx.new (w:World) (cs:List Value) (t:TypeId) (b:Nat) (hb:b=w.heap.size):Bx (w.alloc (.cells cs.toArray t)) b cs:=by
  subst hb
  refine ⟨fun j u h=>cells_bx (by simpa using h),fun o=>?_,by simp⟩
  have e:(w.alloc (.cells cs.toArray t)).heap[w.heap.size]? = some (.cells cs.toArray t):=heap_alloc_new w _
  unfold World.frozen?
  rw [e]
  simp
theorem Bx.below {w w':World} {b:Nat} {cs:List Value} (h:Bx w b cs) (hb:Below w.heap.size w w'):Bx w' b cs :=
  ⟨fun j u hj=>bCell hb (h.cells j u hj),fun o=>(bBoxF hb b h.lt o).trans (h.froz o),Nat.lt_of_lt_of_le h.lt hb.size⟩
theorem b3 {a w:World} (h:Below a.heap.size a w) {b:Nat} (hb:a.heap.size≤b) (u0 u1 u2:Value):Below a.heap.size a (((w.setCell ⟨b,0,none⟩ u0).setCell ⟨b,1,none⟩ u1).setCell ⟨b,2,none⟩ u2):=bSet (bSet (bSet h hb u0) hb u1) hb u2
theorem vPair_some (n:Int):vPair (some n)=.tuple #[.int .i64 n,.bool true]:=rfl
theorem vPair_none:vPair none=.tuple #[.int .i64 0,.bool false]:=rfl
def Bk (w:World) (b:Nat) (t:TypeId) (cs:List Value):Prop:=w.heap[b]? = some (.cells cs.toArray t (0,0))
theorem Bk.new (w:World) (cs:List Value) (t:TypeId) (b:Nat) (hb:b=w.heap.size):Bk (w.alloc (.cells cs.toArray t)) b t cs:=by subst hb;exact heap_alloc_new w _
theorem Bk.lt {w:World} {b:Nat} {t:TypeId} {cs:List Value} (h:Bk w b t cs):b < w.heap.size:=by
  rcases Nat.lt_or_ge b w.heap.size with hlt | hge
  · exact hlt
  · unfold Bk at h;rw [Array.getElem?_eq_none hge] at h;cases h
theorem Bk.bx {w:World} {b:Nat} {t:TypeId} {cs:List Value} (h:Bk w b t cs):Bx w b cs:=by
  refine ⟨fun j u hj=>?_,fun o=>?_,h.lt⟩
  · unfold World.cell?;rw [show w.heap[b]? = _ from h];simpa using hj
  · unfold World.frozen?;rw [show w.heap[b]? = _ from h];simp
theorem Bk.below {w w':World} {b:Nat} {t:TypeId} {cs:List Value} (h:Bk w b t cs) (hb:Below w.heap.size w w'):Bk w' b t cs:=(hb.block b h.lt).trans h
theorem Bk.set {w:World} {b:Nat} {t:TypeId} {cs:List Value} (h:Bk w b t cs) (j:Nat) (u:Value):Bk (w.setCell ⟨b,j,none⟩ u) b t (cs.set j u):=by
  have e:=Go.Joins.block_setCell (w:=w) (g:=b) (i:=j) (show w.heap[b]? = _ from h) u
  unfold Bk
  rw [e];simp
theorem Bk.set_ne {w:World} {b:Nat} {t:TypeId} {cs:List Value} (h:Bk w b t cs) {p:Addr} (hp:b≠p.block) (u:Value):Bk (w.setCell p u) b t cs:=(Below.heap_setCell w p u b hp).trans h
theorem vPair_eq (o:Option Int):vPair o=.tuple #[.int .i64 (o.getD 0),.bool o.isSome]:=by cases o <;> rfl
theorem psI_getD (o:Option Int):o=none∨o=some (o.getD 0):=by cases o <;> simp
theorem splitL_len (p:UInt8→Bool):∀ (l cur:List UInt8),∀ x∈splitL p cur l,x.length≤cur.length+l.length
  | [],cur,x,hx=>by simp [splitL] at hx;subst hx;simp
  | b :: l,cur,x,hx=>by
    rw [splitL] at hx
    split at hx
    · rcases List.mem_cons.1 hx with rfl | hx
      · simp
      · have:=splitL_len p l [] x hx
        simp at this ⊢;omega
    · have:=splitL_len p l (cur++[b]) x hx
      simp at this ⊢;omega
theorem word_size {s:ByteArray} {c:UInt8} {L:List ByteArray} (hL:L.map (fun x=>x.data.toList)=splitL (isB c) [] s.data.toList):∀ x∈L,x.size≤s.size:=by
  intro x hx
  have h1:x.data.toList∈splitL (isB c) [] s.data.toList:=by rw [← hL];exact List.mem_map.2 ⟨x,hx,rfl⟩
  have:=splitL_len _ _ _ _ h1
  simpa using this
def vPoseO (o:Option Pose):Value:=match o with | some p=>.tuple #[vPose p.turn p.x p.y,.bool true] | none=>.tuple #[vPose 0 0 0,.bool false]
theorem pose_none_len {s:ByteArray} {L:List ByteArray} (hL:L.map (fun x=>x.data.toList)=splitL (isB 44) [] s.data.toList) (h:L.length≠3):psPose s=none:=by
  refine psPose_none fun p hp=>?_
  obtain ⟨a,b,c,rfl,_⟩:=pose_words hp hL
  exact h rfl
theorem pose_none_x {s:ByteArray} {a b c:ByteArray} (hL:[a,b,c].map (fun x=>x.data.toList)=splitL (isB 44) [] s.data.toList) (h:psI a=none∨psI b=none):psPose s=none:=by
  refine psPose_none fun p hp=>?_
  obtain ⟨a',b',c',e,hx,hy,_⟩:=pose_words hp hL
  simp only [List.cons.injEq,and_true] at e
  obtain ⟨rfl,rfl,rfl⟩:=e
  rw [hx,hy] at h
  rcases h with h | h <;> cases h
theorem pose_none_all {s:ByteArray} {a b c:ByteArray} {x y:Int} (hL:[a,b,c].map (fun x=>x.data.toList)=splitL (isB 44) [] s.data.toList) (hx:psI a=none∨psI a=some x) (hy:psI b=none∨psI b=some y) (h:∀ j:Nat,j < 4→¬ PoseOf s ⟨j,x,y⟩):psPose s=none:=by
  refine psPose_none fun p hp=>?_
  obtain ⟨a',b',c',e,gx,gy,_⟩:=pose_words hp hL
  simp only [List.cons.injEq,and_true] at e
  obtain ⟨rfl,rfl,rfl⟩:=e
  rw [gx] at hx;rw [gy] at hy
  obtain ⟨⟨t0,t1⟩,_,_⟩:=pose_rng hp.1
  obtain ⟨t,px,py⟩:=p
  simp only [reduceCtorEq,Option.some.injEq,false_or] at hx hy t0 t1
  subst hx hy
  obtain ⟨u,rfl⟩:=Int.eq_ofNat_of_zero_le t0
  exact h u (by omega) hp
theorem three {α:Type} {L:List α} (h:L.length=3):∃ a b c,L=[a,b,c]:=by
  rcases L with _ | ⟨a,_ | ⟨b,_ | ⟨c,_ | ⟨d,L⟩⟩⟩⟩
  all_goals first | exact ⟨_,_,_,rfl⟩ | (simp at h)
theorem fmt_iff {s:ByteArray} {t x y:Int} (hv:vldPose t x y=true):((fmtPose t x y).toList == s.toList)=true ↔ PoseOf s ⟨t,x,y⟩:=by
  rw [poseOf_iff]
  constructor
  · intro h;exact ⟨hv,toL_inj (eq_of_beq h)⟩
  · intro h;rw [h.2];simp
theorem impl_ParsePose_c (s:ByteArray) (w:World) (hs:s.size≤4194304) (hT:TabE w):Calls Tryz.prog 182 #[.string s] w fun e w'=>e=.returned (vPoseO (psPose s))∧Below w.heap.size w w':=by
  have HT:=Lib.hid hT
  clear hT
  go_enter Tryz.func182,Tryz.ntmps182
  go_wp2_with fail
  refine Calls.mono (impl_SplitAny_k s 44 _ hs) ?_
  rintro e w1 ⟨v,L,rfl,ho,hL,hb1⟩
  have bx1:=(Bx.new w [.int .i64 0,.int .i64 0,.int .i64 0] 32 _ rfl).below hb1
  have B1:Below w.heap.size w w1:=bTrans (bAlloc (Below.refl _ _) _) hb1
  have HL:=Lib.hid hL
  have hlen:L.length=v.n:=by have:=ho.lens;simpa [Hid] using this
  have hrow:RowS w1 v.A v.n L:=ho.row
  have hws:=word_size hL
  clear hb1 ho hL
  obtain ⟨A,n,c⟩:=v
  simp only at hlen hrow
  by_cases h3:n=3
  · subst h3
    obtain ⟨a,b,d,rfl⟩:=three hlen
    have ha:=hws a (by simp)
    have hb:=hws b (by simp)
    obtain ⟨f0,g,off,hf0,hA,c0⟩:=RowS.at_ hrow (k:=0) (by omega)
    obtain ⟨f1,g1,off1,hf1,hA1,c1⟩:=RowS.at_ hrow (k:=1) (by omega)
    subst hA
    simp only [Option.some.injEq,Addr.mk.injEq,and_true] at hA1
    obtain ⟨rfl,rfl⟩:=hA1
    obtain rfl:a=f0:=by have:=hf0.out;simpa using this
    obtain rfl:b=f1:=by have:=hf1.out;simpa using this
    simp only [Nat.add_zero] at c0
    have HT1:=Lib.hid (HT.out.below B1)
    clear hrow hf0 hf1 HT hws
    cases hx:psI a with
    | none =>
      have HN:=Lib.hid (pose_none_x HL.out (.inl hx))
      cases hy:psI b with
      | none =>
        go_wp2_with fail
        refine Calls.mono (impl_ParseInt_c a _ (by omega) HT1.out) ?_
        rintro e w2 ⟨rfl,hb2⟩
        rw [hx,vPair_none]
        have c1':=bCell hb2 c1
        have bx2:=bx1.below hb2
        have B2:=bTrans B1 hb2
        have HT2:=Lib.hid (HT1.out.below hb2)
        clear hb2 c1 c0 hx
        go_wp2_with fail
        refine Calls.mono (impl_ParseInt_c b _ (by omega) HT2.out) ?_
        rintro e w3 ⟨rfl,hb3⟩
        rw [hy,vPair_none]
        have bx3:=bx2.below hb3
        have B3:=bTrans B2 hb3
        have HT3:=Lib.hid (HT2.out.below hb3)
        clear hb3 c1' hy bx1 bx2 B1 B2
        have r0:=bx3.cells 0 _ rfl;have r1:=bx3.cells 1 _ rfl;have r2:=bx3.cells 2 _ rfl;have rf:=bx3.froz;have rz:=bx3.lt
        go_wp2_with fail
        refine bodyPost_ret (v:=.tuple #[vPose 0 0 0,.bool false]) (by simp [*,results,Tryz.results182,go_sem]) rfl ⟨by rw [HN.out];rfl,?_⟩
        exact b3 B3 (Nat.le_refl _) _ _ _
      | some y =>
        go_wp2_with fail
        refine Calls.mono (impl_ParseInt_c a _ (by omega) HT1.out) ?_
        rintro e w2 ⟨rfl,hb2⟩
        rw [hx,vPair_none]
        have c1':=bCell hb2 c1
        have bx2:=bx1.below hb2
        have B2:=bTrans B1 hb2
        have HT2:=Lib.hid (HT1.out.below hb2)
        clear hb2 c1 c0 hx
        go_wp2_with fail
        refine Calls.mono (impl_ParseInt_c b _ (by omega) HT2.out) ?_
        rintro e w3 ⟨rfl,hb3⟩
        rw [hy,vPair_some]
        have bx3:=bx2.below hb3
        have B3:=bTrans B2 hb3
        have HT3:=Lib.hid (HT2.out.below hb3)
        clear hb3 c1' hy bx1 bx2 B1 B2
        have r0:=bx3.cells 0 _ rfl;have r1:=bx3.cells 1 _ rfl;have r2:=bx3.cells 2 _ rfl;have rf:=bx3.froz;have rz:=bx3.lt
        go_wp2_with fail
        refine bodyPost_ret (v:=.tuple #[vPose 0 0 0,.bool false]) (by simp [*,results,Tryz.results182,go_sem]) rfl ⟨by rw [HN.out];rfl,?_⟩
        exact b3 B3 (Nat.le_refl _) _ _ _
    | some x =>
      cases hy:psI b with
      | none =>
        have HN:=Lib.hid (pose_none_x HL.out (.inr hy))
        go_wp2_with fail
        refine Calls.mono (impl_ParseInt_c a _ (by omega) HT1.out) ?_
        rintro e w2 ⟨rfl,hb2⟩
        rw [hx,vPair_some]
        have c1':=bCell hb2 c1
        have bx2:=bx1.below hb2
        have B2:=bTrans B1 hb2
        have HT2:=Lib.hid (HT1.out.below hb2)
        clear hb2 c1 c0 hx
        go_wp2_with fail
        refine Calls.mono (impl_ParseInt_c b _ (by omega) HT2.out) ?_
        rintro e w3 ⟨rfl,hb3⟩
        rw [hy,vPair_none]
        have bx3:=bx2.below hb3
        have B3:=bTrans B2 hb3
        have HT3:=Lib.hid (HT2.out.below hb3)
        clear hb3 c1' hy bx1 bx2 B1 B2
        have r0:=bx3.cells 0 _ rfl;have r1:=bx3.cells 1 _ rfl;have r2:=bx3.cells 2 _ rfl;have rf:=bx3.froz;have rz:=bx3.lt
        go_wp2_with fail
        refine bodyPost_ret (v:=.tuple #[vPose 0 0 0,.bool false]) (by simp [*,results,Tryz.results182,go_sem]) rfl ⟨by rw [HN.out];rfl,?_⟩
        exact b3 B3 (Nat.le_refl _) _ _ _
      | some y =>
        have HALL:=Lib.hid (pose_none_all (x:=x) (y:=y) HL.out (.inr hx) (.inr hy))
        go_wp2_with fail
        refine Calls.mono (impl_ParseInt_c a _ (by omega) HT1.out) ?_
        rintro e w2 ⟨rfl,hb2⟩
        rw [hx,vPair_some]
        have c1':=bCell hb2 c1
        have bx2:=bx1.below hb2
        have B2:=bTrans B1 hb2
        have HT2:=Lib.hid (HT1.out.below hb2)
        clear hb2 c1 c0 hx
        go_wp2_with fail
        refine Calls.mono (impl_ParseInt_c b _ (by omega) HT2.out) ?_
        rintro e w3 ⟨rfl,hb3⟩
        rw [hy,vPair_some]
        have bx3:=bx2.below hb3
        have B3:=bTrans B2 hb3
        have HT3:=Lib.hid (HT2.out.below hb3)
        clear hb3 c1' hy bx1 bx2 B1 B2
        go_wp2_with fail
        go_loopw [9,10] (fun tn _ wr=>∃ k:Nat,k≤4∧tn=.int .i64 (k:Int)∧(∀ j:Nat,j < k→¬ PoseOf s ⟨j,x,y⟩)∧Below w3.heap.size w3 wr) (fun tn _ _=>4 - (intOf tn).toNat)
        case atStart=>exact ⟨0,by omega,rfl,fun j hj=>by omega,Below.refl _ _⟩
        case round =>
          obtain ⟨k,hk,rfl,hno,hbr⟩:=hrel
          have HNO:=Lib.hid hno
          clear hno
          by_cases hlt:k < 4
          · cases hv:vldPose (k:Int) x y with
            | false =>
              have HNX:=Lib.hid (show ∀ j:Nat,j < k+1→¬ PoseOf s ⟨j,x,y⟩ from fun j hj hp=>by
                by_cases e:j=k
                · subst e;rw [hp.1] at hv;cases hv
                · exact HNO.out j (by omega) hp)
              have HV:=Lib.hid hv
              clear hv
              go_wp2_with (go_at_call 143;refine (impl_IsValidPose_c _ _ _ _).mono ?_;rw [HV.out];rintro e w4 ⟨rfl,hb4⟩;have hbr4:=bTrans (bAlloc hbr _) hb4)
              exact ⟨⟨k+1,by omega,by simp,HNX.out,hbr4⟩,by simp only [intOf];omega⟩
            | true =>
              have HV:=Lib.hid hv
              cases he:((fmtPose (k:Int) x y).toList == s.toList) with
              | true =>
                have HP:=Lib.hid (psPose_some ((fmt_iff hv).1 he))
                clear hv
                go_wp2_with (first | (go_at_call 143;refine (impl_IsValidPose_c _ _ _ _).mono ?_;rw [HV.out];rintro e w4 ⟨rfl,hb4⟩;have hbr4:=bTrans (bAlloc hbr _) hb4;have px:=(Bx.new wr [.int .i64 (k:Int),.int .i64 x,.int .i64 y] _ _ rfl).below hb4;have q0:=px.cells 0 _ rfl;have q1:=px.cells 1 _ rfl;have q2:=px.cells 2 _ rfl) | (go_at_call 96;refine (impl_FormatPose_c _ _ _ _ (HT3.out.tab.below hbr4)).mono ?_;rintro e w5 ⟨rfl,hb5⟩;have hbr5:=bTrans hbr4 hb5;have px5:=px.below hb5;have s0:=px5.cells 0 _ rfl;have s1:=px5.cells 1 _ rfl;have s2:=px5.cells 2 _ rfl;have bx5:=bx3.below hbr5;have r0:=bx5.cells 0 _ rfl;have r1:=bx5.cells 1 _ rfl;have r2:=bx5.cells 2 _ rfl;have rf:=bx5.froz;have rz:=bx5.lt))
                refine bodyPost_ret (v:=.tuple #[vPose (k:Int) x y,.bool true]) (by simp [*,results,Tryz.results182,go_sem]) rfl ⟨by rw [HP.out];rfl,?_⟩
                exact b3 (bTrans B3 hbr5) (Nat.le_refl _) _ _ _
              | false =>
                have HNX:=Lib.hid (show ∀ j:Nat,j < k+1→¬ PoseOf s ⟨j,x,y⟩ from fun j hj hp=>by
                  by_cases e:j=k
                  · subst e;rw [(fmt_iff hv).2 hp] at he;cases he
                  · exact HNO.out j (by omega) hp)
                clear hv
                go_wp2_with (first | (go_at_call 143;refine (impl_IsValidPose_c _ _ _ _).mono ?_;rw [HV.out];rintro e w4 ⟨rfl,hb4⟩;have hbr4:=bTrans (bAlloc hbr _) hb4;have px:=(Bx.new wr [.int .i64 (k:Int),.int .i64 x,.int .i64 y] _ _ rfl).below hb4;have q0:=px.cells 0 _ rfl;have q1:=px.cells 1 _ rfl;have q2:=px.cells 2 _ rfl) | (go_at_call 96;refine (impl_FormatPose_c _ _ _ _ (HT3.out.tab.below hbr4)).mono ?_;rintro e w5 ⟨rfl,hb5⟩;have hbr5:=bTrans hbr4 hb5))
                exact ⟨⟨k+1,by omega,by simp,HNX.out,hbr5⟩,by simp only [intOf];omega⟩
          · obtain rfl:k=4:=by omega
            have HN:=Lib.hid (HALL.out HNO.out)
            have bx4:=bx3.below hbr
            have r0:=bx4.cells 0 _ rfl;have r1:=bx4.cells 1 _ rfl;have r2:=bx4.cells 2 _ rfl;have rf:=bx4.froz;have rz:=bx4.lt
            go_wp2_with fail
            refine bodyPost_ret (v:=.tuple #[vPose 0 0 0,.bool false]) (by simp [*,results,Tryz.results182,go_sem]) rfl ⟨by rw [HN.out];rfl,?_⟩
            exact b3 (bTrans B3 hbr) (Nat.le_refl _) _ _ _
  · have HN:=Lib.hid (pose_none_len HL.out (by omega))
    have r0:=bx1.cells 0 _ rfl;have r1:=bx1.cells 1 _ rfl;have r2:=bx1.cells 2 _ rfl;have rf:=bx1.froz;have rz:=bx1.lt
    go_wp2_with fail
    refine bodyPost_ret (v:=.tuple #[vPose 0 0 0,.bool false]) (by simp [*,results,Tryz.results182,go_sem]) rfl ⟨by rw [HN.out];rfl,?_⟩
    exact b3 B1 (Nat.le_refl _) _ _ _
theorem spec_ParsePose_c (s:ByteArray) (w:World) (hs:s.size≤4194304):Calls Tryz.prog 199 #[.string s] w fun e w'=>e=.returned (vPoseO (psPose s))∧Below w.heap.size w w':=by
  go_enter Tryz.func199,Tryz.ntmps199
  go_wp2_with fail
  refine Calls.mono (spec_SplitAny_k s 44 _ hs) ?_
  rintro e w1 ⟨v,L,rfl,ho,hL,hb1⟩
  have bx1:=(Bk.new w [.int .i64 0,.int .i64 0,.int .i64 0] 32 _ rfl).below hb1
  have B1:Below w.heap.size w w1:=bTrans (bAlloc (Below.refl _ _) _) hb1
  have HL:=Lib.hid hL
  have hlen:L.length=v.n:=by have:=ho.lens;simpa [Hid] using this
  have hrow:RowS w1 v.A v.n L:=ho.row
  have hws:=word_size hL
  clear hb1 ho hL
  obtain ⟨A,n,c⟩:=v
  simp only at hlen hrow
  by_cases h3:n=3
  · subst h3
    obtain ⟨a,b,d,rfl⟩:=three hlen
    have ha:=hws a (by simp)
    have hb:=hws b (by simp)
    obtain ⟨f0,g,off,hf0,hA,c0⟩:=RowS.at_ hrow (k:=0) (by omega)
    obtain ⟨f1,g1,off1,hf1,hA1,c1⟩:=RowS.at_ hrow (k:=1) (by omega)
    subst hA
    simp only [Option.some.injEq,Addr.mk.injEq,and_true] at hA1
    obtain ⟨rfl,rfl⟩:=hA1
    obtain rfl:a=f0:=by have:=hf0.out;simpa using this
    obtain rfl:b=f1:=by have:=hf1.out;simpa using this
    simp only [Nat.add_zero] at c0
    have HALL:=Lib.hid (pose_none_all HL.out (psI_getD _) (psI_getD _))
    clear hrow hf0 hf1 hws
    obtain ⟨x,hx⟩:∃ x,x=(psI a).getD 0:=⟨_,rfl⟩
    obtain ⟨y,hy⟩:∃ y,y=(psI b).getD 0:=⟨_,rfl⟩
    rw [← hx,← hy] at HALL
    have Ha:=Lib.hid (show vPair (psI a)=.tuple #[.int .i64 x,.bool (psI a).isSome] by rw [hx];exact vPair_eq _)
    have Hb:=Lib.hid (show vPair (psI b)=.tuple #[.int .i64 y,.bool (psI b).isSome] by rw [hy];exact vPair_eq _)
    clear hx hy
    have hg1:g < w1.heap.size:=cell_lt c0
    go_wp2_with fail
    refine Calls.mono (spec_ParseInt_c a _ (by omega)) ?_
    rintro e w2 ⟨rfl,hb2⟩
    rw [Ha.out]
    have c1':=bCell hb2 (bCell (bAlloc (Below.refl _ _) _) c1)
    have bx2:=(bx1.below (bAlloc (Below.refl _ _) _)).below hb2
    have px2:=(Bk.new w1 [.int .i64 0,.int .i64 0,.int .i64 0] 32 _ rfl).below hb2
    have B2:=bTrans (bAlloc B1 _) hb2
    have hlt1:w.heap.size < w1.heap.size:=bx1.lt
    have hB1:w.heap.size≤w1.heap.size:=by omega
    have q0:=px2.bx.cells 0 _ rfl;have q1:=px2.bx.cells 1 _ rfl;have q2:=px2.bx.cells 2 _ rfl;have qf:=px2.bx.froz;have qz:=px2.lt
    have hne1:¬ g=w1.heap.size:=by omega
    clear hb2 c1 c0 bx1 B1 Ha
    go_wp2_with fail
    refine Calls.mono (spec_ParseInt_c b _ (by omega)) ?_
    rintro e w3 ⟨rfl,hb3⟩
    rw [Hb.out]
    have bx3:=(bx2.set_ne (p:=⟨w1.heap.size,1,none⟩) (by simp only;omega) (.int .i64 x)).below hb3
    have px3:=(px2.set 1 (.int .i64 x)).below hb3
    have B3:=bTrans (bSet B2 hB1 _) hb3
    simp only [List.set_cons_succ,List.set_cons_zero] at px3
    clear hb3 c1' bx2 px2 B2 q0 q1 q2 qf qz
    have q0:=px3.bx.cells 0 _ rfl;have q1:=px3.bx.cells 1 _ rfl;have q2:=px3.bx.cells 2 _ rfl;have qf:=px3.bx.froz;have qz:=px3.lt
    go_wp2_with fail
    have bx4:=(bx3.set_ne (p:=⟨w1.heap.size,2,none⟩) (by simp only;omega) (.int .i64 y)).set_ne (p:=⟨w1.heap.size,0,none⟩) (by simp only;omega) (.int .i64 0)
    have px4:=(px3.set 2 (.int .i64 y)).set 0 (.int .i64 0)
    have B4:=bSet (bSet B3 (p:=⟨w1.heap.size,2,none⟩) hB1 (.int .i64 y)) (p:=⟨w1.heap.size,0,none⟩) hB1 (.int .i64 0)
    simp only [List.set_cons_succ,List.set_cons_zero] at px4
    clear bx3 px3 B3 q0 q1 q2 qf qz
    have HNE:=hlt1
    clear hlt1 hne1 hg1
    generalize w1.heap.size=P at *
    go_loopw [31] (fun pv wr=>∃ k:Nat,k≤4∧(∀ j:Nat,j < k→¬ PoseOf s ⟨j,x,y⟩)∧Bk wr P 32 [.int .i64 (k:Int),.int .i64 x,.int .i64 y]∧Bk wr w.heap.size 32 [.int .i64 0,.int .i64 0,.int .i64 0]∧Below w.heap.size w wr) (fun pv wr=>4 - (intOf ((wr.cell? ⟨P,0,none⟩).getD (.int .i64 0))).toNat)
    case atStart=>exact ⟨0,by omega,fun j hj=>by omega,px4,bx4,B4⟩
    case round =>
      obtain ⟨k,hk,hno,px,bx,B⟩:=hrel
      have HNO:=Lib.hid hno
      clear hno
      have hPk:¬ P=w.heap.size:=by omega
      have hPk2:¬ w.heap.size=P:=by omega
      have q0:=px.bx.cells 0 _ rfl;have q1:=px.bx.cells 1 _ rfl;have q2:=px.bx.cells 2 _ rfl;have qf:=px.bx.froz;have qz:=px.lt
      by_cases hlt:k < 4
      · cases hv:vldPose (k:Int) x y with
        | false =>
          have HNX:=Lib.hid (show ∀ j:Nat,j < k+1→¬ PoseOf s ⟨j,x,y⟩ from fun j hj hp=>by
            by_cases e:j=k
            · subst e;rw [hp.1] at hv;cases hv
            · exact HNO.out j (by omega) hp)
          have HV:=Lib.hid (show fmtPose (k:Int) x y=⟨#[]⟩ by unfold fmtPose;rw [hv];rfl)
          clear hv
          go_wp2_with (go_at_call 163;refine (spec_FormatPose_c _ _ _ _).mono ?_;rw [HV.out];rintro e w4 ⟨rfl,hb4⟩;have px4:=px.below hb4;have bx4:=bx.below hb4;have B4:=bTrans B hb4;have s0:=px4.bx.cells 0 _ rfl;have s1:=px4.bx.cells 1 _ rfl;have s2:=px4.bx.cells 2 _ rfl;have sf:=px4.bx.froz;have sz:=px4.lt)
          exact ⟨⟨k+1,by omega,HNX.out,by simpa using px4.set 0 (.int .i64 ((k:Int)+1)),bx4.set_ne (p:=⟨P,0,none⟩) (by simp only;omega) _,bSet B4 (p:=⟨P,0,none⟩) (by simp only;omega) _⟩,by rw [(px4.set 0 (.int .i64 ((k:Int)+1))).bx.cells 0 _ rfl,q0];simp only [Option.getD_some,intOf];omega⟩
        | true =>
          have hne:Hid ((fmtPose (k:Int) x y).toList.isEmpty=false):=by
            unfold fmtPose;rw [hv,if_pos rfl,ByteArray.toList_eq];simp [Hid,poseL,itoa_ne]
          have tok1:True:=trivial
          cases he:((fmtPose (k:Int) x y).toList == s.toList) with
          | true =>
            have HP:=Lib.hid (psPose_some ((fmt_iff hv).1 he))
            clear hv
            have hne:=hne.out
            go_wp2_with (first | (have _t:=tok1;go_at_call 163;refine (spec_FormatPose_c _ _ _ _).mono ?_;rintro e w4 ⟨rfl,hb4⟩;have px4:=px.below hb4;have bx4:=bx.below hb4;have B4:=bTrans B hb4;clear tok1;have s0:=px4.bx.cells 0 _ rfl;have s1:=px4.bx.cells 1 _ rfl;have s2:=px4.bx.cells 2 _ rfl;have sf:=px4.bx.froz;have sz:=px4.lt) | (go_at_call 163;refine (spec_FormatPose_c _ _ _ _).mono ?_;rintro e w5 ⟨rfl,hb5⟩;have px5:=px4.below hb5;have bx5:=bx4.below hb5;have B5:=bTrans B4 hb5;have t0:=px5.bx.cells 0 _ rfl;have t1:=px5.bx.cells 1 _ rfl;have t2:=px5.bx.cells 2 _ rfl;have tf:=px5.bx.froz;have tz:=px5.lt;have r0:=bx5.bx.cells 0 _ rfl;have r1:=bx5.bx.cells 1 _ rfl;have r2:=bx5.bx.cells 2 _ rfl;have rf:=bx5.bx.froz;have rz:=bx5.lt))
            refine bodyPost_ret (v:=.tuple #[vPose (k:Int) x y,.bool true]) (by simp [*,results,Tryz.results199,go_sem]) rfl ⟨by rw [HP.out];rfl,?_⟩
            exact b3 B5 (Nat.le_refl _) _ _ _
          | false =>
            have HNX:=Lib.hid (show ∀ j:Nat,j < k+1→¬ PoseOf s ⟨j,x,y⟩ from fun j hj hp=>by
              by_cases e:j=k
              · subst e;rw [(fmt_iff hv).2 hp] at he;cases he
              · exact HNO.out j (by omega) hp)
            clear hv
            have hne:=hne.out
            go_wp2_with (first | (have _t:=tok1;go_at_call 163;refine (spec_FormatPose_c _ _ _ _).mono ?_;rintro e w4 ⟨rfl,hb4⟩;have px4:=px.below hb4;have bx4:=bx.below hb4;have B4:=bTrans B hb4;clear tok1;have s0:=px4.bx.cells 0 _ rfl;have s1:=px4.bx.cells 1 _ rfl;have s2:=px4.bx.cells 2 _ rfl;have sf:=px4.bx.froz;have sz:=px4.lt) | (go_at_call 163;refine (spec_FormatPose_c _ _ _ _).mono ?_;rintro e w5 ⟨rfl,hb5⟩;have px5:=px4.below hb5;have bx5:=bx4.below hb5;have B5:=bTrans B4 hb5;have t0:=px5.bx.cells 0 _ rfl;have t1:=px5.bx.cells 1 _ rfl;have t2:=px5.bx.cells 2 _ rfl;have tf:=px5.bx.froz;have tz:=px5.lt))
            exact ⟨⟨k+1,by omega,HNX.out,by simpa using px5.set 0 (.int .i64 ((k:Int)+1)),bx5.set_ne (p:=⟨P,0,none⟩) (by simp only;omega) _,bSet B5 (p:=⟨P,0,none⟩) (by simp only;omega) _⟩,by rw [(px5.set 0 (.int .i64 ((k:Int)+1))).bx.cells 0 _ rfl,q0];simp only [Option.getD_some,intOf];omega⟩
      · obtain rfl:k=4:=by omega
        have HN:=Lib.hid (HALL.out HNO.out)
        have r0:=bx.bx.cells 0 _ rfl;have r1:=bx.bx.cells 1 _ rfl;have r2:=bx.bx.cells 2 _ rfl;have rf:=bx.bx.froz;have rz:=bx.lt
        go_wp2_with fail
        refine bodyPost_ret (v:=.tuple #[vPose 0 0 0,.bool false]) (by simp [*,results,Tryz.results199,go_sem]) rfl ⟨by rw [HN.out];rfl,?_⟩
        exact b3 B (Nat.le_refl _) _ _ _
  · have HN:=Lib.hid (pose_none_len HL.out (by omega))
    have r0:=bx1.bx.cells 0 _ rfl;have r1:=bx1.bx.cells 1 _ rfl;have r2:=bx1.bx.cells 2 _ rfl;have rf:=bx1.bx.froz;have rz:=bx1.lt
    go_wp2_with fail
    refine bodyPost_ret (v:=.tuple #[vPose 0 0 0,.bool false]) (by simp [*,results,Tryz.results199,go_sem]) rfl ⟨by rw [HN.out];rfl,?_⟩
    exact b3 B1 (Nat.le_refl _) _ _ _
theorem nm_size8 {s:ByteArray} {b:Int} (h:nmWith s b=true):s.size≤8:=by
  unfold nmWith isNm at h
  simp only [Bool.and_eq_true,decide_eq_true_eq] at h
  omega
theorem nm_nonempty {s:ByteArray} {b:Int} (h:nmWith s b=true):s.toList.isEmpty=false:=by
  unfold nmWith isNm at h
  simp only [Bool.and_eq_true,decide_eq_true_eq] at h
  rw [ByteArray.toList_eq]
  have h1:1≤s.data.size:=h.1.1.1
  cases hd:s.data.toList with
  | nil=>rw [← Array.length_toList,hd] at h1;simp at h1
  | cons a l=>rfl
theorem fmtPose_data {t x y:Int} (h:vldPose t x y=true):(fmtPose t x y).data.toList=poseL t x y:=by simp [fmtPose,h]
theorem fmtPose_size {t x y:Int} (h:vldPose t x y=true):(fmtPose t x y).size≤45:=by
  simp only [fmtPose,h,if_true];rw [bsz];exact pose_len h
end Go.Proofs.YtdfemnffpaopfaaGreatDoor
