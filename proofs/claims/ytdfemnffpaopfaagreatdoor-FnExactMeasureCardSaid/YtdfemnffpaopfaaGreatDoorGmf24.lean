/- Texts of this proof, one behind the other: FBun. -/
import Derived.Test.YtdfemnffpaopfaaGreatDoorGmf6
import Derived.Test.YtdfemnffpaopfaaGreatDoorGmf19
import Derived.Test.YtdfemnffpaopfaaGreatDoorGmf21
import Derived.Test.YtdfemnffpaopfaaGreatDoorGmf22
namespace Go.Proofs.YtdfemnffpaopfaaGreatDoor
open Go.RowKit
set_option linter.unusedVariables false
set_option linter.unusedSimpArgs false
set_option maxHeartbeats 1000000
set_option maxRecDepth 100000
theorem spec_FormatBundle_k (v:Sv) (b:Bundle) (w:World) (hm:bulkB b≤4194304) (hok:okB b) (hr:RdB w v b) :
    Calls Tryz.prog 71 #[vBundle b.robot v.A v.n v.c] w fun e w'=>e=.returned (.string (fmtBun b))∧Below w.heap.size w w':=by
  have hB0:Below w.heap.size w (w.alloc (.cells #[.int .i64 b.robot,.slice v.A v.n v.c] 80)):=bAlloc (Below.refl _ _) _
  have rdb:=RdF.below hr hB0
  have HIV:=Lib.hid (spec_IsValidBundle_k v b (w.alloc (.cells #[.int .i64 b.robot,.slice v.A v.n v.c] 80)) hm hok rdb)
  clear rdb hB0
  cases hbv:isBundle b.robot b.factors
  · have hfin:Hid (fmtBun b=⟨#[]⟩):=by simp [Hid,fmtBun,hbv]
    have HB:=Lib.hid hbv
    clear hbv
    go_enter Tryz.func71,Tryz.ntmps71
    go_wp2_with (go_at_call 120;refine (HIV.out).mono ?_;rw [HB.out];rintro e w1 ⟨rfl,hb1⟩)
    go_ret
    exact ⟨by rw [hfin.out];rfl,bTrans (bAlloc (Below.refl _ _) _) hb1⟩
  · have hfin:Hid (fmtBun b=bunT b.robot b.factors):=by simp [Hid,fmtBun,hbv]
    have HB:=Lib.hid hbv
    obtain ⟨r0,r1,h4,hall⟩:=isBundle_parts hbv
    have hsz:=bulkF_small hm
    have hl:Hid (b.factors.length=v.n):=RdF.len hr
    have hn:v.n≤4:=by have:=hl.out;omega
    have hrow:RowF w v.A v.n b.factors:=hr
    obtain ⟨A,n,c⟩:=v
    obtain ⟨R,l⟩:=b
    dsimp only at hl hn hrow r0 r1 hall hsz HB HIV
    obtain ⟨s0,e0,z0,c0⟩:=cat ⟨#[98,117,110,100,108,101,32]⟩ (itoaB R) 7 21 (by decide) (itoaB_size (by omega) (by omega)) (by omega)
    have hst:BtInv R l 0 s0:=by
      unfold BtInv
      rw [← e0.out]
      simp [bunT,itoaB,ByteArray.data_append]
    have HST:=Lib.hid hst
    clear hr hm hok hbv hst h4
    go_enter Tryz.func71,Tryz.ntmps71
    go_wp2_with (first
      | (go_at_call 120;refine (HIV.out).mono ?_;rw [HB.out];rintro e w1 ⟨rfl,hb1⟩;have k1:=bBox hb1 w.heap.size (by simp);have hz1:=bsz1 hb1;have B1:Below w.heap.size w w1:=bTrans (bAlloc (Below.refl _ _) _) hb1)
      | (go_at_call 81;refine (spec_FormatInt_c _ _ (by omega) (by omega)).mono ?_;rintro e w2 ⟨rfl,hb2⟩;have k2:=bBox hb2 w.heap.size (by omega);have hz2:w.heap.size+1≤w2.heap.size:=(by have:=hb2.size;omega);have B2:Below w.heap.size w w2:=bTrans (by with_reducible assumption) hb2))
    clear HIV k1 hb1 hz1 B1
    go_loopw [3,16] (fun s i wr=>∃ (k:Nat) (t:ByteArray),k≤n∧i=.int .i64 k∧s=.string t∧BtInv R l k t∧t.size≤28+117 * k∧Below w.heap.size w wr) (fun _ i _=>n - (intOf i).toNat)
    case atStart=>exact ⟨0,_,by omega,rfl,rfl,HST.out,by omega,B2⟩
    case round =>
      obtain ⟨k,s,hk,rfl,rfl,hi,hz,hb⟩:=hrel
      by_cases hlt:k < n
      · obtain ⟨f,g,off,hf,rfl,g0,g1,g2,g3,g4,g5,g6,g7⟩:=RowF.at_ (hrow.below hb) hlt
        have hsf:=Lib.hid (hsz f (List.mem_of_getElem? hf.out))
        have hz0:=fmtFac_size f
        have hvf:=hall f (List.mem_of_getElem? hf.out)
        generalize hF:fmtFac f=F at hz0
        have HF:Hid (fmtFac ⟨f.id,f.kind,f.frm,f.to,⟨f.pose.turn,f.pose.x,f.pose.y⟩,f.weight⟩=F):=hF
        have HZ:=Lib.hid hz0
        obtain ⟨u0,e0,z0,c0⟩:=cat s ⟨#[59]⟩ (28+117 * k) 1 hz (by decide) (by omega)
        obtain ⟨u1,e1,z1,c1⟩:=cat u0 F (28+117 * k+1) 116 z0 HZ.out (by omega)
        have hnx:BtInv R l (k+1) u1:=hi.next hf hvf (by rw [hF,← e1.out,← e0.out];simp [ByteArray.data_append])
        have HI:=Lib.hid hnx
        clear hF hi hnx hz0 hvf
        go_wp2_with (go_at_call 121;refine (spec_FormatFactor_c _ _ _ _ _ _ _ _ _ hsf.out.1 hsf.out.2).mono ?_;rw [HF.out];rintro e w1 ⟨rfl,hb1⟩)
        exact ⟨⟨k+1,u1,by omega,by simp,rfl,HI.out,by omega,bTrans (by first | with_reducible assumption | exact bAlloc (by with_reducible assumption) _) hb1⟩,by simp only [intOf];omega⟩
      · have hd:=hi.done hl hlt
        have HD:=Lib.hid hd
        clear hd hi
        go_wp2
        go_ret
        exact ⟨by rw [hfin.out,← HD.out];rfl,hb⟩
theorem impl_FormatBundle_k (v:Sv) (b:Bundle) (w:World) (hm:bulkB b≤4194304) (hok:okB b) (hr:RdB w v b) (hT:Tab w) :
    Calls Tryz.prog 38 #[vBundle b.robot v.A v.n v.c] w fun e w'=>e=.returned (.string (fmtBun b))∧Below w.heap.size w w':=by
  have HT:=Lib.hid hT
  clear hT
  have hB0:Below w.heap.size w (w.alloc (.cells #[.int .i64 b.robot,.slice v.A v.n v.c] 80)):=bAlloc (Below.refl _ _) _
  have rdb:=RdF.below hr hB0
  have HIV:=Lib.hid (impl_IsValidBundle_k v b (w.alloc (.cells #[.int .i64 b.robot,.slice v.A v.n v.c] 80)) hm hok rdb)
  clear rdb hB0
  cases hbv:isBundle b.robot b.factors
  · have hfin:Hid (fmtBun b=⟨#[]⟩):=by simp [Hid,fmtBun,hbv]
    have HB:=Lib.hid hbv
    clear hbv
    go_enter Tryz.func38,Tryz.ntmps38
    go_wp2_with (go_at_call 88;refine (HIV.out).mono ?_;rw [HB.out];rintro e w1 ⟨rfl,hb1⟩)
    go_ret
    exact ⟨by rw [hfin.out];rfl,bTrans (bAlloc (Below.refl _ _) _) hb1⟩
  · have hfin:Hid (fmtBun b=bunT b.robot b.factors):=by simp [Hid,fmtBun,hbv]
    have HB:=Lib.hid hbv
    obtain ⟨r0,r1,h4,hall⟩:=isBundle_parts hbv
    have hsz:=bulkF_small hm
    have hl:Hid (b.factors.length=v.n):=RdF.len hr
    have hn:v.n≤4:=by have:=hl.out;omega
    have hrow:RowF w v.A v.n b.factors:=hr
    obtain ⟨A,n,c⟩:=v
    obtain ⟨R,l⟩:=b
    dsimp only at hl hn hrow r0 r1 hall hsz HB HIV
    obtain ⟨s0,e0,z0,c0⟩:=cat ⟨#[98,117,110,100,108,101,32]⟩ (itoaB R) 7 21 (by decide) (itoaB_size (by omega) (by omega)) (by omega)
    have hst:BtInv R l 0 s0:=by
      unfold BtInv
      rw [← e0.out]
      simp [bunT,itoaB,ByteArray.data_append]
    have HST:=Lib.hid hst
    clear hr hm hok hbv hst h4
    go_enter Tryz.func38,Tryz.ntmps38
    go_wp2_with (first
      | (go_at_call 88;refine (HIV.out).mono ?_;rw [HB.out];rintro e w1 ⟨rfl,hb1⟩;have k1:=bBox hb1 w.heap.size (by simp);have hz1:=bsz1 hb1;have B1:Below w.heap.size w w1:=bTrans (bAlloc (Below.refl _ _) _) hb1)
      | (go_at_call 45;refine (impl_FormatInt_c _ _ (by omega) (by omega) (HT.out.below (by first | with_reducible assumption | exact bAlloc (by with_reducible assumption) _))).mono ?_;rintro e w2 ⟨rfl,hb2⟩;have k2:=bBox hb2 w.heap.size (by omega);have hz2:w.heap.size+1≤w2.heap.size:=(by have:=hb2.size;omega);have B2:Below w.heap.size w w2:=bTrans (by with_reducible assumption) hb2))
    clear HIV k1 hb1 hz1 B1
    go_loopw [3,16] (fun s i wr=>∃ (k:Nat) (t:ByteArray),k≤n∧i=.int .i64 k∧s=.string t∧BtInv R l k t∧t.size≤28+117 * k∧Below w.heap.size w wr) (fun _ i _=>n - (intOf i).toNat)
    case atStart=>exact ⟨0,_,by omega,rfl,rfl,HST.out,by omega,B2⟩
    case round =>
      obtain ⟨k,s,hk,rfl,rfl,hi,hz,hb⟩:=hrel
      by_cases hlt:k < n
      · obtain ⟨f,g,off,hf,rfl,g0,g1,g2,g3,g4,g5,g6,g7⟩:=RowF.at_ (hrow.below hb) hlt
        have hsf:=Lib.hid (hsz f (List.mem_of_getElem? hf.out))
        have hz0:=fmtFac_size f
        have hvf:=hall f (List.mem_of_getElem? hf.out)
        generalize hF:fmtFac f=F at hz0
        have HF:Hid (fmtFac ⟨f.id,f.kind,f.frm,f.to,⟨f.pose.turn,f.pose.x,f.pose.y⟩,f.weight⟩=F):=hF
        have HZ:=Lib.hid hz0
        obtain ⟨u0,e0,z0,c0⟩:=cat ⟨#[59]⟩ F 1 116 (by decide) HZ.out (by omega)
        obtain ⟨u1,e1,z1,c1⟩:=cat s u0 (28+117 * k) 117 hz z0 (by omega)
        have hnx:BtInv R l (k+1) u1:=hi.next hf hvf (by rw [hF,← e1.out,← e0.out];simp [ByteArray.data_append])
        have HI:=Lib.hid hnx
        clear hF hi hnx hz0 hvf
        go_wp2_with (go_at_call 46;refine (impl_FormatFactor_c _ _ _ _ _ _ _ _ _ hsf.out.1 hsf.out.2 (HT.out.below (by first | with_reducible assumption | exact bAlloc (by with_reducible assumption) _))).mono ?_;rw [HF.out];rintro e w1 ⟨rfl,hb1⟩)
        exact ⟨⟨k+1,u1,by omega,by simp,rfl,HI.out,by omega,bTrans (by first | with_reducible assumption | exact bAlloc (by with_reducible assumption) _) hb1⟩,by simp only [intOf];omega⟩
      · have hd:=hi.done hl hlt
        have HD:=Lib.hid hd
        clear hd hi
        go_wp2
        go_ret
        exact ⟨by rw [hfin.out,← HD.out];rfl,hb⟩
end Go.Proofs.YtdfemnffpaopfaaGreatDoor
