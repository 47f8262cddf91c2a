/- Texts of this proof, one behind the other: Pkt. -/
import Derived.Test.YtdfemnffpaopfaaGreatDoorGrs6
import Derived.Test.YtdfemnffpaopfaaGreatDoorGrs8
import Derived.Test.YtdfemnffpaopfaaGreatDoorGrs20
namespace Go.Proofs.YtdfemnffpaopfaaGreatDoor
open Go.RowKit
set_option linter.unusedVariables false
set_option linter.unusedSimpArgs false
set_option maxHeartbeats 1000000
set_option maxRecDepth 100000
theorem spec_PacketSum_false (num:Int) (tx:ByteArray) (sum:Int) (w:World) (h0:-9223372036854775808≤num) (h1:num≤9223372036854775807) (ht:tx.size≤4194304) :
    Calls Tryz.prog 197 #[vPacket false num tx sum] w fun e w'=>e=rInt (pktSum num tx false)∧Below w.heap.size w w':=by
  obtain ⟨s0,e0,z0,c0⟩:=cat (itoaB num) ⟨#[32]⟩ 21 1 (itoaB_size h0 h1) (by decide) (by omega)
  obtain ⟨s1,e1,z1,c1⟩:=cat s0 tx 22 4194304 z0 ht (by omega)
  have hfin:Hid (pktSum num tx false=chk s1):=by
    unfold Hid pktSum
    congr 1
    rw [← e1.out,← e0.out]
    apply bext
    simp [pktL,itoaB,ByteArray.data_append]
  go_enter Tryz.func197,Tryz.ntmps197
  go_wp2_with fail
  refine region_at fun R hR=>?_
  have hwb:Below w.heap.size w R:=by rw [hR.out];exact bAlloc (Below.refl _ _) _
  have g0:=cell_regrown (show R.cell? ⟨w.heap.size,0,none⟩=some (.bool false) by rw [hR.out];exact cells_a rfl)
  have g1:=cell_regrown (show R.cell? ⟨w.heap.size,1,none⟩=some (.int .i64 num) by rw [hR.out];exact cells_a rfl)
  have g2:=cell_regrown (show R.cell? ⟨w.heap.size,2,none⟩=some (.string tx) by rw [hR.out];exact cells_a rfl)
  have g3:=cell_regrown (show R.cell? ⟨w.heap.size,3,none⟩=some (.int .i64 sum) by rw [hR.out];exact cells_a rfl)
  have cV:∀ d os,Calls Tryz.prog 81 #[.int .i64 num] (Go.Sort.grow (redrawn R d) os) fun e w2=>e=.returned (.string (itoaB num))∧∃ p:Regrown,w2=Go.Sort.grow (redrawn R p.d) p.os:=fun d os=>Calls.regrown_of (spec_FormatInt_c num _ h0 h1)
  clear hR
  refine wp_region_quiet_below (by kernel_rfl) (by kernel_rfl) ?_
  repeat (go_big_quiet_step (first | exact cV _ _))
  refine wpQuiet_nil ?_
  intro _ hw
  obtain ⟨⟨dq,osq⟩,hw⟩:=hw
  subst hw
  have hbq:=bTrans hwb (below_regrown R dq osq)
  have k0:=g0 dq osq
  clear g1 g2 g3 g0 cV
  go_wp2_with (go_at_call 162;refine (spec_Checksum_c _ _ (by omega)).mono ?_;rintro e w1 ⟨rfl,rfl⟩)
  go_ret
  exact ⟨by rw [hfin.out];rfl,hbq⟩
theorem impl_PacketSum_false (num:Int) (tx:ByteArray) (sum:Int) (w:World) (h0:-9223372036854775808≤num) (h1:num≤9223372036854775807) (ht:tx.size≤4194304) (hT:Tab w) :
    Calls Tryz.prog 176 #[vPacket false num tx sum] w fun e w'=>e=rInt (pktSum num tx false)∧Below w.heap.size w w':=by
  have HT:=Lib.hid hT
  clear hT
  obtain ⟨s0,e0,z0,c0⟩:=cat (itoaB num) ⟨#[32]⟩ 21 1 (itoaB_size h0 h1) (by decide) (by omega)
  obtain ⟨s1,e1,z1,c1⟩:=cat s0 tx 22 4194304 z0 ht (by omega)
  have hfin:Hid (pktSum num tx false=chk s1):=by
    unfold Hid pktSum
    congr 1
    rw [← e1.out,← e0.out]
    apply bext
    simp [pktL,itoaB,ByteArray.data_append]
  go_enter Tryz.func176,Tryz.ntmps176
  go_wp2_with fail
  refine region_at fun R hR=>?_
  have hwb:Below w.heap.size w R:=by rw [hR.out];exact bAlloc (Below.refl _ _) _
  have g0:=cell_regrown (show R.cell? ⟨w.heap.size,0,none⟩=some (.bool false) by rw [hR.out];exact cells_a rfl)
  have g1:=cell_regrown (show R.cell? ⟨w.heap.size,1,none⟩=some (.int .i64 num) by rw [hR.out];exact cells_a rfl)
  have g2:=cell_regrown (show R.cell? ⟨w.heap.size,2,none⟩=some (.string tx) by rw [hR.out];exact cells_a rfl)
  have g3:=cell_regrown (show R.cell? ⟨w.heap.size,3,none⟩=some (.int .i64 sum) by rw [hR.out];exact cells_a rfl)
  have tR:=(HT.out).below hwb
  have cV:∀ d os,Calls Tryz.prog 45 #[.int .i64 num] (Go.Sort.grow (redrawn R d) os) fun e w2=>e=.returned (.string (itoaB num))∧∃ p:Regrown,w2=Go.Sort.grow (redrawn R p.d) p.os:=fun d os=>Calls.regrown_of (impl_FormatInt_c num _ h0 h1 (tR.below (below_regrown R d os)))
  clear hR tR
  refine wp_region_quiet_below (by kernel_rfl) (by kernel_rfl) ?_
  repeat (go_big_quiet_step (first | exact cV _ _))
  refine wpQuiet_nil ?_
  intro _ hw
  obtain ⟨⟨dq,osq⟩,hw⟩:=hw
  subst hw
  have hbq:=bTrans hwb (below_regrown R dq osq)
  have k0:=g0 dq osq
  clear g1 g2 g3 g0 cV
  go_wp2_with (go_at_call 47;refine (impl_Checksum_c _ _ (by omega)).mono ?_;rintro e w1 ⟨rfl,rfl⟩)
  go_ret
  exact ⟨by rw [hfin.out];rfl,hbq⟩
theorem spec_PacketSum_true (num:Int) (tx:ByteArray) (sum:Int) (w:World) (h0:-9223372036854775808≤num) (h1:num≤9223372036854775807) (ht:tx.size≤4194304) :
    Calls Tryz.prog 197 #[vPacket true num tx sum] w fun e w'=>e=rInt (pktSum num tx true)∧Below w.heap.size w w':=by
  obtain ⟨s0,e0,z0,c0⟩:=cat (itoaB num) ⟨#[32]⟩ 21 1 (itoaB_size h0 h1) (by decide) (by omega)
  obtain ⟨s1,e1,z1,c1⟩:=cat s0 tx 22 4194304 z0 ht (by omega)
  obtain ⟨s2,e2,z2,c2⟩:=cat s1 ⟨#[32,97,99,107]⟩ (22+4194304) 4 z1 (by decide) (by omega)
  have hfin:Hid (pktSum num tx true=chk s2):=by
    unfold Hid pktSum
    congr 1
    rw [← e2.out,← e1.out,← e0.out]
    apply bext
    simp [pktL,itoaB,ByteArray.data_append]
  go_enter Tryz.func197,Tryz.ntmps197
  go_wp2_with fail
  refine region_at fun R hR=>?_
  have hwb:Below w.heap.size w R:=by rw [hR.out];exact bAlloc (Below.refl _ _) _
  have g0:=cell_regrown (show R.cell? ⟨w.heap.size,0,none⟩=some (.bool true) by rw [hR.out];exact cells_a rfl)
  have g1:=cell_regrown (show R.cell? ⟨w.heap.size,1,none⟩=some (.int .i64 num) by rw [hR.out];exact cells_a rfl)
  have g2:=cell_regrown (show R.cell? ⟨w.heap.size,2,none⟩=some (.string tx) by rw [hR.out];exact cells_a rfl)
  have g3:=cell_regrown (show R.cell? ⟨w.heap.size,3,none⟩=some (.int .i64 sum) by rw [hR.out];exact cells_a rfl)
  have cV:∀ d os,Calls Tryz.prog 81 #[.int .i64 num] (Go.Sort.grow (redrawn R d) os) fun e w2=>e=.returned (.string (itoaB num))∧∃ p:Regrown,w2=Go.Sort.grow (redrawn R p.d) p.os:=fun d os=>Calls.regrown_of (spec_FormatInt_c num _ h0 h1)
  clear hR
  refine wp_region_quiet_below (by kernel_rfl) (by kernel_rfl) ?_
  repeat (go_big_quiet_step (first | exact cV _ _))
  refine wpQuiet_nil ?_
  intro _ hw
  obtain ⟨⟨dq,osq⟩,hw⟩:=hw
  subst hw
  have hbq:=bTrans hwb (below_regrown R dq osq)
  have k0:=g0 dq osq
  clear g1 g2 g3 g0 cV
  go_wp2_with (go_at_call 162;refine (spec_Checksum_c _ _ (by omega)).mono ?_;rintro e w1 ⟨rfl,rfl⟩)
  go_ret
  exact ⟨by rw [hfin.out];rfl,hbq⟩
theorem impl_PacketSum_true (num:Int) (tx:ByteArray) (sum:Int) (w:World) (h0:-9223372036854775808≤num) (h1:num≤9223372036854775807) (ht:tx.size≤4194304) (hT:Tab w) :
    Calls Tryz.prog 176 #[vPacket true num tx sum] w fun e w'=>e=rInt (pktSum num tx true)∧Below w.heap.size w w':=by
  have HT:=Lib.hid hT
  clear hT
  obtain ⟨s0,e0,z0,c0⟩:=cat (itoaB num) ⟨#[32]⟩ 21 1 (itoaB_size h0 h1) (by decide) (by omega)
  obtain ⟨s1,e1,z1,c1⟩:=cat s0 tx 22 4194304 z0 ht (by omega)
  obtain ⟨s2,e2,z2,c2⟩:=cat s1 ⟨#[32,97,99,107]⟩ (22+4194304) 4 z1 (by decide) (by omega)
  have hfin:Hid (pktSum num tx true=chk s2):=by
    unfold Hid pktSum
    congr 1
    rw [← e2.out,← e1.out,← e0.out]
    apply bext
    simp [pktL,itoaB,ByteArray.data_append]
  go_enter Tryz.func176,Tryz.ntmps176
  go_wp2_with fail
  refine region_at fun R hR=>?_
  have hwb:Below w.heap.size w R:=by rw [hR.out];exact bAlloc (Below.refl _ _) _
  have g0:=cell_regrown (show R.cell? ⟨w.heap.size,0,none⟩=some (.bool true) by rw [hR.out];exact cells_a rfl)
  have g1:=cell_regrown (show R.cell? ⟨w.heap.size,1,none⟩=some (.int .i64 num) by rw [hR.out];exact cells_a rfl)
  have g2:=cell_regrown (show R.cell? ⟨w.heap.size,2,none⟩=some (.string tx) by rw [hR.out];exact cells_a rfl)
  have g3:=cell_regrown (show R.cell? ⟨w.heap.size,3,none⟩=some (.int .i64 sum) by rw [hR.out];exact cells_a rfl)
  have tR:=(HT.out).below hwb
  have cV:∀ d os,Calls Tryz.prog 45 #[.int .i64 num] (Go.Sort.grow (redrawn R d) os) fun e w2=>e=.returned (.string (itoaB num))∧∃ p:Regrown,w2=Go.Sort.grow (redrawn R p.d) p.os:=fun d os=>Calls.regrown_of (impl_FormatInt_c num _ h0 h1 (tR.below (below_regrown R d os)))
  clear hR tR
  refine wp_region_quiet_below (by kernel_rfl) (by kernel_rfl) ?_
  repeat (go_big_quiet_step (first | exact cV _ _))
  refine wpQuiet_nil ?_
  intro _ hw
  obtain ⟨⟨dq,osq⟩,hw⟩:=hw
  subst hw
  have hbq:=bTrans hwb (below_regrown R dq osq)
  have k0:=g0 dq osq
  clear g1 g2 g3 g0 cV
  go_wp2_with (go_at_call 47;refine (impl_Checksum_c _ _ (by omega)).mono ?_;rintro e w1 ⟨rfl,rfl⟩)
  go_ret
  exact ⟨by rw [hfin.out];rfl,hbq⟩
theorem impl_PacketSum_c (ack:Bool) (num:Int) (tx:ByteArray) (sum:Int) (w:World) (h0:-9223372036854775808≤num) (h1:num≤9223372036854775807) (ht:tx.size≤4194304) (hT:Tab w) :
    Calls Tryz.prog 176 #[vPacket ack num tx sum] w fun e w'=>e=rInt (pktSum num tx ack)∧Below w.heap.size w w':=by
  cases ack
  · exact impl_PacketSum_false num tx sum w h0 h1 ht hT
  · exact impl_PacketSum_true num tx sum w h0 h1 ht hT
theorem impl_IsIntact_c (ack:Bool) (num:Int) (tx:ByteArray) (sum:Int) (w:World) (h0:-9223372036854775808≤num) (h1:num≤9223372036854775807) (ht:tx.size≤4194304) (hT:Tab w) :
    Calls Tryz.prog 178 #[vPacket ack num tx sum] w fun e w'=>e=rBool (sum == pktSum num tx ack)∧Below w.heap.size w w':=by
  have HT:=Lib.hid hT
  clear hT
  generalize hs:pktSum num tx ack=S
  have HS:=Lib.hid hs
  clear hs
  go_enter Tryz.func178,Tryz.ntmps178
  go_wp2_with fail
  refine region_at fun R hR=>?_
  have hwb:Below w.heap.size w R:=by rw [hR.out];exact bAlloc (Below.refl _ _) _
  have g0:=cell_regrown (show R.cell? ⟨w.heap.size,0,none⟩=some (.bool ack) by rw [hR.out];exact cells_a rfl)
  have g1:=cell_regrown (show R.cell? ⟨w.heap.size,1,none⟩=some (.int .i64 num) by rw [hR.out];exact cells_a rfl)
  have g2:=cell_regrown (show R.cell? ⟨w.heap.size,2,none⟩=some (.string tx) by rw [hR.out];exact cells_a rfl)
  have g3:=cell_regrown (show R.cell? ⟨w.heap.size,3,none⟩=some (.int .i64 sum) by rw [hR.out];exact cells_a rfl)
  have tR:=(HT.out).below hwb
  have cV:∀ d os,Calls Tryz.prog 176 #[vPacket ack num tx sum] (Go.Sort.grow (redrawn R d) os) fun e w2=>e=rInt S∧∃ p:Regrown,w2=Go.Sort.grow (redrawn R p.d) p.os:=fun d os=>Calls.regrown_of (by rw [← HS.out];exact impl_PacketSum_c ack num tx sum _ h0 h1 ht (tR.below (below_regrown R d os)))
  clear hR tR
  refine wp_region_quiet_below (by kernel_rfl) (by kernel_rfl) ?_
  repeat (go_big_quiet_step (first | exact cV _ _))
  refine wpQuiet_nil ?_
  intro _ hw
  obtain ⟨⟨dq,osq⟩,hw⟩:=hw
  subst hw
  have hbq:=bTrans hwb (below_regrown R dq osq)
  clear g0 g1 g2 g3 cV
  go_wp2
  go_ret
  exact ⟨rfl,hbq⟩
end Go.Proofs.YtdfemnffpaopfaaGreatDoor
