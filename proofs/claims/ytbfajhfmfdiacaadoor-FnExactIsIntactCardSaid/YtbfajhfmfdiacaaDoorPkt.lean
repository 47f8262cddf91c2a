/- PacketSum, IsIntact: what the two of each answer; the walks of their laws. -/
import Derived.Test.YtbfajhfmfdiacaaDoorFmtA
import Derived.Test.YtbfajhfmfdiacaaDoorSz
import Derived.Test.YtbfajhfmfdiacaaDoorTo
import Derived.Test.YtbfajhfmfdiacaaDoorLaw
namespace Go.Proofs.YtbfajhfmfdiacaaDoor
open Go.RowKit
set_option linter.unusedVariables false
set_option linter.unusedSimpArgs false
set_option maxHeartbeats 1000000
set_option maxRecDepth 100000
theorem spec_PacketSum_false (num : Int) (tx : ByteArray) (sum : Int) (w : World) (h0 : -9223372036854775808 ≤ num) (h1 : num ≤ 9223372036854775807) (ht : tx.size ≤ 1048576) :
    Calls Tryd.prog 20 #[vPacket false num tx sum] w fun e w' => e = rInt (pktSum num tx false) ∧ Below w.heap.size w w' := by
  obtain ⟨s0, e0, z0, c0⟩ := cat (itoaB num) ⟨#[32]⟩ 21 1 (itoaB_size h0 h1) (by decide) (by omega)
  obtain ⟨s1, e1, z1, c1⟩ := cat s0 tx 22 1048576 z0 ht (by omega)
  have hfin : Hid (pktSum num tx false = chk s1) := by
    unfold Hid pktSum
    congr 1
    rw [← e1.out, ← e0.out]
    apply bext
    simp [pktL, itoaB, ByteArray.data_append]
  go_enter Tryd.func20, Tryd.ntmps20
  go_wp2_with fail
  refine region_at fun R hR => ?_
  have hwb : Below w.heap.size w R := by rw [hR.out]; exact bAlloc (Below.refl _ _) _
  have g0 := cell_regrown (show R.cell? ⟨w.heap.size, 0, none⟩ = some (.bool false) by rw [hR.out]; exact cells_a rfl)
  have g1 := cell_regrown (show R.cell? ⟨w.heap.size, 1, none⟩ = some (.int .i64 num) by rw [hR.out]; exact cells_a rfl)
  have g2 := cell_regrown (show R.cell? ⟨w.heap.size, 2, none⟩ = some (.string tx) by rw [hR.out]; exact cells_a rfl)
  have g3 := cell_regrown (show R.cell? ⟨w.heap.size, 3, none⟩ = some (.int .i64 sum) by rw [hR.out]; exact cells_a rfl)
  have cV : ∀ d os, Calls Tryd.prog 57 #[.int .i64 num] (Go.Sort.grow (redrawn R d) os) fun e w2 => e = .returned (.string (itoaB num)) ∧ ∃ p : Regrown, w2 = Go.Sort.grow (redrawn R p.d) p.os := fun d os => Calls.regrown_of (spec_FormatInt_c num _ h0 h1)
  clear hR
  refine wp_region_quiet_below (by kernel_rfl) (by kernel_rfl) ?_
  repeat (go_big_quiet_step (first | exact cV _ _))
  refine wpQuiet_nil ?_
  intro _ hw
  obtain ⟨⟨dq, osq⟩, hw⟩ := hw
  subst hw
  have hbq := bTrans hwb (below_regrown R dq osq)
  have k0 := g0 dq osq
  clear g1 g2 g3 g0 cV
  go_wp2_with (go_at_call 58; refine (spec_Checksum_c _ _ (by omega)).mono ?_; rintro e w1 ⟨rfl, rfl⟩)
  go_ret
  exact ⟨by rw [hfin.out]; rfl, hbq⟩
theorem impl_PacketSum_false (num : Int) (tx : ByteArray) (sum : Int) (w : World) (h0 : -9223372036854775808 ≤ num) (h1 : num ≤ 9223372036854775807) (ht : tx.size ≤ 1048576) (hT : Tab w) :
    Calls Tryd.prog 22 #[vPacket false num tx sum] w fun e w' => e = rInt (pktSum num tx false) ∧ Below w.heap.size w w' := by
  have HT := Lib.hid hT
  clear hT
  obtain ⟨s0, e0, z0, c0⟩ := cat (itoaB num) ⟨#[32]⟩ 21 1 (itoaB_size h0 h1) (by decide) (by omega)
  obtain ⟨s1, e1, z1, c1⟩ := cat s0 tx 22 1048576 z0 ht (by omega)
  have hfin : Hid (pktSum num tx false = chk s1) := by
    unfold Hid pktSum
    congr 1
    rw [← e1.out, ← e0.out]
    apply bext
    simp [pktL, itoaB, ByteArray.data_append]
  go_enter Tryd.func22, Tryd.ntmps22
  go_wp2_with fail
  refine region_at fun R hR => ?_
  have hwb : Below w.heap.size w R := by rw [hR.out]; exact bAlloc (Below.refl _ _) _
  have g0 := cell_regrown (show R.cell? ⟨w.heap.size, 0, none⟩ = some (.bool false) by rw [hR.out]; exact cells_a rfl)
  have g1 := cell_regrown (show R.cell? ⟨w.heap.size, 1, none⟩ = some (.int .i64 num) by rw [hR.out]; exact cells_a rfl)
  have g2 := cell_regrown (show R.cell? ⟨w.heap.size, 2, none⟩ = some (.string tx) by rw [hR.out]; exact cells_a rfl)
  have g3 := cell_regrown (show R.cell? ⟨w.heap.size, 3, none⟩ = some (.int .i64 sum) by rw [hR.out]; exact cells_a rfl)
  have tR := (HT.out).below hwb
  have cV : ∀ d os, Calls Tryd.prog 12 #[.int .i64 num] (Go.Sort.grow (redrawn R d) os) fun e w2 => e = .returned (.string (itoaB num)) ∧ ∃ p : Regrown, w2 = Go.Sort.grow (redrawn R p.d) p.os := fun d os => Calls.regrown_of (impl_FormatInt_c num _ h0 h1 (tR.below (below_regrown R d os)))
  clear hR tR
  refine wp_region_quiet_below (by kernel_rfl) (by kernel_rfl) ?_
  repeat (go_big_quiet_step (first | exact cV _ _))
  refine wpQuiet_nil ?_
  intro _ hw
  obtain ⟨⟨dq, osq⟩, hw⟩ := hw
  subst hw
  have hbq := bTrans hwb (below_regrown R dq osq)
  have k0 := g0 dq osq
  clear g1 g2 g3 g0 cV
  go_wp2_with (go_at_call 59; refine (impl_Checksum_c _ _ (by omega)).mono ?_; rintro e w1 ⟨rfl, rfl⟩)
  go_ret
  exact ⟨by rw [hfin.out]; rfl, hbq⟩
theorem spec_PacketSum_true (num : Int) (tx : ByteArray) (sum : Int) (w : World) (h0 : -9223372036854775808 ≤ num) (h1 : num ≤ 9223372036854775807) (ht : tx.size ≤ 1048576) :
    Calls Tryd.prog 20 #[vPacket true num tx sum] w fun e w' => e = rInt (pktSum num tx true) ∧ Below w.heap.size w w' := by
  obtain ⟨s0, e0, z0, c0⟩ := cat (itoaB num) ⟨#[32]⟩ 21 1 (itoaB_size h0 h1) (by decide) (by omega)
  obtain ⟨s1, e1, z1, c1⟩ := cat s0 tx 22 1048576 z0 ht (by omega)
  obtain ⟨s2, e2, z2, c2⟩ := cat s1 ⟨#[32, 97, 99, 107]⟩ (22 + 1048576) 4 z1 (by decide) (by omega)
  have hfin : Hid (pktSum num tx true = chk s2) := by
    unfold Hid pktSum
    congr 1
    rw [← e2.out, ← e1.out, ← e0.out]
    apply bext
    simp [pktL, itoaB, ByteArray.data_append]
  go_enter Tryd.func20, Tryd.ntmps20
  go_wp2_with fail
  refine region_at fun R hR => ?_
  have hwb : Below w.heap.size w R := by rw [hR.out]; exact bAlloc (Below.refl _ _) _
  have g0 := cell_regrown (show R.cell? ⟨w.heap.size, 0, none⟩ = some (.bool true) by rw [hR.out]; exact cells_a rfl)
  have g1 := cell_regrown (show R.cell? ⟨w.heap.size, 1, none⟩ = some (.int .i64 num) by rw [hR.out]; exact cells_a rfl)
  have g2 := cell_regrown (show R.cell? ⟨w.heap.size, 2, none⟩ = some (.string tx) by rw [hR.out]; exact cells_a rfl)
  have g3 := cell_regrown (show R.cell? ⟨w.heap.size, 3, none⟩ = some (.int .i64 sum) by rw [hR.out]; exact cells_a rfl)
  have cV : ∀ d os, Calls Tryd.prog 57 #[.int .i64 num] (Go.Sort.grow (redrawn R d) os) fun e w2 => e = .returned (.string (itoaB num)) ∧ ∃ p : Regrown, w2 = Go.Sort.grow (redrawn R p.d) p.os := fun d os => Calls.regrown_of (spec_FormatInt_c num _ h0 h1)
  clear hR
  refine wp_region_quiet_below (by kernel_rfl) (by kernel_rfl) ?_
  repeat (go_big_quiet_step (first | exact cV _ _))
  refine wpQuiet_nil ?_
  intro _ hw
  obtain ⟨⟨dq, osq⟩, hw⟩ := hw
  subst hw
  have hbq := bTrans hwb (below_regrown R dq osq)
  have k0 := g0 dq osq
  clear g1 g2 g3 g0 cV
  go_wp2_with (go_at_call 58; refine (spec_Checksum_c _ _ (by omega)).mono ?_; rintro e w1 ⟨rfl, rfl⟩)
  go_ret
  exact ⟨by rw [hfin.out]; rfl, hbq⟩
theorem impl_PacketSum_true (num : Int) (tx : ByteArray) (sum : Int) (w : World) (h0 : -9223372036854775808 ≤ num) (h1 : num ≤ 9223372036854775807) (ht : tx.size ≤ 1048576) (hT : Tab w) :
    Calls Tryd.prog 22 #[vPacket true num tx sum] w fun e w' => e = rInt (pktSum num tx true) ∧ Below w.heap.size w w' := by
  have HT := Lib.hid hT
  clear hT
  obtain ⟨s0, e0, z0, c0⟩ := cat (itoaB num) ⟨#[32]⟩ 21 1 (itoaB_size h0 h1) (by decide) (by omega)
  obtain ⟨s1, e1, z1, c1⟩ := cat s0 tx 22 1048576 z0 ht (by omega)
  obtain ⟨s2, e2, z2, c2⟩ := cat s1 ⟨#[32, 97, 99, 107]⟩ (22 + 1048576) 4 z1 (by decide) (by omega)
  have hfin : Hid (pktSum num tx true = chk s2) := by
    unfold Hid pktSum
    congr 1
    rw [← e2.out, ← e1.out, ← e0.out]
    apply bext
    simp [pktL, itoaB, ByteArray.data_append]
  go_enter Tryd.func22, Tryd.ntmps22
  go_wp2_with fail
  refine region_at fun R hR => ?_
  have hwb : Below w.heap.size w R := by rw [hR.out]; exact bAlloc (Below.refl _ _) _
  have g0 := cell_regrown (show R.cell? ⟨w.heap.size, 0, none⟩ = some (.bool true) by rw [hR.out]; exact cells_a rfl)
  have g1 := cell_regrown (show R.cell? ⟨w.heap.size, 1, none⟩ = some (.int .i64 num) by rw [hR.out]; exact cells_a rfl)
  have g2 := cell_regrown (show R.cell? ⟨w.heap.size, 2, none⟩ = some (.string tx) by rw [hR.out]; exact cells_a rfl)
  have g3 := cell_regrown (show R.cell? ⟨w.heap.size, 3, none⟩ = some (.int .i64 sum) by rw [hR.out]; exact cells_a rfl)
  have tR := (HT.out).below hwb
  have cV : ∀ d os, Calls Tryd.prog 12 #[.int .i64 num] (Go.Sort.grow (redrawn R d) os) fun e w2 => e = .returned (.string (itoaB num)) ∧ ∃ p : Regrown, w2 = Go.Sort.grow (redrawn R p.d) p.os := fun d os => Calls.regrown_of (impl_FormatInt_c num _ h0 h1 (tR.below (below_regrown R d os)))
  clear hR tR
  refine wp_region_quiet_below (by kernel_rfl) (by kernel_rfl) ?_
  repeat (go_big_quiet_step (first | exact cV _ _))
  refine wpQuiet_nil ?_
  intro _ hw
  obtain ⟨⟨dq, osq⟩, hw⟩ := hw
  subst hw
  have hbq := bTrans hwb (below_regrown R dq osq)
  have k0 := g0 dq osq
  clear g1 g2 g3 g0 cV
  go_wp2_with (go_at_call 59; refine (impl_Checksum_c _ _ (by omega)).mono ?_; rintro e w1 ⟨rfl, rfl⟩)
  go_ret
  exact ⟨by rw [hfin.out]; rfl, hbq⟩
theorem spec_PacketSum_c (ack : Bool) (num : Int) (tx : ByteArray) (sum : Int) (w : World) (h0 : -9223372036854775808 ≤ num) (h1 : num ≤ 9223372036854775807) (ht : tx.size ≤ 1048576) :
    Calls Tryd.prog 20 #[vPacket ack num tx sum] w fun e w' => e = rInt (pktSum num tx ack) ∧ Below w.heap.size w w' := by
  cases ack
  · exact spec_PacketSum_false num tx sum w h0 h1 ht
  · exact spec_PacketSum_true num tx sum w h0 h1 ht
theorem impl_PacketSum_c (ack : Bool) (num : Int) (tx : ByteArray) (sum : Int) (w : World) (h0 : -9223372036854775808 ≤ num) (h1 : num ≤ 9223372036854775807) (ht : tx.size ≤ 1048576) (hT : Tab w) :
    Calls Tryd.prog 22 #[vPacket ack num tx sum] w fun e w' => e = rInt (pktSum num tx ack) ∧ Below w.heap.size w w' := by
  cases ack
  · exact impl_PacketSum_false num tx sum w h0 h1 ht hT
  · exact impl_PacketSum_true num tx sum w h0 h1 ht hT
theorem spec_IsIntact_c (ack : Bool) (num : Int) (tx : ByteArray) (sum : Int) (w : World) (h0 : -9223372036854775808 ≤ num) (h1 : num ≤ 9223372036854775807) (ht : tx.size ≤ 1048576) :
    Calls Tryd.prog 23 #[vPacket ack num tx sum] w fun e w' => e = rBool (sum == pktSum num tx ack) ∧ Below w.heap.size w w' := by
  generalize hs : pktSum num tx ack = S
  have HS := Lib.hid hs
  clear hs
  go_enter Tryd.func23, Tryd.ntmps23
  go_wp2_with fail
  refine region_at fun R hR => ?_
  have hwb : Below w.heap.size w R := by rw [hR.out]; exact bAlloc (Below.refl _ _) _
  have g0 := cell_regrown (show R.cell? ⟨w.heap.size, 0, none⟩ = some (.bool ack) by rw [hR.out]; exact cells_a rfl)
  have g1 := cell_regrown (show R.cell? ⟨w.heap.size, 1, none⟩ = some (.int .i64 num) by rw [hR.out]; exact cells_a rfl)
  have g2 := cell_regrown (show R.cell? ⟨w.heap.size, 2, none⟩ = some (.string tx) by rw [hR.out]; exact cells_a rfl)
  have g3 := cell_regrown (show R.cell? ⟨w.heap.size, 3, none⟩ = some (.int .i64 sum) by rw [hR.out]; exact cells_a rfl)
  have cV : ∀ d os, Calls Tryd.prog 20 #[vPacket ack num tx sum] (Go.Sort.grow (redrawn R d) os) fun e w2 => e = rInt S ∧ ∃ p : Regrown, w2 = Go.Sort.grow (redrawn R p.d) p.os := fun d os => Calls.regrown_of (by rw [← HS.out]; exact spec_PacketSum_c ack num tx sum _ h0 h1 ht)
  clear hR
  refine wp_region_quiet_below (by kernel_rfl) (by kernel_rfl) ?_
  repeat (go_big_quiet_step (first | exact cV _ _))
  refine wpQuiet_nil ?_
  intro _ hw
  obtain ⟨⟨dq, osq⟩, hw⟩ := hw
  subst hw
  have hbq := bTrans hwb (below_regrown R dq osq)
  clear g0 g1 g2 g3 cV
  go_wp2
  go_ret
  exact ⟨rfl, hbq⟩
theorem impl_IsIntact_c (ack : Bool) (num : Int) (tx : ByteArray) (sum : Int) (w : World) (h0 : -9223372036854775808 ≤ num) (h1 : num ≤ 9223372036854775807) (ht : tx.size ≤ 1048576) (hT : Tab w) :
    Calls Tryd.prog 24 #[vPacket ack num tx sum] w fun e w' => e = rBool (sum == pktSum num tx ack) ∧ Below w.heap.size w w' := by
  have HT := Lib.hid hT
  clear hT
  generalize hs : pktSum num tx ack = S
  have HS := Lib.hid hs
  clear hs
  go_enter Tryd.func24, Tryd.ntmps24
  go_wp2_with fail
  refine region_at fun R hR => ?_
  have hwb : Below w.heap.size w R := by rw [hR.out]; exact bAlloc (Below.refl _ _) _
  have g0 := cell_regrown (show R.cell? ⟨w.heap.size, 0, none⟩ = some (.bool ack) by rw [hR.out]; exact cells_a rfl)
  have g1 := cell_regrown (show R.cell? ⟨w.heap.size, 1, none⟩ = some (.int .i64 num) by rw [hR.out]; exact cells_a rfl)
  have g2 := cell_regrown (show R.cell? ⟨w.heap.size, 2, none⟩ = some (.string tx) by rw [hR.out]; exact cells_a rfl)
  have g3 := cell_regrown (show R.cell? ⟨w.heap.size, 3, none⟩ = some (.int .i64 sum) by rw [hR.out]; exact cells_a rfl)
  have tR := (HT.out).below hwb
  have cV : ∀ d os, Calls Tryd.prog 22 #[vPacket ack num tx sum] (Go.Sort.grow (redrawn R d) os) fun e w2 => e = rInt S ∧ ∃ p : Regrown, w2 = Go.Sort.grow (redrawn R p.d) p.os := fun d os => Calls.regrown_of (by rw [← HS.out]; exact impl_PacketSum_c ack num tx sum _ h0 h1 ht (tR.below (below_regrown R d os)))
  clear hR tR
  refine wp_region_quiet_below (by kernel_rfl) (by kernel_rfl) ?_
  repeat (go_big_quiet_step (first | exact cV _ _))
  refine wpQuiet_nil ?_
  intro _ hw
  obtain ⟨⟨dq, osq⟩, hw⟩ := hw
  subst hw
  have hbq := bTrans hwb (below_regrown R dq osq)
  clear g0 g1 g2 g3 cV
  go_wp2
  go_ret
  exact ⟨rfl, hbq⟩
theorem w_FnExactPacketSum (w : World) (f : Packet) (hok : f.ok) (hT : Tab w) :
    Calls Tryd.prog 4 #[.agg f.cells.toArray] w fun e w' => e = rBool true ∧ Below w.heap.size w w' := by
  obtain ⟨ack, num, tx, sum⟩ := f
  obtain ⟨htx, hnum, _⟩ := hok
  obtain ⟨b0, b1⟩ := bounds_i64 hnum
  show Calls Tryd.prog 4 #[vPacket ack num tx sum] w _
  dsimp only at htx
  generalize hv : pktSum num tx ack = b
  have Hv := Lib.hid hv
  have HT := Lib.hid hT
  clear hv hT
  go_enter Tryd.func4, Tryd.ntmps4
  go_wp2_with (first
    | (go_at_call 19; refine (szPacket_c _ _ _ _ _ _ (by omega) (by omega) htx).mono ?_; rintro e w1 ⟨⟨r, rfl, hp⟩, hb1⟩; have k1 := bBox hb1 w.heap.size (by simp); have hz1 := bsz1 hb1; have B1 := bTrans (bAlloc (Below.refl w.heap.size w) _) hb1; rcases hp with rfl | ⟨hp0, hp1⟩)
    | (go_at_call 21; refine (toPacket_c _ _ _ _ _).mono ?_; rintro e w2 ⟨rfl, hb2⟩; have k2 := bBox hb2 w.heap.size (by omega); have hz2 : w.heap.size + 1 ≤ w2.heap.size := (by have := hb2.size; omega); have B2 : Below w.heap.size w w2 := bTrans (by with_reducible assumption) hb2)
    | (go_at_call 20; refine (spec_PacketSum_c _ _ _ _ _ b0 b1 (by have := hp1.out; omega)).mono ?_; rw [Hv.out]; rintro e w3 ⟨rfl, hb3⟩; have k3 := bBox hb3 w.heap.size (by omega); have hz3 : w.heap.size + 1 ≤ w3.heap.size := (by have := hb3.size; omega); have B3 : Below w.heap.size w w3 := bTrans (by with_reducible assumption) hb3)
    | (go_at_call 22; refine (impl_PacketSum_c _ _ _ _ _ b0 b1 (by have := hp1.out; omega) (HT.out.below (by with_reducible assumption))).mono ?_; rw [Hv.out]; rintro e w4 ⟨rfl, hb4⟩; have k4 := bBox hb4 w.heap.size (by omega); have hz4 : w.heap.size + 1 ≤ w4.heap.size := (by have := hb4.size; omega); have B4 : Below w.heap.size w w4 := bTrans (by with_reducible assumption) hb4))
  all_goals (go_ret; exact ⟨rfl, by with_reducible assumption⟩)
theorem w_FnExactIsIntact (w : World) (f : Packet) (hok : f.ok) (hT : Tab w) :
    Calls Tryd.prog 5 #[.agg f.cells.toArray] w fun e w' => e = rBool true ∧ Below w.heap.size w w' := by
  obtain ⟨ack, num, tx, sum⟩ := f
  obtain ⟨htx, hnum, _⟩ := hok
  obtain ⟨b0, b1⟩ := bounds_i64 hnum
  show Calls Tryd.prog 5 #[vPacket ack num tx sum] w _
  dsimp only at htx
  generalize hv : (sum == pktSum num tx ack) = b
  have Hv := Lib.hid hv
  have HT := Lib.hid hT
  clear hv hT
  go_enter Tryd.func5, Tryd.ntmps5
  go_wp2_with (first
    | (go_at_call 19; refine (szPacket_c _ _ _ _ _ _ (by omega) (by omega) htx).mono ?_; rintro e w1 ⟨⟨r, rfl, hp⟩, hb1⟩; have k1 := bBox hb1 w.heap.size (by simp); have hz1 := bsz1 hb1; have B1 := bTrans (bAlloc (Below.refl w.heap.size w) _) hb1; rcases hp with rfl | ⟨hp0, hp1⟩)
    | (go_at_call 21; refine (toPacket_c _ _ _ _ _).mono ?_; rintro e w2 ⟨rfl, hb2⟩; have k2 := bBox hb2 w.heap.size (by omega); have hz2 : w.heap.size + 1 ≤ w2.heap.size := (by have := hb2.size; omega); have B2 : Below w.heap.size w w2 := bTrans (by with_reducible assumption) hb2)
    | (go_at_call 23; refine (spec_IsIntact_c _ _ _ _ _ b0 b1 (by have := hp1.out; omega)).mono ?_; rw [Hv.out]; rintro e w3 ⟨rfl, hb3⟩; have k3 := bBox hb3 w.heap.size (by omega); have hz3 : w.heap.size + 1 ≤ w3.heap.size := (by have := hb3.size; omega); have B3 : Below w.heap.size w w3 := bTrans (by with_reducible assumption) hb3)
    | (go_at_call 24; refine (impl_IsIntact_c _ _ _ _ _ b0 b1 (by have := hp1.out; omega) (HT.out.below (by with_reducible assumption))).mono ?_; rw [Hv.out]; rintro e w4 ⟨rfl, hb4⟩; have k4 := bBox hb4 w.heap.size (by omega); have hz4 : w.heap.size + 1 ≤ w4.heap.size := (by have := hb4.size; omega); have B4 : Below w.heap.size w w4 := bTrans (by with_reducible assumption) hb4))
  all_goals (go_ret; exact ⟨rfl, by with_reducible assumption⟩)
end Go.Proofs.YtbfajhfmfdiacaaDoor
