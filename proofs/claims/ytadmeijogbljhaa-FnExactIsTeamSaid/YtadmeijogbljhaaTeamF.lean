/- Teams: IsTeam, IsSynced: what the two of each answer. -/
import Derived.Test.YtadmeijogbljhaaTeamD
import Derived.Test.YtadmeijogbljhaaTake
import Derived.Test.YtadmeijogbljhaaAdd
namespace Go.Proofs.Ytadmeijogbljhaa
open Go.RowKit
set_option linter.unusedVariables false
set_option linter.unusedSimpArgs false
set_option maxHeartbeats 1600000
set_option maxRecDepth 100000
/-! ### the plain laws -/
def teamG (n : Nat) : List Robot → List (List Chan) → Bool
  | r :: rs, row :: rows => isFL r.factors && (decide (row.length = n) && (row.all isChan && teamG n rs rows))
  | _, _ => true
theorem teamG_eq (n : Nat) : ∀ (rs : List Robot) (rows : List (List Chan)), rows.length = rs.length → teamG n rs rows = ((rs.all fun r => isFL r.factors) && (rows.all fun row => decide (row.length = n) && row.all isChan))
  | [], [], _ => rfl
  | r :: rs, row :: rows, h => by
    rw [teamG, teamG_eq n rs rows (by simpa using h)]
    simp only [List.all_cons]
    cases isFL r.factors <;> cases decide (row.length = n) <;> cases row.all isChan <;> simp
theorem isTeam_at {t : Team} {nr nc : Nat} (hr : Hid (t.robots.length = nr)) (hc : Hid (t.channels.length = nc)) : Hid (isTeam t = (inR nr 1 3 && (decide (nc = nr) && teamG nr t.robots t.channels))) := by
  have h1 : t.robots.length = nr := hr
  have h2 : t.channels.length = nc := hc
  rw [Hid, isTeam, h1, h2]
  by_cases h : nc = nr
  · rw [teamG_eq nr _ _ (by omega)]
  · simp [h]
def TInv (n : Nat) (rs : List Robot) (rows : List (List Chan)) (k : Nat) : Prop := teamG n rs rows = teamG n (rs.drop k) (rows.drop k)
theorem TInv.step {n k : Nat} {rs : List Robot} {rows : List (List Chan)} {r : Robot} {row : List Chan} (h : TInv n rs rows k) (hr : Hid (rs[k]? = some r)) (hw : Hid (rows[k]? = some row)) :
    teamG n rs rows = (isFL r.factors && (decide (row.length = n) && (row.all isChan && teamG n (rs.drop (k + 1)) (rows.drop (k + 1))))) := by
  unfold TInv at h; rw [h, drop_at hr, drop_at hw, teamG]
theorem TInv.done {n k m : Nat} {rs : List Robot} {rows : List (List Chan)} (h : TInv n rs rows k) (hl : Hid (rs.length = m)) (hk : ¬ k < m) : Hid (teamG n rs rows = true) := by
  unfold TInv at h; rw [Hid, h, drop_end hl hk]; rfl
def AInv {α : Type} (p : α → Bool) (l : List α) (k : Nat) : Prop := l.all p = (l.drop k).all p
theorem AInv.step {α : Type} {p : α → Bool} {l : List α} {k : Nat} {x : α} (h : AInv p l k) (hx : Hid (l[k]? = some x)) : l.all p = (p x && (l.drop (k + 1)).all p) := by
  unfold AInv at h; rw [h, drop_at hx, List.all_cons]
theorem AInv.done {α : Type} {p : α → Bool} {l : List α} {k n : Nat} (h : AInv p l k) (hl : Hid (l.length = n)) (hk : ¬ k < n) : Hid (l.all p = true) := by
  unfold AInv at h; rw [Hid, h, drop_end hl hk]; rfl
theorem small_ro {t : Team} (hm : bulkT t ≤ 1048576) : ∀ r ∈ t.robots, r.factors.length ≤ 1048576 ∧ smallFs r.factors ∧ bulkF r.factors ≤ 1048576 := fun r hr => by
  have h1 := mem_bulk (c := Robot.bulk) hr
  unfold bulkT at hm
  have h3 : r.bulk = bulkF r.factors + r.journal.size := rfl
  have h2 : bulkF r.factors ≤ 1048576 := by omega
  exact ⟨by unfold bulkF at h2; omega, bulkF_small h2, h2⟩
theorem small_ch {t : Team} (hm : bulkT t ≤ 1048576) : ∀ l ∈ t.channels, ∀ c ∈ l, fewC c := fun l hl c hc => by
  have h1 := mem_bulk (c := bulkCs) hl
  have h2 := mem_bulk (c := bulkC) hc
  unfold bulkT at hm
  have h3 : bulkCs l = l.length + sumBulk bulkC l := rfl
  exact fewC_of (by omega)
theorem impl_IsTeam_k (v : TV) (t : Team) (w : World) (hm : bulkT t ≤ 1048576) (hok : okT t) (hr : RdT w v t) :
    Calls Try.prog 74 #[vTeam v] w fun e w' => e = rBool (isTeam t) ∧ Below w.heap.size w w' := by
  obtain ⟨⟨Ar, nr, cr⟩, ⟨Ac, nc, cc⟩, fr, fc⟩ := v
  obtain ⟨r0, r1⟩ := hr
  dsimp only at r0 r1
  have lr := r0.len
  have lc := r1.len
  have E := isTeam_at lr lc
  have SR := Lib.hid (small_ro hm)
  have SC := Lib.hid (small_ch hm)
  have OK := Lib.hid hok
  have NR := Lib.hid (show nr ≤ 1048576 by have := lr.out; unfold bulkT at hm; omega)
  clear hm hok
  by_cases hin : 1 ≤ nr ∧ nr ≤ 3
  rotate_left
  · have hi0 : Hid (inR (nr : Int) 1 3 = false) := by
      rw [Hid, Bool.eq_false_iff]; intro h; have := inR_iff.1 h; omega
    have hfin : Hid (isTeam t = false) := by rw [Hid, E.out, hi0.out, Bool.false_and]
    have NR' := NR.out
    have hd : nr < 1 ∨ 3 < nr := by omega
    clear hin hi0
    rcases hd with hd | hd
    · obtain rfl : nr = 0 := by omega
      go_enter Try.func74, Try.ntmps74
      go_wp2_with fail
      go_ret
      exact ⟨by rw [hfin.out]; rfl, bAlloc (Below.refl _ _) _⟩
    · have hd1 : ¬ (nr : Int) < 1 := by omega
      have hd2 : (3 : Int) < (nr : Int) := by omega
      go_enter Try.func74, Try.ntmps74
      go_wp2_with fail
      go_ret
      exact ⟨by rw [hfin.out]; rfl, bAlloc (Below.refl _ _) _⟩
  have hi0 : Hid (inR (nr : Int) 1 3 = true) := inR_iff.2 (by omega)
  obtain ⟨hin1, hin2⟩ := hin
  have NR' := NR.out
  have ni1 : ¬ (nr : Int) < 1 := by omega
  have ni2 : ¬ (3 : Int) < (nr : Int) := by omega
  by_cases hcn : nc = nr
  rotate_left
  · have hfin : Hid (isTeam t = false) := by rw [Hid, E.out]; simp [hcn]
    have hcI : ¬ (nc : Int) = (nr : Int) := by omega
    go_enter Try.func74, Try.ntmps74
    go_wp2_with fail
    all_goals first
      | (exfalso; omega)
      | (go_ret; exact ⟨by rw [hfin.out]; rfl, bAlloc (Below.refl _ _) _⟩)
  subst hcn
  have E2 : Hid (isTeam t = teamG nc t.robots t.channels) := by rw [Hid, E.out, hi0.out]; simp
  clear E
  go_enter Try.func74, Try.ntmps74
  go_wp2_with fail
  go_loopw [27, 4] (fun i j wr => ∃ (k : Nat), k ≤ nc ∧ i = .int .i64 k ∧ TInv nc t.robots t.channels k ∧ Below w.heap.size w wr ∧ wr.cell? ⟨w.heap.size, 0, none⟩ = some (.slice Ar nc cr) ∧ wr.cell? ⟨w.heap.size, 1, none⟩ = some (.slice Ac nc cc)) (fun i _ _ => nc - (intOf i).toNat)
  case atStart => exact ⟨0, by omega, rfl, rfl, bAlloc (Below.refl _ _) _, by simp, by simp⟩
  case round =>
    obtain ⟨k, hk, rfl, hi, hb, t0, t1⟩ := hrel
    obtain ⟨wo, rfl⟩ : ∃ wo : World, wo = wr := ⟨_, rfl⟩
    have hz := cell_lt t0
    dsimp only at hz
    by_cases hlt : k < nc
    · obtain ⟨x, cs, g, off, hx, rfl, hR, hc⟩ := RdSl.at_ (RdSl.below (R := RdRo) RdRo.below r0 hb) hlt
      obtain ⟨vx, rfl, hRd, hLn⟩ := hR
      have g0 : wo.cell? ⟨g, off + k * 2, none⟩ = some (.slice vx.A vx.n vx.c) := hc 0 _ rfl
      have g1 : wo.cell? ⟨g, off + k * 2 + 1, none⟩ = some (.string x.journal) := hc 1 _ rfl
      obtain ⟨row, cs2, gc, offc, hrow, rfl, hR2, hc2⟩ := RdSl.at_ (RdSl.below (R := RdCs) RdCs.below r1 hb) hlt
      obtain ⟨vr, rfl, hRdr, hLnr⟩ := hR2
      have k0 : wo.cell? ⟨gc, offc + k, none⟩ = some (.slice vr.A vr.n vr.c) := by simpa using hc2 0 _ rfl
      clear hc hc2
      have hst := hi.step hx hrow
      have lrow := hRdr.len
      rw [lrow.out] at hst
      obtain ⟨hs1, hs2, _⟩ := SR.out x (List.mem_of_getElem? hx.out)
      have hs3 : vx.n ≤ 1048576 := by have := hRd.len.out; omega
      have hs4 : vr.n ≤ 9223372036854775807 := hLnr
      have HS4 := Lib.hid hs4
      have HC := Lib.hid (SC.out row (List.mem_of_getElem? hrow.out))
      have HO := Lib.hid (OK.out.2 row (List.mem_of_getElem? hrow.out))
      have z0 : (0 : Int) ≤ (k : Int) := by omega
      have z1 : (k : Int) < (nc : Int) := by omega
      generalize hv : isFL x.factors = bf at hst
      generalize ha : row.all isChan = ba at hst
      have HV := Lib.hid hv
      have HA := Lib.hid ha
      have HS := Lib.hid hst
      have HS2 := Lib.hid hs2
      clear hv ha hst hi hs1 hs2 hLnr hs4
      cases bf
      · have hfin : Hid (isTeam t = false) := by rw [Hid, E2.out, HS.out, Bool.false_and]
        go_wp2_with fail
        refine Calls.mono (impl_IsFactorList_c vx.A vx.n vx.c x.factors _ hs3 ?_ HS2.out) ?_
        · exact RdF.below hRd (bAlloc (Below.refl _ _) _)
        rintro e w1 ⟨he, hb1⟩
        rw [HV.out] at he
        subst he
        have hbq := bTrans (bAlloc (Below.refl wo.heap.size wo) _) hb1
        have t0q := bCell hbq t0
        have t1q := bCell hbq t1
        have k0q := bCell hbq k0
        go_wp2_with fail
        go_ret
        exact ⟨by rw [hfin.out]; rfl, bTrans hb hbq⟩
      by_cases hrn : vr.n = nc
      rotate_left
      · have hfin : Hid (isTeam t = false) := by rw [Hid, E2.out, HS.out]; simp [hrn]
        go_wp2_with fail
        refine Calls.mono (impl_IsFactorList_c vx.A vx.n vx.c x.factors _ hs3 ?_ HS2.out) ?_
        · exact RdF.below hRd (bAlloc (Below.refl _ _) _)
        rintro e w1 ⟨he, hb1⟩
        rw [HV.out] at he
        subst he
        have hbq := bTrans (bAlloc (Below.refl wo.heap.size wo) _) hb1
        have t0q := bCell hbq t0
        have t1q := bCell hbq t1
        have k0q := bCell hbq k0
        go_wp2_with fail
        all_goals first
          | (exfalso; omega)
          | (go_ret; exact ⟨by rw [hfin.out]; rfl, bTrans hb hbq⟩)
      have hrnI : (vr.n : Int) = (nc : Int) := by omega
      go_wp2_with fail
      refine Calls.mono (impl_IsFactorList_c vx.A vx.n vx.c x.factors _ hs3 ?_ HS2.out) ?_
      · exact RdF.below hRd (bAlloc (Below.refl _ _) _)
      rintro e w1 ⟨he, hb1⟩
      rw [HV.out] at he
      subst he
      have hbq := bTrans (bAlloc (Below.refl wo.heap.size wo) _) hb1
      have t0q := bCell hbq t0
      have t1q := bCell hbq t1
      have k0q := bCell hbq k0
      obtain ⟨wq, hwq⟩ : ∃ wq : World, w1 = wq := ⟨_, rfl⟩
      rw [hwq] at hbq t0q t1q k0q ⊢
      have HW := Lib.hid hwq
      clear hwq
      go_wp2_with fail
      go_loopw [52] (fun i ww => ∃ (j : Nat), j ≤ vr.n ∧ i = .int .i64 j ∧ AInv isChan row j ∧ Below wq.heap.size wq ww) (fun i _ => vr.n - (intOf i).toNat)
      case atStart => exact ⟨0, by omega, rfl, rfl, Below.refl _ _⟩
      case round =>
        obtain ⟨j, hj, rfl, hai, hb2⟩ := hrel
        have HB2 := bTrans hbq hb2
        by_cases hjl : j < vr.n
        · obtain ⟨ch, cs3, g3, off3, hch, hA3, hR3, hc3⟩ := RdSl.at_ (RdSl.below (R := RdCe) RdCe.below hRdr HB2) hjl
          obtain ⟨vc, rfl, hRdc, hLnc⟩ := hR3
          have q0 : wr.cell? ⟨g3, off3 + j * 6, none⟩ = some (.slice vc.q.A vc.q.n vc.q.c) := hc3 0 _ rfl
          have q1 : wr.cell? ⟨g3, off3 + j * 6 + 1, none⟩ = some (.int .i64 ch.base) := hc3 1 _ rfl
          have q2 : wr.cell? ⟨g3, off3 + j * 6 + 2, none⟩ = some (.int .i64 ch.expected) := hc3 2 _ rfl
          have q3 : wr.cell? ⟨g3, off3 + j * 6 + 3, none⟩ = some (.slice vc.i.A vc.i.n vc.i.c) := hc3 3 _ rfl
          have q4 : wr.cell? ⟨g3, off3 + j * 6 + 4, none⟩ = some (.slice vc.n.A vc.n.n vc.n.c) := hc3 4 _ rfl
          have q5 : wr.cell? ⟨g3, off3 + j * 6 + 5, none⟩ = some (.slice vc.a.A vc.a.n vc.a.c) := hc3 5 _ rfl
          clear hc3
          rw [hA3]
          have hst := hai.step hch
          have hwb := (HO.out ch (List.mem_of_getElem? hch.out)).2.2.2.2.1
          have hfwc := HC.out ch (List.mem_of_getElem? hch.out)
          generalize hbc : isChan ch = bc at hst
          have HBC := Lib.hid hbc
          have HST := Lib.hid hst
          have HWB := Lib.hid hwb
          have HFW := Lib.hid hfwc
          clear hst hai hbc hwb hfwc
          have y0 : (0 : Int) ≤ (j : Int) := by omega
          have y1 : (j : Int) < (vr.n : Int) := by omega
          go_wp2_with fail
          have hwb := HWB.out
          have hfwc := HFW.out
          refine Calls.mono (impl_IsChannel_c vc ch _ hwb ?_) ?_
          · exact hRdc.below (bAlloc (Below.refl _ _) _)
          rintro e w5 ⟨he, hb5⟩
          rw [HBC.out] at he
          subst he
          clear hwb hfwc
          have HB5 := bTrans (bAlloc hb2 _) hb5
          cases bc
          · have hfin : Hid (isTeam t = false) := by
              have h1 : ba = false := by rw [← HA.out, HST.out, Bool.false_and]
              rw [Hid, E2.out, HS.out, h1]; simp
            go_wp2_with fail
            go_ret
            exact ⟨by rw [hfin.out]; rfl, bTrans (bTrans hb hbq) HB5⟩
          · have hnx : AInv isChan row (j + 1) := by rw [AInv, HST.out, Bool.true_and]
            go_wp2_with fail
            go_roundw
            case rel => exact ⟨j + 1, by omega, by go_num, hnx, HB5⟩
            case measure => simp [intOf]; omega
        · have hba : Hid (ba = true) := by have := hai.done lrow hjl; rw [Hid, ← HA.out]; exact this.out
          have hnx : TInv nc t.robots t.channels (k + 1) := by rw [TInv, HS.out, hba.out]; simp [hrn]
          have t0r := bCell hb2 t0q
          have t1r := bCell hb2 t1q
          go_wp2_with fail
          go_roundw
          case rel => exact ⟨k + 1, by omega, by go_num, hnx, bTrans (bTrans hb hbq) hb2, t0r, t1r⟩
          case measure => simp [intOf]; omega
    · have hfin := hi.done lr hlt
      go_wp2_with fail
      go_ret
      exact ⟨by rw [E2.out, hfin.out]; rfl, hb⟩
theorem spec_IsTeam_k (v : TV) (t : Team) (w : World) (hm : bulkT t ≤ 1048576) (hok : okT t) (hr : RdT w v t) :
    Calls Try.prog 72 #[vTeam v] w fun e w' => e = rBool (isTeam t) ∧ Below w.heap.size w w' := by
  obtain ⟨⟨Ar, nr, cr⟩, ⟨Ac, nc, cc⟩, fr, fc⟩ := v
  obtain ⟨r0, r1⟩ := hr
  dsimp only at r0 r1
  have lr := r0.len
  have lc := r1.len
  have E := isTeam_at lr lc
  have SR := Lib.hid (small_ro hm)
  have SC := Lib.hid (small_ch hm)
  have OK := Lib.hid hok
  have NR := Lib.hid (show nr ≤ 1048576 by have := lr.out; unfold bulkT at hm; omega)
  clear hm hok
  by_cases hin : 1 ≤ nr ∧ nr ≤ 3
  rotate_left
  · have hi0 : Hid (inR (nr : Int) 1 3 = false) := by
      rw [Hid, Bool.eq_false_iff]; intro h; have := inR_iff.1 h; omega
    have hfin : Hid (isTeam t = false) := by rw [Hid, E.out, hi0.out, Bool.false_and]
    have NR' := NR.out
    go_enter Try.func72, Try.ntmps72
    go_wp2_with (go_at_call 113; refine (l01In_c _ _ _ _).mono ?_; rw [hi0.out]; rintro e w2 ⟨rfl, rfl⟩)
    go_ret
    exact ⟨by rw [hfin.out]; rfl, bAlloc (Below.refl _ _) _⟩
  have hi0 : Hid (inR (nr : Int) 1 3 = true) := inR_iff.2 (by omega)
  obtain ⟨hin1, hin2⟩ := hin
  have NR' := NR.out
  have ni1 : ¬ (nr : Int) < 1 := by omega
  have ni2 : ¬ (3 : Int) < (nr : Int) := by omega
  by_cases hcn : nc = nr
  rotate_left
  · have hfin : Hid (isTeam t = false) := by rw [Hid, E.out]; simp [hcn]
    have hcI : ¬ (nc : Int) = (nr : Int) := by omega
    go_enter Try.func72, Try.ntmps72
    go_wp2_with (go_at_call 113; refine (l01In_c _ _ _ _).mono ?_; rw [hi0.out]; rintro e w2 ⟨rfl, rfl⟩)
    all_goals first
      | (exfalso; omega)
      | (go_ret; exact ⟨by rw [hfin.out]; rfl, bAlloc (Below.refl _ _) _⟩)
  subst hcn
  have E2 : Hid (isTeam t = teamG nc t.robots t.channels) := by rw [Hid, E.out, hi0.out]; simp
  clear E
  go_enter Try.func72, Try.ntmps72
  go_wp2_with (go_at_call 113; refine (l01In_c _ _ _ _).mono ?_; rw [hi0.out]; rintro e w2 ⟨rfl, rfl⟩)
  go_loopw [24, 3] (fun i j wr => ∃ (k : Nat), k ≤ nc ∧ i = .int .i64 k ∧ TInv nc t.robots t.channels k ∧ Below w.heap.size w wr ∧ wr.cell? ⟨w.heap.size, 0, none⟩ = some (.slice Ar nc cr) ∧ wr.cell? ⟨w.heap.size, 1, none⟩ = some (.slice Ac nc cc)) (fun i _ _ => nc - (intOf i).toNat)
  case atStart => exact ⟨0, by omega, rfl, rfl, bAlloc (Below.refl _ _) _, by simp, by simp⟩
  case round =>
    obtain ⟨k, hk, rfl, hi, hb, t0, t1⟩ := hrel
    obtain ⟨wo, rfl⟩ : ∃ wo : World, wo = wr := ⟨_, rfl⟩
    have hz := cell_lt t0
    dsimp only at hz
    by_cases hlt : k < nc
    · obtain ⟨x, cs, g, off, hx, rfl, hR, hc⟩ := RdSl.at_ (RdSl.below (R := RdRo) RdRo.below r0 hb) hlt
      obtain ⟨vx, rfl, hRd, hLn⟩ := hR
      have g0 : wo.cell? ⟨g, off + k * 2, none⟩ = some (.slice vx.A vx.n vx.c) := hc 0 _ rfl
      have g1 : wo.cell? ⟨g, off + k * 2 + 1, none⟩ = some (.string x.journal) := hc 1 _ rfl
      obtain ⟨row, cs2, gc, offc, hrow, rfl, hR2, hc2⟩ := RdSl.at_ (RdSl.below (R := RdCs) RdCs.below r1 hb) hlt
      obtain ⟨vr, rfl, hRdr, hLnr⟩ := hR2
      have k0 : wo.cell? ⟨gc, offc + k, none⟩ = some (.slice vr.A vr.n vr.c) := by simpa using hc2 0 _ rfl
      clear hc hc2
      have hst := hi.step hx hrow
      have lrow := hRdr.len
      rw [lrow.out] at hst
      obtain ⟨hs1, hs2, _⟩ := SR.out x (List.mem_of_getElem? hx.out)
      have hs3 : vx.n ≤ 1048576 := by have := hRd.len.out; omega
      have hs4 : vr.n ≤ 9223372036854775807 := hLnr
      have HS4 := Lib.hid hs4
      have HC := Lib.hid (SC.out row (List.mem_of_getElem? hrow.out))
      have HO := Lib.hid (OK.out.2 row (List.mem_of_getElem? hrow.out))
      have z0 : (0 : Int) ≤ (k : Int) := by omega
      have z1 : (k : Int) < (nc : Int) := by omega
      generalize hv : isFL x.factors = bf at hst
      generalize ha : row.all isChan = ba at hst
      have HV := Lib.hid hv
      have HA := Lib.hid ha
      have HS := Lib.hid hst
      have HS2 := Lib.hid hs2
      clear hv ha hst hi hs1 hs2 hLnr hs4
      cases bf
      · have hfin : Hid (isTeam t = false) := by rw [Hid, E2.out, HS.out, Bool.false_and]
        go_wp2_with fail
        refine region_at fun W hW => ?_
        have hwb : Below wo.heap.size wo W := by rw [hW.out]; exact bAlloc (Below.refl _ _) _
        have c0 := cell_regrown (show W.cell? ⟨wo.heap.size, 0, none⟩ = some (.slice vx.A vx.n vx.c) by rw [hW.out]; simp)
        have cV : ∀ d os, Calls Try.prog 112 #[.slice vx.A vx.n vx.c] (Go.Sort.grow (redrawn W d) os) fun e w2 => e = .returned (.bool false) ∧ ∃ p : Regrown, w2 = Go.Sort.grow (redrawn W p.d) p.os := fun d os => Calls.regrown_of ((spec_IsFactorList_c vx.A vx.n vx.c x.factors _ hs3 (hRd.below (bTrans hwb (below_regrown W d os))) HS2.out).mono (fun _ _ h => ⟨h.1.trans (congrArg rBool HV.out), h.2⟩))
        have e0 := cell_regrown (bCell hwb t0)
        have e1 := cell_regrown (bCell hwb t1)
        have e2 := cell_regrown (bCell hwb k0)
        clear hW
        refine wp_region_quiet_below (by kernel_rfl) (by kernel_rfl) ?_
        repeat (go_big_quiet_step (first | exact cV _ _))
        refine wpQuiet_nil ?_
        intro _ hw
        obtain ⟨⟨dq, osq⟩, hw⟩ := hw
        subst hw
        have hbq := bTrans hwb (below_regrown W dq osq)
        clear c0 cV e0 e1 e2
        go_wp2_with fail
        go_ret
        exact ⟨by rw [hfin.out]; rfl, bTrans hb hbq⟩
      by_cases hrn : vr.n = nc
      rotate_left
      · have hfin : Hid (isTeam t = false) := by rw [Hid, E2.out, HS.out]; simp [hrn]
        go_wp2_with fail
        refine region_at fun W hW => ?_
        have hwb : Below wo.heap.size wo W := by rw [hW.out]; exact bAlloc (Below.refl _ _) _
        have c0 := cell_regrown (show W.cell? ⟨wo.heap.size, 0, none⟩ = some (.slice vx.A vx.n vx.c) by rw [hW.out]; simp)
        have cV : ∀ d os, Calls Try.prog 112 #[.slice vx.A vx.n vx.c] (Go.Sort.grow (redrawn W d) os) fun e w2 => e = .returned (.bool true) ∧ ∃ p : Regrown, w2 = Go.Sort.grow (redrawn W p.d) p.os := fun d os => Calls.regrown_of ((spec_IsFactorList_c vx.A vx.n vx.c x.factors _ hs3 (hRd.below (bTrans hwb (below_regrown W d os))) HS2.out).mono (fun _ _ h => ⟨h.1.trans (congrArg rBool HV.out), h.2⟩))
        have e0 := cell_regrown (bCell hwb t0)
        have e1 := cell_regrown (bCell hwb t1)
        have e2 := cell_regrown (bCell hwb k0)
        clear hW
        refine wp_region_quiet_below (by kernel_rfl) (by kernel_rfl) ?_
        repeat (go_big_quiet_step (first | exact cV _ _))
        refine wpQuiet_nil ?_
        intro _ hw
        obtain ⟨⟨dq, osq⟩, hw⟩ := hw
        subst hw
        have hbq := bTrans hwb (below_regrown W dq osq)
        clear c0 cV e0 e1 e2
        go_wp2_with fail
        go_ret
        exact ⟨by rw [hfin.out]; rfl, bTrans hb hbq⟩
      have hrnI : (vr.n : Int) = (nc : Int) := by omega
      go_wp2_with fail
      refine region_at fun W hW => ?_
      have hwb : Below wo.heap.size wo W := by rw [hW.out]; exact bAlloc (Below.refl _ _) _
      have c0 := cell_regrown (show W.cell? ⟨wo.heap.size, 0, none⟩ = some (.slice vx.A vx.n vx.c) by rw [hW.out]; simp)
      have cV : ∀ d os, Calls Try.prog 112 #[.slice vx.A vx.n vx.c] (Go.Sort.grow (redrawn W d) os) fun e w2 => e = .returned (.bool true) ∧ ∃ p : Regrown, w2 = Go.Sort.grow (redrawn W p.d) p.os := fun d os => Calls.regrown_of ((spec_IsFactorList_c vx.A vx.n vx.c x.factors _ hs3 (hRd.below (bTrans hwb (below_regrown W d os))) HS2.out).mono (fun _ _ h => ⟨h.1.trans (congrArg rBool HV.out), h.2⟩))
      have e0 := cell_regrown (bCell hwb t0)
      have e1 := cell_regrown (bCell hwb t1)
      have e2 := cell_regrown (bCell hwb k0)
      clear hW
      refine wp_region_quiet_below (by kernel_rfl) (by kernel_rfl) ?_
      repeat (go_big_quiet_step (first | exact cV _ _))
      refine wpQuiet_nil ?_
      intro _ hw
      obtain ⟨⟨dq, osq⟩, hw⟩ := hw
      subst hw
      have hbq := bTrans hwb (below_regrown W dq osq)
      clear c0 cV e0 e1 e2
      have t0q := bCell hbq t0
      have t1q := bCell hbq t1
      have k0q := bCell hbq k0
      obtain ⟨wq, hwq⟩ : ∃ wq : World, (Go.Sort.grow (redrawn W dq) osq) = wq := ⟨_, rfl⟩
      rw [hwq] at hbq t0q t1q k0q ⊢
      have HW := Lib.hid hwq
      clear hwq
      go_wp2_with fail
      go_loopw [51] (fun i ww => ∃ (j : Nat), j ≤ vr.n ∧ i = .int .i64 j ∧ AInv isChan row j ∧ Below wq.heap.size wq ww) (fun i _ => vr.n - (intOf i).toNat)
      case atStart => exact ⟨0, by omega, rfl, rfl, Below.refl _ _⟩
      case round =>
        obtain ⟨j, hj, rfl, hai, hb2⟩ := hrel
        have HB2 := bTrans hbq hb2
        by_cases hjl : j < vr.n
        · obtain ⟨ch, cs3, g3, off3, hch, hA3, hR3, hc3⟩ := RdSl.at_ (RdSl.below (R := RdCe) RdCe.below hRdr HB2) hjl
          obtain ⟨vc, rfl, hRdc, hLnc⟩ := hR3
          have q0 : wr.cell? ⟨g3, off3 + j * 6, none⟩ = some (.slice vc.q.A vc.q.n vc.q.c) := hc3 0 _ rfl
          have q1 : wr.cell? ⟨g3, off3 + j * 6 + 1, none⟩ = some (.int .i64 ch.base) := hc3 1 _ rfl
          have q2 : wr.cell? ⟨g3, off3 + j * 6 + 2, none⟩ = some (.int .i64 ch.expected) := hc3 2 _ rfl
          have q3 : wr.cell? ⟨g3, off3 + j * 6 + 3, none⟩ = some (.slice vc.i.A vc.i.n vc.i.c) := hc3 3 _ rfl
          have q4 : wr.cell? ⟨g3, off3 + j * 6 + 4, none⟩ = some (.slice vc.n.A vc.n.n vc.n.c) := hc3 4 _ rfl
          have q5 : wr.cell? ⟨g3, off3 + j * 6 + 5, none⟩ = some (.slice vc.a.A vc.a.n vc.a.c) := hc3 5 _ rfl
          clear hc3
          rw [hA3]
          have hst := hai.step hch
          have hwb := (HO.out ch (List.mem_of_getElem? hch.out)).2.2.2.2.1
          have hfwc := HC.out ch (List.mem_of_getElem? hch.out)
          generalize hbc : isChan ch = bc at hst
          have HBC := Lib.hid hbc
          have HST := Lib.hid hst
          have HWB := Lib.hid hwb
          have HFW := Lib.hid hfwc
          clear hst hai hbc hwb hfwc
          have y0 : (0 : Int) ≤ (j : Int) := by omega
          have y1 : (j : Int) < (vr.n : Int) := by omega
          go_wp2_with fail
          have hwb := HWB.out
          have hfwc := HFW.out
          refine Calls.mono (spec_IsChannel_c vc ch _ (by have := hRdc.q.len.out; have := hfwc.1; omega) ?_) ?_
          · exact hRdc.below (bAlloc (Below.refl _ _) _)
          rintro e w5 ⟨he, hb5⟩
          rw [HBC.out] at he
          subst he
          clear hwb hfwc
          have HB5 := bTrans (bAlloc hb2 _) hb5
          cases bc
          · have hfin : Hid (isTeam t = false) := by
              have h1 : ba = false := by rw [← HA.out, HST.out, Bool.false_and]
              rw [Hid, E2.out, HS.out, h1]; simp
            go_wp2_with fail
            go_ret
            exact ⟨by rw [hfin.out]; rfl, bTrans (bTrans hb hbq) HB5⟩
          · have hnx : AInv isChan row (j + 1) := by rw [AInv, HST.out, Bool.true_and]
            go_wp2_with fail
            go_roundw
            case rel => exact ⟨j + 1, by omega, by go_num, hnx, HB5⟩
            case measure => simp [intOf]; omega
        · have hba : Hid (ba = true) := by have := hai.done lrow hjl; rw [Hid, ← HA.out]; exact this.out
          have hnx : TInv nc t.robots t.channels (k + 1) := by rw [TInv, HS.out, hba.out]; simp [hrn]
          have t0r := bCell hb2 t0q
          have t1r := bCell hb2 t1q
          go_wp2_with fail
          go_roundw
          case rel => exact ⟨k + 1, by omega, by go_num, hnx, bTrans (bTrans hb hbq) hb2, t0r, t1r⟩
          case measure => simp [intOf]; omega
    · have hfin := hi.done lr hlt
      go_wp2_with fail
      go_ret
      exact ⟨by rw [E2.out, hfin.out]; rfl, hb⟩
/-! ### IsSynced -/
theorem isTeam_pos {t : Team} (h : isTeam t = true) : 1 ≤ t.robots.length ∧ t.robots.length ≤ 3 := by
  unfold isTeam at h
  simp only [Bool.and_eq_true] at h
  have := inR_iff.1 h.1
  omega
theorem isSynced_at {t : Team} {r0 : Robot} (h : isTeam t = true) (h0 : t.robots[0]? = some r0) : isSynced t = t.robots.all fun r => sameL r.factors r0.factors := by
  unfold isSynced
  rw [h, Bool.true_and]
  cases hr : t.robots with
  | nil => rw [hr] at h0; cases h0
  | cons a l => rw [hr] at h0; simp only [List.getElem?_cons_zero, Option.some.injEq] at h0; subst h0; rfl
theorem isSynced_no {t : Team} (h : isTeam t = false) : isSynced t = false := by simp [isSynced, h]
theorem impl_IsSynced_k (v : TV) (t : Team) (w : World) (hm : bulkT t ≤ 1048576) (hok : okT t) (hr : RdT w v t) :
    Calls Try.prog 76 #[vTeam v] w fun e w' => e = rBool (isSynced t) ∧ Below w.heap.size w w' := by
  have SR := Lib.hid (small_ro hm)
  have HM := Lib.hid hm
  have OK := Lib.hid hok
  have HRT := hr
  obtain ⟨⟨Ar, nr, cr⟩, ⟨Ac, nc, cc⟩, fr, fc⟩ := v
  obtain ⟨r0, r1⟩ := hr
  dsimp only at r0 r1
  have lr := r0.len
  have NR := Lib.hid (show nr ≤ 1048576 by have := lr.out; unfold bulkT at hm; omega)
  generalize hbt : isTeam t = bt
  have HT := Lib.hid hbt
  clear hbt hm hok
  go_enter Try.func76, Try.ntmps76
  go_wp2_with fail
  refine Calls.mono (impl_IsTeam_k ⟨⟨Ar, nr, cr⟩, ⟨Ac, nc, cc⟩, fr, fc⟩ t _ HM.out OK.out ?_) ?_
  · exact RdT.below HRT (bAlloc (Below.refl _ _) _)
  rintro e w1 ⟨he, hb1⟩
  rw [HT.out] at he
  subst he
  have H := bTrans (bAlloc (Below.refl w.heap.size w) _) hb1
  have k1 := bBox hb1 w.heap.size (by simp)
  cases bt
  · have hfin : Hid (isSynced t = false) := isSynced_no HT.out
    go_wp2_with fail
    go_ret
    exact ⟨by rw [hfin.out]; rfl, H⟩
  have hpos := isTeam_pos HT.out
  have hn1 : 1 ≤ nr := by have := lr.out; omega
  have t0 : w1.cell? ⟨w.heap.size, 0, none⟩ = some (.slice Ar nr cr) := by rw [k1]; simp
  obtain ⟨x0, cs0, g0, off0, hx0, hA0, hR0, hc0⟩ := RdSl.at_ (RdSl.below (R := RdRo) RdRo.below r0 H) (show 0 < nr by omega)
  obtain ⟨v0, rfl, hRd0, hLn0⟩ := hR0
  have p0 : w1.cell? ⟨g0, off0, none⟩ = some (.slice v0.A v0.n v0.c) := by simpa using hc0 0 _ rfl
  have hfn := Lib.hid (isSynced_at HT.out hx0.out)
  have hs0 : v0.n ≤ 1048576 := by have := hRd0.len.out; have := (SR.out x0 (List.mem_of_getElem? hx0.out)).1; omega
  subst hA0
  have hNI : (0 : Int) < (nr : Int) := by omega
  have hNN : 0 < nr := by omega
  have hNE : nr ≠ 0 := by omega
  have NR' := NR.out
  clear hc0 hpos
  go_wp2_with fail
  go_loopw [11] (fun i wr => ∃ (k : Nat), k ≤ nr ∧ i = .int .i64 k ∧ AInv (fun r => sameL r.factors x0.factors) t.robots k ∧ Below w1.heap.size w1 wr) (fun i _ => nr - (intOf i).toNat)
  case atStart => exact ⟨0, by omega, rfl, rfl, Below.refl _ _⟩
  case round =>
    obtain ⟨k, hk, rfl, hi, hb⟩ := hrel
    have t0 := bCell hb t0
    have p0 := bCell hb p0
    have HB := bTrans H hb
    by_cases hlt : k < nr
    · obtain ⟨x, cs, g, off, hx, hA, hR, hc⟩ := RdSl.at_ (RdSl.below (R := RdRo) RdRo.below r0 HB) hlt
      simp only [Option.some.injEq, Addr.mk.injEq, and_true] at hA
      obtain ⟨rfl, rfl⟩ := hA
      obtain ⟨vx, rfl, hRd, hLn⟩ := hR
      have q0 : wr.cell? ⟨g0, off0 + k * 2, none⟩ = some (.slice vx.A vx.n vx.c) := hc 0 _ rfl
      have q1 : wr.cell? ⟨g0, off0 + k * 2 + 1, none⟩ = some (.string x.journal) := hc 1 _ rfl
      clear hc
      have hst := hi.step hx
      have hs1 : vx.n ≤ 1048576 := by have := hRd.len.out; have := (SR.out x (List.mem_of_getElem? hx.out)).1; omega
      generalize hv : sameL x.factors x0.factors = bs at hst
      have HV := Lib.hid hv
      have HS := Lib.hid hst
      clear hv hst hi
      have hz := cell_lt t0
      dsimp only at hz
      have z0 : (0 : Int) ≤ (k : Int) := by omega
      have z1 : (k : Int) < (nr : Int) := by omega
      have hRd0' := RdF.below hRd0 hb
      go_wp2_with fail
      refine region_at fun R hR => ?_
      have hwb : Below wr.heap.size wr R := by rw [hR.out]; exact bAlloc (Below.refl _ _) _
      have c0 : R.cell? ⟨wr.heap.size, 0, none⟩ = some (.slice vx.A vx.n vx.c) := by rw [hR.out]; simp
      have c1 := bCell hwb t0
      have c2 := bCell hwb p0
      clear hR
      go_region_held3 (fun w' => w'.cell? ⟨wr.heap.size, 0, none⟩ = some (.slice vx.A vx.n vx.c) ∧ w'.cell? ⟨w.heap.size, 0, none⟩ = some (.slice (some ⟨g0, off0, none⟩) nr cr) ∧ w'.cell? ⟨g0, off0, none⟩ = some (.slice v0.A v0.n v0.c))
        (first | go_keep | ((repeat' apply And.intro) <;> exact bCell hb5 (by assumption))) ((go_at_call 35; refine (impl_SameFactors_c vx.A v0.A vx.n v0.n vx.c v0.c x.factors x0.factors _ hs1 hs0 (hRd.below (bDrew hwb)) (hRd0'.below (bDrew hwb))).mono ?_; rw [HV.out]; rintro e w5 ⟨rfl, hb5⟩))
      have hbq := bTrans (bDrew hwb) hb5
      cases bs
      · have hfin : Hid (isSynced t = false) := by rw [Hid, hfn.out, HS.out, Bool.false_and]
        go_wp2_with fail
        go_ret
        exact ⟨by rw [hfin.out]; rfl, bTrans HB hbq⟩
      · have hnx : AInv (fun r => sameL r.factors x0.factors) t.robots (k + 1) := by rw [AInv, HS.out, Bool.true_and]
        go_wp2_with fail
        go_roundw
        case rel => exact ⟨k + 1, by omega, by go_num, hnx, bTrans hb hbq⟩
        case measure => simp [intOf]; omega
    · have hfin := hi.done lr hlt
      go_wp2_with fail
      go_ret
      exact ⟨by rw [hfn.out, hfin.out]; rfl, HB⟩
theorem spec_IsSynced_k (v : TV) (t : Team) (w : World) (hm : bulkT t ≤ 1048576) (hok : okT t) (hr : RdT w v t) :
    Calls Try.prog 75 #[vTeam v] w fun e w' => e = rBool (isSynced t) ∧ Below w.heap.size w w' := by
  have SR := Lib.hid (small_ro hm)
  have HM := Lib.hid hm
  have OK := Lib.hid hok
  have HRT := hr
  obtain ⟨⟨Ar, nr, cr⟩, ⟨Ac, nc, cc⟩, fr, fc⟩ := v
  obtain ⟨r0, r1⟩ := hr
  dsimp only at r0 r1
  have lr := r0.len
  have NR := Lib.hid (show nr ≤ 1048576 by have := lr.out; unfold bulkT at hm; omega)
  generalize hbt : isTeam t = bt
  have HT := Lib.hid hbt
  clear hbt hm hok
  go_enter Try.func75, Try.ntmps75
  go_wp2_with fail
  refine Calls.mono (spec_IsTeam_k ⟨⟨Ar, nr, cr⟩, ⟨Ac, nc, cc⟩, fr, fc⟩ t _ HM.out OK.out ?_) ?_
  · exact RdT.below HRT (bAlloc (Below.refl _ _) _)
  rintro e w1 ⟨he, hb1⟩
  rw [HT.out] at he
  subst he
  have H := bTrans (bAlloc (Below.refl w.heap.size w) _) hb1
  have k1 := bBox hb1 w.heap.size (by simp)
  cases bt
  · have hfin : Hid (isSynced t = false) := isSynced_no HT.out
    go_wp2_with fail
    go_ret
    exact ⟨by rw [hfin.out]; rfl, H⟩
  have hpos := isTeam_pos HT.out
  have hn1 : 1 ≤ nr := by have := lr.out; omega
  have t0 : w1.cell? ⟨w.heap.size, 0, none⟩ = some (.slice Ar nr cr) := by rw [k1]; simp
  obtain ⟨x0, cs0, g0, off0, hx0, hA0, hR0, hc0⟩ := RdSl.at_ (RdSl.below (R := RdRo) RdRo.below r0 H) (show 0 < nr by omega)
  obtain ⟨v0, rfl, hRd0, hLn0⟩ := hR0
  have p0 : w1.cell? ⟨g0, off0, none⟩ = some (.slice v0.A v0.n v0.c) := by simpa using hc0 0 _ rfl
  have hfn := Lib.hid (isSynced_at HT.out hx0.out)
  have hs0 : v0.n ≤ 1048576 := by have := hRd0.len.out; have := (SR.out x0 (List.mem_of_getElem? hx0.out)).1; omega
  subst hA0
  have hNI : (0 : Int) < (nr : Int) := by omega
  have hNN : 0 < nr := by omega
  have hNE : nr ≠ 0 := by omega
  have NR' := NR.out
  clear hc0 hpos
  go_wp2_with fail
  go_loopw [11] (fun i wr => ∃ (k : Nat), k ≤ nr ∧ i = .int .i64 k ∧ AInv (fun r => sameL r.factors x0.factors) t.robots k ∧ Below w1.heap.size w1 wr) (fun i _ => nr - (intOf i).toNat)
  case atStart => exact ⟨0, by omega, rfl, rfl, Below.refl _ _⟩
  case round =>
    obtain ⟨k, hk, rfl, hi, hb⟩ := hrel
    have t0 := bCell hb t0
    have p0 := bCell hb p0
    have HB := bTrans H hb
    by_cases hlt : k < nr
    · obtain ⟨x, cs, g, off, hx, hA, hR, hc⟩ := RdSl.at_ (RdSl.below (R := RdRo) RdRo.below r0 HB) hlt
      simp only [Option.some.injEq, Addr.mk.injEq, and_true] at hA
      obtain ⟨rfl, rfl⟩ := hA
      obtain ⟨vx, rfl, hRd, hLn⟩ := hR
      have q0 : wr.cell? ⟨g0, off0 + k * 2, none⟩ = some (.slice vx.A vx.n vx.c) := hc 0 _ rfl
      have q1 : wr.cell? ⟨g0, off0 + k * 2 + 1, none⟩ = some (.string x.journal) := hc 1 _ rfl
      clear hc
      have hst := hi.step hx
      have hs1 : vx.n ≤ 1048576 := by have := hRd.len.out; have := (SR.out x (List.mem_of_getElem? hx.out)).1; omega
      generalize hv : sameL x.factors x0.factors = bs at hst
      have HV := Lib.hid hv
      have HS := Lib.hid hst
      clear hv hst hi
      have hz := cell_lt t0
      dsimp only at hz
      have z0 : (0 : Int) ≤ (k : Int) := by omega
      have z1 : (k : Int) < (nr : Int) := by omega
      have hRd0' := RdF.below hRd0 hb
      go_wp2_with fail
      refine region_at fun R hR => ?_
      have hwb : Below wr.heap.size wr R := by rw [hR.out]; exact bAlloc (Below.refl _ _) _
      have c0 : R.cell? ⟨wr.heap.size, 0, none⟩ = some (.slice vx.A vx.n vx.c) := by rw [hR.out]; simp
      have c1 := bCell hwb t0
      have c2 := bCell hwb p0
      clear hR
      go_region_held3 (fun w' => w'.cell? ⟨wr.heap.size, 0, none⟩ = some (.slice vx.A vx.n vx.c) ∧ w'.cell? ⟨w.heap.size, 0, none⟩ = some (.slice (some ⟨g0, off0, none⟩) nr cr) ∧ w'.cell? ⟨g0, off0, none⟩ = some (.slice v0.A v0.n v0.c))
        (first | go_keep | ((repeat' apply And.intro) <;> exact bCell hb5 (by assumption))) ((go_at_call 146; refine (spec_SameFactors_c vx.A v0.A vx.n v0.n vx.c v0.c x.factors x0.factors _ hs1 hs0 (hRd.below (bDrew hwb)) (hRd0'.below (bDrew hwb))).mono ?_; rw [HV.out]; rintro e w5 ⟨rfl, hb5⟩))
      have hbq := bTrans (bDrew hwb) hb5
      cases bs
      · have hfin : Hid (isSynced t = false) := by rw [Hid, hfn.out, HS.out, Bool.false_and]
        go_wp2_with fail
        go_ret
        exact ⟨by rw [hfin.out]; rfl, bTrans HB hbq⟩
      · have hnx : AInv (fun r => sameL r.factors x0.factors) t.robots (k + 1) := by rw [AInv, HS.out, Bool.true_and]
        go_wp2_with fail
        go_roundw
        case rel => exact ⟨k + 1, by omega, by go_num, hnx, bTrans hb hbq⟩
        case measure => simp [intOf]; omega
    · have hfin := hi.done lr hlt
      go_wp2_with fail
      go_ret
      exact ⟨by rw [hfn.out, hfin.out]; rfl, HB⟩
end Go.Proofs.Ytadmeijogbljhaa
