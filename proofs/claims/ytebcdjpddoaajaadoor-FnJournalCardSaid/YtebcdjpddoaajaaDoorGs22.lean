/- Texts of this proof, one behind the other: FBun, NmOf2, Jrn. -/
import Derived.Test.YtebcdjpddoaajaaDoorGs15
import Derived.Test.YtebcdjpddoaajaaDoorGs17
import Derived.Test.YtebcdjpddoaajaaDoorGs19
import Derived.Test.YtebcdjpddoaajaaDoorGs20
import Derived.Test.YtebcdjpddoaajaaDoorGs24
/- FormatBundle: what the two answer. -/
namespace Go.Proofs.YtebcdjpddoaajaaDoor
open Go.RowKit
set_option linter.unusedVariables false
set_option linter.unusedSimpArgs false
set_option maxHeartbeats 1000000
set_option maxRecDepth 100000
theorem spec_FormatBundle_k (v : Sv) (b : Bundle) (w : World) (hm : bulkB b ≤ 1048576) (hok : okB b) (hr : RdB w v b) :
    Calls Tryd.prog 72 #[vBundle b.robot v.A v.n v.c] w fun e w' => e = .returned (.string (fmtBun b)) ∧ Below w.heap.size w w' := by
  have hB0 : Below w.heap.size w (w.alloc (.cells #[.int .i64 b.robot, .slice v.A v.n v.c] 47)) := bAlloc (Below.refl _ _) _
  have rdb := RdF.below hr hB0
  have HIV := Lib.hid (spec_IsValidBundle_k v b (w.alloc (.cells #[.int .i64 b.robot, .slice v.A v.n v.c] 47)) hm hok rdb)
  clear rdb hB0
  cases hbv : isBundle b.robot b.factors
  · have hfin : Hid (fmtBun b = ⟨#[]⟩) := by simp [Hid, fmtBun, hbv]
    have HB := Lib.hid hbv
    clear hbv
    go_enter Tryd.func72, Tryd.ntmps72
    go_wp2_with (go_at_call 104; refine (HIV.out).mono ?_; rw [HB.out]; rintro e w1 ⟨rfl, hb1⟩)
    go_ret
    exact ⟨by rw [hfin.out]; rfl, bTrans (bAlloc (Below.refl _ _) _) hb1⟩
  · have hfin : Hid (fmtBun b = bunT b.robot b.factors) := by simp [Hid, fmtBun, hbv]
    have HB := Lib.hid hbv
    obtain ⟨r0, r1, h4, hall⟩ := isBundle_parts hbv
    have hsz := bulkF_small hm
    have hl : Hid (b.factors.length = v.n) := RdF.len hr
    have hn : v.n ≤ 4 := by have := hl.out; omega
    have hrow : RowF w v.A v.n b.factors := hr
    obtain ⟨A, n, c⟩ := v
    obtain ⟨R, l⟩ := b
    dsimp only at hl hn hrow r0 r1 hall hsz HB HIV
    obtain ⟨s0, e0, z0, c0⟩ := cat ⟨#[98, 117, 110, 100, 108, 101, 32]⟩ (itoaB R) 7 21 (by decide) (itoaB_size (by omega) (by omega)) (by omega)
    have hst : BtInv R l 0 s0 := by
      unfold BtInv
      rw [← e0.out]
      simp [bunT, itoaB, ByteArray.data_append]
    have HST := Lib.hid hst
    clear hr hm hok hbv hst h4
    go_enter Tryd.func72, Tryd.ntmps72
    go_wp2_with (first
      | (go_at_call 104; refine (HIV.out).mono ?_; rw [HB.out]; rintro e w1 ⟨rfl, hb1⟩; have k1 := bBox hb1 w.heap.size (by simp); have hz1 := bsz1 hb1; have B1 : Below w.heap.size w w1 := bTrans (bAlloc (Below.refl _ _) _) hb1)
      | (go_at_call 86; refine (spec_FormatInt_c _ _ (by omega) (by omega)).mono ?_; rintro e w2 ⟨rfl, hb2⟩; have k2 := bBox hb2 w.heap.size (by omega); have hz2 : w.heap.size + 1 ≤ w2.heap.size := (by have := hb2.size; omega); have B2 : Below w.heap.size w w2 := bTrans (by with_reducible assumption) hb2))
    clear HIV k1 hb1 hz1 B1
    go_loopw [3, 16] (fun s i wr => ∃ (k : Nat) (t : ByteArray), k ≤ n ∧ i = .int .i64 k ∧ s = .string t ∧ BtInv R l k t ∧ t.size ≤ 28 + 117 * k ∧ Below w.heap.size w wr) (fun _ i _ => n - (intOf i).toNat)
    case atStart => exact ⟨0, _, by omega, rfl, rfl, HST.out, by omega, B2⟩
    case round =>
      obtain ⟨k, s, hk, rfl, rfl, hi, hz, hb⟩ := hrel
      by_cases hlt : k < n
      · obtain ⟨f, g, off, hf, rfl, g0, g1, g2, g3, g4, g5, g6, g7⟩ := RowF.at_ (hrow.below hb) hlt
        have hsf := Lib.hid (hsz f (List.mem_of_getElem? hf.out))
        have hz0 := fmtFac_size f
        have hvf := hall f (List.mem_of_getElem? hf.out)
        generalize hF : fmtFac f = F at hz0
        have HF : Hid (fmtFac ⟨f.id, f.kind, f.frm, f.to, ⟨f.pose.turn, f.pose.x, f.pose.y⟩, f.weight⟩ = F) := hF
        have HZ := Lib.hid hz0
        obtain ⟨u0, e0, z0, c0⟩ := cat s ⟨#[59]⟩ (28 + 117 * k) 1 hz (by decide) (by omega)
        obtain ⟨u1, e1, z1, c1⟩ := cat u0 F (28 + 117 * k + 1) 116 z0 HZ.out (by omega)
        have hnx : BtInv R l (k + 1) u1 := hi.next hf hvf (by rw [hF, ← e1.out, ← e0.out]; simp [ByteArray.data_append])
        have HI := Lib.hid hnx
        clear hF hi hnx hz0 hvf
        go_wp2_with (go_at_call 103; refine (spec_FormatFactor_c _ _ _ _ _ _ _ _ _ hsf.out.1 hsf.out.2).mono ?_; rw [HF.out]; rintro e w1 ⟨rfl, hb1⟩)
        exact ⟨⟨k + 1, u1, by omega, by simp, rfl, HI.out, by omega, bTrans (by first | with_reducible assumption | exact bAlloc (by with_reducible assumption) _) hb1⟩, by simp only [intOf]; omega⟩
      · have hd := hi.done hl hlt
        have HD := Lib.hid hd
        clear hd hi
        go_wp2
        go_ret
        exact ⟨by rw [hfin.out, ← HD.out]; rfl, hb⟩
theorem impl_FormatBundle_k (v : Sv) (b : Bundle) (w : World) (hm : bulkB b ≤ 1048576) (hok : okB b) (hr : RdB w v b) (hT : Tab w) :
    Calls Tryd.prog 24 #[vBundle b.robot v.A v.n v.c] w fun e w' => e = .returned (.string (fmtBun b)) ∧ Below w.heap.size w w' := by
  have HT := Lib.hid hT
  clear hT
  have hB0 : Below w.heap.size w (w.alloc (.cells #[.int .i64 b.robot, .slice v.A v.n v.c] 47)) := bAlloc (Below.refl _ _) _
  have rdb := RdF.below hr hB0
  have HIV := Lib.hid (impl_IsValidBundle_k v b (w.alloc (.cells #[.int .i64 b.robot, .slice v.A v.n v.c] 47)) hm hok rdb)
  clear rdb hB0
  cases hbv : isBundle b.robot b.factors
  · have hfin : Hid (fmtBun b = ⟨#[]⟩) := by simp [Hid, fmtBun, hbv]
    have HB := Lib.hid hbv
    clear hbv
    go_enter Tryd.func24, Tryd.ntmps24
    go_wp2_with (go_at_call 62; refine (HIV.out).mono ?_; rw [HB.out]; rintro e w1 ⟨rfl, hb1⟩)
    go_ret
    exact ⟨by rw [hfin.out]; rfl, bTrans (bAlloc (Below.refl _ _) _) hb1⟩
  · have hfin : Hid (fmtBun b = bunT b.robot b.factors) := by simp [Hid, fmtBun, hbv]
    have HB := Lib.hid hbv
    obtain ⟨r0, r1, h4, hall⟩ := isBundle_parts hbv
    have hsz := bulkF_small hm
    have hl : Hid (b.factors.length = v.n) := RdF.len hr
    have hn : v.n ≤ 4 := by have := hl.out; omega
    have hrow : RowF w v.A v.n b.factors := hr
    obtain ⟨A, n, c⟩ := v
    obtain ⟨R, l⟩ := b
    dsimp only at hl hn hrow r0 r1 hall hsz HB HIV
    obtain ⟨s0, e0, z0, c0⟩ := cat ⟨#[98, 117, 110, 100, 108, 101, 32]⟩ (itoaB R) 7 21 (by decide) (itoaB_size (by omega) (by omega)) (by omega)
    have hst : BtInv R l 0 s0 := by
      unfold BtInv
      rw [← e0.out]
      simp [bunT, itoaB, ByteArray.data_append]
    have HST := Lib.hid hst
    clear hr hm hok hbv hst h4
    go_enter Tryd.func24, Tryd.ntmps24
    go_wp2_with (first
      | (go_at_call 62; refine (HIV.out).mono ?_; rw [HB.out]; rintro e w1 ⟨rfl, hb1⟩; have k1 := bBox hb1 w.heap.size (by simp); have hz1 := bsz1 hb1; have B1 : Below w.heap.size w w1 := bTrans (bAlloc (Below.refl _ _) _) hb1)
      | (go_at_call 54; refine (impl_FormatInt_c _ _ (by omega) (by omega) (HT.out.below (by first | with_reducible assumption | exact bAlloc (by with_reducible assumption) _))).mono ?_; rintro e w2 ⟨rfl, hb2⟩; have k2 := bBox hb2 w.heap.size (by omega); have hz2 : w.heap.size + 1 ≤ w2.heap.size := (by have := hb2.size; omega); have B2 : Below w.heap.size w w2 := bTrans (by with_reducible assumption) hb2))
    clear HIV k1 hb1 hz1 B1
    go_loopw [3, 16] (fun s i wr => ∃ (k : Nat) (t : ByteArray), k ≤ n ∧ i = .int .i64 k ∧ s = .string t ∧ BtInv R l k t ∧ t.size ≤ 28 + 117 * k ∧ Below w.heap.size w wr) (fun _ i _ => n - (intOf i).toNat)
    case atStart => exact ⟨0, _, by omega, rfl, rfl, HST.out, by omega, B2⟩
    case round =>
      obtain ⟨k, s, hk, rfl, rfl, hi, hz, hb⟩ := hrel
      by_cases hlt : k < n
      · obtain ⟨f, g, off, hf, rfl, g0, g1, g2, g3, g4, g5, g6, g7⟩ := RowF.at_ (hrow.below hb) hlt
        have hsf := Lib.hid (hsz f (List.mem_of_getElem? hf.out))
        have hz0 := fmtFac_size f
        have hvf := hall f (List.mem_of_getElem? hf.out)
        generalize hF : fmtFac f = F at hz0
        have HF : Hid (fmtFac ⟨f.id, f.kind, f.frm, f.to, ⟨f.pose.turn, f.pose.x, f.pose.y⟩, f.weight⟩ = F) := hF
        have HZ := Lib.hid hz0
        obtain ⟨u0, e0, z0, c0⟩ := cat ⟨#[59]⟩ F 1 116 (by decide) HZ.out (by omega)
        obtain ⟨u1, e1, z1, c1⟩ := cat s u0 (28 + 117 * k) 117 hz z0 (by omega)
        have hnx : BtInv R l (k + 1) u1 := hi.next hf hvf (by rw [hF, ← e1.out, ← e0.out]; simp [ByteArray.data_append])
        have HI := Lib.hid hnx
        clear hF hi hnx hz0 hvf
        go_wp2_with (go_at_call 13; refine (impl_FormatFactor_c _ _ _ _ _ _ _ _ _ hsf.out.1 hsf.out.2 (HT.out.below (by first | with_reducible assumption | exact bAlloc (by with_reducible assumption) _))).mono ?_; rw [HF.out]; rintro e w1 ⟨rfl, hb1⟩)
        exact ⟨⟨k + 1, u1, by omega, by simp, rfl, HI.out, by omega, bTrans (by first | with_reducible assumption | exact bAlloc (by with_reducible assumption) _) hb1⟩, by simp only [intOf]; omega⟩
      · have hd := hi.done hl hlt
        have HD := Lib.hid hd
        clear hd hi
        go_wp2
        go_ret
        exact ⟨by rw [hfin.out, ← HD.out]; rfl, hb⟩
end Go.Proofs.YtebcdjpddoaajaaDoor

/- The names of a factor list: the reference's way. -/
namespace Go.Proofs.YtebcdjpddoaajaaDoor
open Go.RowKit
set_option linter.unusedVariables false
set_option linter.unusedSimpArgs false
set_option maxHeartbeats 800000
set_option maxRecDepth 100000
def StInv (L : List ByteArray) (f : Factor) (j : Nat) (M : List ByteArray) : Prop := M = ([f.frm, f.to].take j).foldl addNm L
theorem StInv.step {L M : List ByteArray} {f : Factor} {j : Nat} {s : ByteArray} (h : StInv L f j M) (hs : Hid ([f.frm, f.to][j]? = some s)) : StInv L f (j + 1) (addNm M s) := by
  obtain ⟨hj, rfl⟩ := List.getElem?_eq_some_iff.1 hs.out
  unfold StInv at *
  rw [List.take_succ_eq_append_getElem hj, List.foldl_append, ← h]
  rfl
theorem StInv.done {L M : List ByteArray} {f : Factor} {j : Nat} (h : StInv L f j M) (hj : ¬ j < 2) : namesF L f = M := by
  unfold StInv at h
  rw [h, List.take_of_length_le (by simp; omega)]
  rfl
end Go.Proofs.YtebcdjpddoaajaaDoor

/- JournalOf: what the two answer. -/
namespace Go.Proofs.YtebcdjpddoaajaaDoor
open Go.RowKit
set_option linter.unusedVariables false
set_option linter.unusedSimpArgs false
set_option maxHeartbeats 1000000
set_option maxRecDepth 100000
theorem impl_JournalOf_k (v : Sv) (l : List Entry) (w : World) (hm : bulkN l ≤ 1048576) (hok : okN l) (hr : RdN w v l) (hT : Tab w) :
    Calls Tryd.prog 28 #[.slice v.A v.n v.c] w fun e w' => e = .returned (.string (jrnOf l)) ∧ Below w.heap.size w w' := by
  have HT := Lib.hid hT
  clear hT
  have hl : Hid (l.length = v.n) := hr.len
  have hsz : ∀ f ∈ l, f.factor.frm.size ≤ 1048576 ∧ f.factor.to.size ≤ 1048576 := fun f hf => by
    have h1 := mem_bulk (c := Entry.bulk) hf
    unfold bulkN at hm
    simp only [Entry.bulk, Factor.bulk] at h1 hm
    omega
  have hn : v.n ≤ 1048576 := by have := hl.out; unfold bulkN at hm; omega
  have hrow : Row w v.A v.n 10 (l.map Entry.cells) := hr
  obtain ⟨A, n, c⟩ := v
  dsimp only at hl hn hrow
  clear hr hm
  by_cases h60 : n ≤ 60
  rotate_left
  · have hfin : Hid (jrnOf l = ⟨#[]⟩) := by
      have : ¬ l.length ≤ 60 := by rw [hl.out]; omega
      simp [Hid, jrnOf, this]
    go_enter Tryd.func28, Tryd.ntmps28
    go_wp2
    go_ret
    exact ⟨by rw [hfin.out]; rfl, Below.refl _ _⟩
  have hfin : Hid (jrnOf l = jrn l 1 ⟨#[]⟩) := by
    have : l.length ≤ 60 := by rw [hl.out]; omega
    simp [Hid, jrnOf, this]
  go_enter Tryd.func28, Tryd.ntmps28
  go_wp2
  go_loopw [3, 4, 14] (fun s q i wr => ∃ (k : Nat) (t : ByteArray) (p : Int), k ≤ n ∧ i = .int .i64 k ∧ s = .string t ∧ q = .int .i64 p ∧ JrInv l k p t ∧ t.size ≤ 144 * k ∧ Below w.heap.size w wr) (fun _ _ i _ => n - (intOf i).toNat)
  case atStart => exact ⟨0, _, 1, by omega, rfl, rfl, rfl, rfl, by decide, Below.refl _ _⟩
  case round =>
    obtain ⟨k, s, p, hk, rfl, rfl, rfl, hi, hz, hb⟩ := hrel
    by_cases hlt : k < n
    · obtain ⟨f, g, off, hf, rfl, g0, g1, g2, g3, g4, g5, g6, g7, g8, g9⟩ := RowN.at_ (hrow.below hb) hlt
      have hsf := Lib.hid (hsz f (List.mem_of_getElem? hf.out))
      have hwe := Lib.hid (bounds_i64 (hok f (List.mem_of_getElem? hf.out)).1)
      cases hv : (vldEntry f && inR p 0 65520)
      · have HF : Hid (fmtEnt ⟨f.remove, f.id, ⟨f.factor.id, f.factor.kind, f.factor.frm, f.factor.to, ⟨f.factor.pose.turn, f.factor.pose.x, f.factor.pose.y⟩, f.factor.weight⟩⟩ p = (⟨#[]⟩, 0)) := by
          show fmtEnt f p = _
          simp [fmtEnt, hv]
        have hbad := hi.bad hf hv
        have HBD := Lib.hid hbad
        clear hbad hi hv
        go_wp2_with (go_at_call 66; refine (impl_FormatEntry_c _ _ _ _ _ _ _ _ _ _ _ _ hwe.out hsf.out.1 hsf.out.2 (HT.out.below (by first | with_reducible assumption | exact bAlloc (by with_reducible assumption) _))).mono ?_; rw [HF.out]; rintro e w1 ⟨rfl, hb1⟩)
        go_ret
        exact ⟨by rw [hfin.out, HBD.out]; rfl, bTrans (by first | with_reducible assumption | exact bAlloc (by with_reducible assumption) _) hb1⟩
      · have HF0 : fmtEnt f p = (entT f p, entSum f p) := by simp [fmtEnt, hv]
        have hve : vldEntry f = true := by simp only [Bool.and_eq_true] at hv; exact hv.1
        have hts := entT_size hve p
        have htp := entT_pos f p
        have hnx := hi.next hf hv
        generalize entT f p = T at HF0 hts htp hnx
        generalize entSum f p = q at HF0 hnx
        have HF : Hid (fmtEnt ⟨f.remove, f.id, ⟨f.factor.id, f.factor.kind, f.factor.frm, f.factor.to, ⟨f.factor.pose.turn, f.factor.pose.x, f.factor.pose.y⟩, f.factor.weight⟩⟩ p = (T, q)) := HF0
        obtain ⟨u1, e1, z1, c1⟩ := cat s T (144 * k) 144 hz hts (by omega)
        rw [e1.out] at hnx
        have HI := Lib.hid hnx
        clear HF0 hi hnx hv hts hve
        go_wp2_with (go_at_call 66; refine (impl_FormatEntry_c _ _ _ _ _ _ _ _ _ _ _ _ hwe.out hsf.out.1 hsf.out.2 (HT.out.below (by first | with_reducible assumption | exact bAlloc (by with_reducible assumption) _))).mono ?_; rw [HF.out]; rintro e w1 ⟨rfl, hb1⟩)
        exact ⟨⟨k + 1, u1, q, by omega, by simp, rfl, rfl, HI.out, by omega, bTrans (by first | with_reducible assumption | exact bAlloc (by with_reducible assumption) _) hb1⟩, by simp only [intOf]; omega⟩
    · have hd := hi.done hl hlt
      have HD := Lib.hid hd
      clear hd hi
      go_wp2
      go_ret
      exact ⟨by rw [hfin.out, HD.out]; rfl, hb⟩
end Go.Proofs.YtebcdjpddoaajaaDoor
