/- Texts of this proof, one behind the other: Dig. -/
import Derived.Test.YtebcdjpddoaajaaDoorGs15
import Derived.Test.YtebcdjpddoaajaaDoorGs17
import Derived.Test.YtebcdjpddoaajaaDoorGs19
import Derived.Test.YtebcdjpddoaajaaDoorGs20
/- ListDigest: what the two answer. -/
namespace Go.Proofs.YtebcdjpddoaajaaDoor
open Go.RowKit
set_option linter.unusedVariables false
set_option linter.unusedSimpArgs false
set_option maxHeartbeats 1000000
set_option maxRecDepth 100000
theorem impl_ListDigest_k (v : Sv) (l : List Factor) (w : World) (hm : bulkF l ≤ 1048576) (hok : okF l) (hr : RdF w v l) (hT : Tab w) :
    Calls Tryd.prog 26 #[.slice v.A v.n v.c] w fun e w' => e = rInt (digest l) ∧ Below w.heap.size w w' := by
  have HT := Lib.hid hT
  clear hT
  have hsz := bulkF_small hm
  have hl : Hid (l.length = v.n) := hr.len
  have hn : v.n ≤ 1048576 := by have := hl.out; unfold bulkF at hm; omega
  have hrow : RowF w v.A v.n l := hr
  obtain ⟨A, n, c⟩ := v
  dsimp only at hl hn hrow
  clear hr hm hok
  go_enter Tryd.func26, Tryd.ntmps26
  go_wp2
  go_loopw [3, 8] (fun s i wr => ∃ (k : Nat) (t : ByteArray), k ≤ n ∧ i = .int .i64 k ∧ s = .string t ∧ DigInv l k t ∧ t.size ≤ 117 * k ∧ Below w.heap.size w wr) (fun _ i _ => n - (intOf i).toNat)
  case atStart => exact ⟨0, _, by omega, rfl, rfl, rfl, by decide, Below.refl _ _⟩
  case round =>
    obtain ⟨k, s, hk, rfl, rfl, hi, hz, hb⟩ := hrel
    by_cases hlt : k < n
    · obtain ⟨f, g, off, hf, rfl, g0, g1, g2, g3, g4, g5, g6, g7⟩ := RowF.at_ (hrow.below hb) hlt
      have hsf := Lib.hid (hsz f (List.mem_of_getElem? hf.out))
      have hz0 := fmtFac_size f
      generalize hF : fmtFac f = F at hz0
      have HF : Hid (fmtFac ⟨f.id, f.kind, f.frm, f.to, ⟨f.pose.turn, f.pose.x, f.pose.y⟩, f.weight⟩ = F) := hF
      have HZ := Lib.hid hz0
      obtain ⟨u0, e0, z0, c0⟩ := cat F ⟨#[10]⟩ 116 1 HZ.out (by decide) (by omega)
      obtain ⟨u1, e1, z1, c1⟩ := cat s u0 (117 * k) 117 hz z0 (by omega)
      have hnx : DigInv l (k + 1) u1 := hi.next hf (by rw [hF, ← e1.out, ← e0.out]; simp [ByteArray.data_append])
      have HI := Lib.hid hnx
      clear hF hi hnx hz0
      go_wp2_with (go_at_call 13; refine (impl_FormatFactor_c _ _ _ _ _ _ _ _ _ hsf.out.1 hsf.out.2 (HT.out.below (by first | with_reducible assumption | exact bAlloc (by with_reducible assumption) _))).mono ?_; rw [HF.out]; rintro e w1 ⟨rfl, hb1⟩)
      exact ⟨⟨k + 1, u1, by omega, by simp, rfl, HI.out, by omega, bTrans (by first | with_reducible assumption | exact bAlloc (by with_reducible assumption) _) hb1⟩, by simp only [intOf]; omega⟩
    · have hd := hi.done hl hlt
      have HD := Lib.hid hd
      have hz9 : s.size ≤ 1073741824 := by omega
      clear hd hi
      go_wp2_with (go_at_call 64; refine (impl_Checksum_c _ _ hz9).mono ?_; rw [HD.out]; rintro e w1 ⟨rfl, rfl⟩)
      go_ret
      exact ⟨rfl, hb⟩
end Go.Proofs.YtebcdjpddoaajaaDoor
