/- JournalOf: what the two answer. -/
import Derived.Test.YtbfajhfmfdiacaaDoorDigP
import Derived.Test.YtbfajhfmfdiacaaDoorEntS
import Derived.Test.YtbfajhfmfdiacaaDoorEntI
import Derived.Test.YtbfajhfmfdiacaaDoorBun
namespace Go.Proofs.YtbfajhfmfdiacaaDoor
open Go.RowKit
set_option linter.unusedVariables false
set_option linter.unusedSimpArgs false
set_option maxHeartbeats 1000000
set_option maxRecDepth 100000
theorem spec_JournalOf_k (v : Sv) (l : List Entry) (w : World) (hm : bulkN l ≤ 1048576) (hok : okN l) (hr : RdN w v l) :
    Calls Tryd.prog 40 #[.slice v.A v.n v.c] w fun e w' => e = .returned (.string (jrnOf l)) ∧ Below w.heap.size w w' := by
  have hl : Hid (l.length = v.n) := hr.len
  have hsz : ∀ f ∈ l, f.factor.frm.size ≤ 1048576 ∧ f.factor.to.size ≤ 1048576 := fun f hf => by
    have h1 := mem_bulk (c := Entry.bulk) hf
    unfold bulkN at hm
    simp only [Entry.bulk, Factor.bulk] at h1 hm
    omega
  have hn : v.n ≤ 1048576 := by have := hl.out; unfold bulkN at hm; omega
  have hrow : Row w v.A v.n 10 (l.map Entry.cells) := hr
  obtain ⟨A, n, c⟩ := v
  dsimp only at hl hn hrow
  clear hr hm
  by_cases h60 : n ≤ 60
  rotate_left
  · have hfin : Hid (jrnOf l = ⟨#[]⟩) := by
      have : ¬ l.length ≤ 60 := by rw [hl.out]; omega
      simp [Hid, jrnOf, this]
    go_enter Tryd.func40, Tryd.ntmps40
    go_wp2
    go_ret
    exact ⟨by rw [hfin.out]; rfl, Below.refl _ _⟩
  have hfin : Hid (jrnOf l = jrn l 1 ⟨#[]⟩) := by
    have : l.length ≤ 60 := by rw [hl.out]; omega
    simp [Hid, jrnOf, this]
  go_enter Tryd.func40, Tryd.ntmps40
  go_wp2
  go_loopw [3, 4, 14] (fun s q i wr => ∃ (k : Nat) (t : ByteArray) (p : Int), k ≤ n ∧ i = .int .i64 k ∧ s = .string t ∧ q = .int .i64 p ∧ JrInv l k p t ∧ t.size ≤ 144 * k ∧ Below w.heap.size w wr) (fun _ _ i _ => n - (intOf i).toNat)
  case atStart => exact ⟨0, _, 1, by omega, rfl, rfl, rfl, rfl, by decide, Below.refl _ _⟩
  case round =>
    obtain ⟨k, s, p, hk, rfl, rfl, rfl, hi, hz, hb⟩ := hrel
    by_cases hlt : k < n
    · obtain ⟨f, g, off, hf, rfl, g0, g1, g2, g3, g4, g5, g6, g7, g8, g9⟩ := RowN.at_ (hrow.below hb) hlt
      have hsf := Lib.hid (hsz f (List.mem_of_getElem? hf.out))
      have hwe := Lib.hid (bounds_i64 (hok f (List.mem_of_getElem? hf.out)).1)
      cases hv : (vldEntry f && inR p 0 65520)
      · have HF : Hid (fmtEnt ⟨f.remove, f.id, ⟨f.factor.id, f.factor.kind, f.factor.frm, f.factor.to, ⟨f.factor.pose.turn, f.factor.pose.x, f.factor.pose.y⟩, f.factor.weight⟩⟩ p = (⟨#[]⟩, 0)) := by
          show fmtEnt f p = _
          simp [fmtEnt, hv]
        have hbad := hi.bad hf hv
        have HBD := Lib.hid hbad
        clear hbad hi hv
        go_wp2_with (go_at_call 26; refine (spec_FormatEntry_c _ _ _ _ _ _ _ _ _ _ _ _ hwe.out hsf.out.1 hsf.out.2).mono ?_; rw [HF.out]; rintro e w1 ⟨rfl, hb1⟩)
        go_ret
        exact ⟨by rw [hfin.out, HBD.out]; rfl, bTrans (by first | with_reducible assumption | exact bAlloc (by with_reducible assumption) _) hb1⟩
      · have HF0 : fmtEnt f p = (entT f p, entSum f p) := by simp [fmtEnt, hv]
        have hve : vldEntry f = true := by simp only [Bool.and_eq_true] at hv; exact hv.1
        have hts := entT_size hve p
        have htp := entT_pos f p
        have hnx := hi.next hf hv
        generalize entT f p = T at HF0 hts htp hnx
        generalize entSum f p = q at HF0 hnx
        have HF : Hid (fmtEnt ⟨f.remove, f.id, ⟨f.factor.id, f.factor.kind, f.factor.frm, f.factor.to, ⟨f.factor.pose.turn, f.factor.pose.x, f.factor.pose.y⟩, f.factor.weight⟩⟩ p = (T, q)) := HF0
        obtain ⟨u1, e1, z1, c1⟩ := cat s T (144 * k) 144 hz hts (by omega)
        rw [e1.out] at hnx
        have HI := Lib.hid hnx
        clear HF0 hi hnx hv hts hve
        go_wp2_with (go_at_call 26; refine (spec_FormatEntry_c _ _ _ _ _ _ _ _ _ _ _ _ hwe.out hsf.out.1 hsf.out.2).mono ?_; rw [HF.out]; rintro e w1 ⟨rfl, hb1⟩)
        exact ⟨⟨k + 1, u1, q, by omega, by simp, rfl, rfl, HI.out, by omega, bTrans (by first | with_reducible assumption | exact bAlloc (by with_reducible assumption) _) hb1⟩, by simp only [intOf]; omega⟩
    · have hd := hi.done hl hlt
      have HD := Lib.hid hd
      clear hd hi
      go_wp2
      go_ret
      exact ⟨by rw [hfin.out, HD.out]; rfl, hb⟩
theorem impl_JournalOf_k (v : Sv) (l : List Entry) (w : World) (hm : bulkN l ≤ 1048576) (hok : okN l) (hr : RdN w v l) (hT : Tab w) :
    Calls Tryd.prog 42 #[.slice v.A v.n v.c] w fun e w' => e = .returned (.string (jrnOf l)) ∧ Below w.heap.size w w' := by
  have HT := Lib.hid hT
  clear hT
  have hl : Hid (l.length = v.n) := hr.len
  have hsz : ∀ f ∈ l, f.factor.frm.size ≤ 1048576 ∧ f.factor.to.size ≤ 1048576 := fun f hf => by
    have h1 := mem_bulk (c := Entry.bulk) hf
    unfold bulkN at hm
    simp only [Entry.bulk, Factor.bulk] at h1 hm
    omega
  have hn : v.n ≤ 1048576 := by have := hl.out; unfold bulkN at hm; omega
  have hrow : Row w v.A v.n 10 (l.map Entry.cells) := hr
  obtain ⟨A, n, c⟩ := v
  dsimp only at hl hn hrow
  clear hr hm
  by_cases h60 : n ≤ 60
  rotate_left
  · have hfin : Hid (jrnOf l = ⟨#[]⟩) := by
      have : ¬ l.length ≤ 60 := by rw [hl.out]; omega
      simp [Hid, jrnOf, this]
    go_enter Tryd.func42, Tryd.ntmps42
    go_wp2
    go_ret
    exact ⟨by rw [hfin.out]; rfl, Below.refl _ _⟩
  have hfin : Hid (jrnOf l = jrn l 1 ⟨#[]⟩) := by
    have : l.length ≤ 60 := by rw [hl.out]; omega
    simp [Hid, jrnOf, this]
  go_enter Tryd.func42, Tryd.ntmps42
  go_wp2
  go_loopw [3, 4, 14] (fun s q i wr => ∃ (k : Nat) (t : ByteArray) (p : Int), k ≤ n ∧ i = .int .i64 k ∧ s = .string t ∧ q = .int .i64 p ∧ JrInv l k p t ∧ t.size ≤ 144 * k ∧ Below w.heap.size w wr) (fun _ _ i _ => n - (intOf i).toNat)
  case atStart => exact ⟨0, _, 1, by omega, rfl, rfl, rfl, rfl, by decide, Below.refl _ _⟩
  case round =>
    obtain ⟨k, s, p, hk, rfl, rfl, rfl, hi, hz, hb⟩ := hrel
    by_cases hlt : k < n
    · obtain ⟨f, g, off, hf, rfl, g0, g1, g2, g3, g4, g5, g6, g7, g8, g9⟩ := RowN.at_ (hrow.below hb) hlt
      have hsf := Lib.hid (hsz f (List.mem_of_getElem? hf.out))
      have hwe := Lib.hid (bounds_i64 (hok f (List.mem_of_getElem? hf.out)).1)
      cases hv : (vldEntry f && inR p 0 65520)
      · have HF : Hid (fmtEnt ⟨f.remove, f.id, ⟨f.factor.id, f.factor.kind, f.factor.frm, f.factor.to, ⟨f.factor.pose.turn, f.factor.pose.x, f.factor.pose.y⟩, f.factor.weight⟩⟩ p = (⟨#[]⟩, 0)) := by
          show fmtEnt f p = _
          simp [fmtEnt, hv]
        have hbad := hi.bad hf hv
        have HBD := Lib.hid hbad
        clear hbad hi hv
        go_wp2_with (go_at_call 28; refine (impl_FormatEntry_c _ _ _ _ _ _ _ _ _ _ _ _ hwe.out hsf.out.1 hsf.out.2 (HT.out.below (by first | with_reducible assumption | exact bAlloc (by with_reducible assumption) _))).mono ?_; rw [HF.out]; rintro e w1 ⟨rfl, hb1⟩)
        go_ret
        exact ⟨by rw [hfin.out, HBD.out]; rfl, bTrans (by first | with_reducible assumption | exact bAlloc (by with_reducible assumption) _) hb1⟩
      · have HF0 : fmtEnt f p = (entT f p, entSum f p) := by simp [fmtEnt, hv]
        have hve : vldEntry f = true := by simp only [Bool.and_eq_true] at hv; exact hv.1
        have hts := entT_size hve p
        have htp := entT_pos f p
        have hnx := hi.next hf hv
        generalize entT f p = T at HF0 hts htp hnx
        generalize entSum f p = q at HF0 hnx
        have HF : Hid (fmtEnt ⟨f.remove, f.id, ⟨f.factor.id, f.factor.kind, f.factor.frm, f.factor.to, ⟨f.factor.pose.turn, f.factor.pose.x, f.factor.pose.y⟩, f.factor.weight⟩⟩ p = (T, q)) := HF0
        obtain ⟨u1, e1, z1, c1⟩ := cat s T (144 * k) 144 hz hts (by omega)
        rw [e1.out] at hnx
        have HI := Lib.hid hnx
        clear HF0 hi hnx hv hts hve
        go_wp2_with (go_at_call 28; refine (impl_FormatEntry_c _ _ _ _ _ _ _ _ _ _ _ _ hwe.out hsf.out.1 hsf.out.2 (HT.out.below (by first | with_reducible assumption | exact bAlloc (by with_reducible assumption) _))).mono ?_; rw [HF.out]; rintro e w1 ⟨rfl, hb1⟩)
        exact ⟨⟨k + 1, u1, q, by omega, by simp, rfl, rfl, HI.out, by omega, bTrans (by first | with_reducible assumption | exact bAlloc (by with_reducible assumption) _) hb1⟩, by simp only [intOf]; omega⟩
    · have hd := hi.done hl hlt
      have HD := Lib.hid hd
      clear hd hi
      go_wp2
      go_ret
      exact ⟨by rw [hfin.out, HD.out]; rfl, hb⟩
end Go.Proofs.YtbfajhfmfdiacaaDoor
