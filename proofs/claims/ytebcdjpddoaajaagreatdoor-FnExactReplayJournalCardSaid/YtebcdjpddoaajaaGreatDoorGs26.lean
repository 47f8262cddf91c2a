/- Texts of this proof, one behind the other: FL, Places. -/
import Derived.Test.YtebcdjpddoaajaaGreatDoorGs6
import Derived.Test.YtebcdjpddoaajaaGreatDoorGs8
import Derived.Test.YtebcdjpddoaajaaGreatDoorGs25
/- Valid factor lists: what the two IsFactorList answer. -/
namespace Go.Proofs.YtebcdjpddoaajaaGreatDoor
open Go.RowKit
set_option linter.unusedVariables false
set_option linter.unusedSimpArgs false
set_option maxHeartbeats 800000
set_option maxRecDepth 100000
def FlInv (l : List Factor) (k : Nat) : Prop := ascL l none = ascL (l.drop k) (prevId l k)
theorem FlInv.step {l : List Factor} {k : Nat} {f : Factor} (h : FlInv l k) (hf : Hid (l[k]? = some f)) :
    ascL l none = (vldFactor f && ((match prevId l k with | none => true | some p => decide (p < f.id)) && ascL (l.drop (k + 1)) (prevId l (k + 1)))) := by
  unfold FlInv at h
  rw [h, drop_at hf, prevId_succ hf]
  rfl
theorem FlInv.done {l : List Factor} {k n : Nat} (h : FlInv l k) (hl : Hid (l.length = n)) (hk : ¬ k < n) : Hid (ascL l none = true) := by
  unfold FlInv at h; rw [Hid, h, drop_end hl hk]; rfl
theorem FlInv.no {l : List Factor} {X Z b : Bool} (h : Hid (ascL l none = (X && (Z && b)))) (hx : X = false ∨ Z = false) : Hid (isFL l = false) := by
  rw [Hid, isFL, h.out]
  rcases hx with rfl | rfl <;> simp
set_option maxHeartbeats 8000000 in
theorem impl_IsFactorList_c (A : Option Addr) (n c : Nat) (l : List Factor) (w : World) (hn : n ≤ 1048576) (hr : RowF w A n l) (hs : ∀ f ∈ l, f.frm.size ≤ 1048576 ∧ f.to.size ≤ 1048576) :
    Calls Tryz.prog 46 #[.slice A n c] w fun e w' => e = rBool (isFL l) ∧ Below w.heap.size w w' := by
  have hl := hr.len
  by_cases h40 : 40 < n
  · have hfin : Hid (isFL l = false) := by
      have : ¬ l.length ≤ 40 := by rw [hl.out]; omega
      simp [Hid, isFL, this]
    go_enter Tryz.func46, Tryz.ntmps46
    go_wp2
    go_ret
    exact ⟨by rw [hfin.out]; rfl, Below.refl _ _⟩
  have hn40 : n ≤ 40 := by omega
  go_enter Tryz.func46, Tryz.ntmps46
  go_wp2_with fail
  go_loopw [10, 3] (fun i j wr => ∃ (k : Nat), k ≤ n ∧ i = .int .i64 k ∧ FlInv l k ∧ Below w.heap.size w wr) (fun i _ _ => n - (intOf i).toNat)
  case atStart => exact ⟨0, by omega, rfl, rfl, Below.refl _ _⟩
  case round =>
    obtain ⟨k, hk, rfl, hi, hb⟩ := hrel
    by_cases hlt : k < n
    · obtain ⟨f, g, off, hf, rfl, g0, g1, g2, g3, g4, g5, g6, g7⟩ := RowF.at_ (hr.below hb) hlt
      have hst := hi.step hf
      have hsz := hs f (List.mem_of_getElem? hf.out)
      generalize hv : vldFactor f = bv at hst
      have HV := Lib.hid hv
      have HS := Lib.hid hst
      clear hv hst hi
      cases bv
      · have hfin := FlInv.no HS (.inl rfl)
        go_wp2_with fail
        refine region_at fun W hW => ?_
        have hwb : Below wr.heap.size wr W := by rw [hW.out]; exact bAlloc (Below.refl _ _) _
        have c0 := cell_regrown (show W.cell? ⟨wr.heap.size, 0, none⟩ = some (.int .i64 f.id) by rw [hW.out]; simp)
        have c1 := cell_regrown (show W.cell? ⟨wr.heap.size, 1, none⟩ = some (.int .i64 f.kind) by rw [hW.out]; simp)
        have c2 := cell_regrown (show W.cell? ⟨wr.heap.size, 2, none⟩ = some (.string f.frm) by rw [hW.out]; simp)
        have c3 := cell_regrown (show W.cell? ⟨wr.heap.size, 3, none⟩ = some (.string f.to) by rw [hW.out]; simp)
        have c4 := cell_regrown (show W.cell? ⟨wr.heap.size, 4, none⟩ = some (.int .i64 f.pose.turn) by rw [hW.out]; simp)
        have c5 := cell_regrown (show W.cell? ⟨wr.heap.size, 5, none⟩ = some (.int .i64 f.pose.x) by rw [hW.out]; simp)
        have c6 := cell_regrown (show W.cell? ⟨wr.heap.size, 6, none⟩ = some (.int .i64 f.pose.y) by rw [hW.out]; simp)
        have c7 := cell_regrown (show W.cell? ⟨wr.heap.size, 7, none⟩ = some (.int .i64 f.weight) by rw [hW.out]; simp)
        have cV : ∀ d os, Calls Tryz.prog 66 #[vFactor f.id f.kind f.frm f.to f.pose.turn f.pose.x f.pose.y f.weight] (Go.Sort.grow (redrawn W d) os) fun e w2 => e = .returned (.bool false) ∧ ∃ p : Regrown, w2 = Go.Sort.grow (redrawn W p.d) p.os := fun d os => Calls.regrown_of ((impl_IsValidFactor_c f.id f.kind f.frm f.to f.pose.turn f.pose.x f.pose.y f.weight _ hsz.1 hsz.2).mono (fun _ _ h => ⟨h.1.trans (congrArg rBool HV.out), h.2⟩))
        clear hW
        refine wp_region_quiet_below (by kernel_rfl) (by kernel_rfl) ?_
        repeat (go_big_quiet_step (first | exact cV _ _))
        refine wpQuiet_nil ?_
        intro _ hw
        obtain ⟨⟨dq, osq⟩, hw⟩ := hw
        subst hw
        have hbq := bTrans hwb (below_regrown W dq osq)
        clear c0 c1 c2 c3 c4 c5 c6 c7 cV
        go_wp2
        go_ret
        exact ⟨by rw [hfin.out]; rfl, bTrans hb hbq⟩
      · by_cases hk0 : k = 0
        · have hkz : ¬ 0 < k := by omega
          have hnx : FlInv l (k + 1) := by
            have := HS.out
            subst hk0
            simpa [FlInv, prevId] using this
          clear hk0
          go_wp2_with fail
          refine region_at fun W hW => ?_
          have hwb : Below wr.heap.size wr W := by rw [hW.out]; exact bAlloc (Below.refl _ _) _
          have c0 := cell_regrown (show W.cell? ⟨wr.heap.size, 0, none⟩ = some (.int .i64 f.id) by rw [hW.out]; simp)
          have c1 := cell_regrown (show W.cell? ⟨wr.heap.size, 1, none⟩ = some (.int .i64 f.kind) by rw [hW.out]; simp)
          have c2 := cell_regrown (show W.cell? ⟨wr.heap.size, 2, none⟩ = some (.string f.frm) by rw [hW.out]; simp)
          have c3 := cell_regrown (show W.cell? ⟨wr.heap.size, 3, none⟩ = some (.string f.to) by rw [hW.out]; simp)
          have c4 := cell_regrown (show W.cell? ⟨wr.heap.size, 4, none⟩ = some (.int .i64 f.pose.turn) by rw [hW.out]; simp)
          have c5 := cell_regrown (show W.cell? ⟨wr.heap.size, 5, none⟩ = some (.int .i64 f.pose.x) by rw [hW.out]; simp)
          have c6 := cell_regrown (show W.cell? ⟨wr.heap.size, 6, none⟩ = some (.int .i64 f.pose.y) by rw [hW.out]; simp)
          have c7 := cell_regrown (show W.cell? ⟨wr.heap.size, 7, none⟩ = some (.int .i64 f.weight) by rw [hW.out]; simp)
          have cV : ∀ d os, Calls Tryz.prog 66 #[vFactor f.id f.kind f.frm f.to f.pose.turn f.pose.x f.pose.y f.weight] (Go.Sort.grow (redrawn W d) os) fun e w2 => e = .returned (.bool true) ∧ ∃ p : Regrown, w2 = Go.Sort.grow (redrawn W p.d) p.os := fun d os => Calls.regrown_of ((impl_IsValidFactor_c f.id f.kind f.frm f.to f.pose.turn f.pose.x f.pose.y f.weight _ hsz.1 hsz.2).mono (fun _ _ h => ⟨h.1.trans (congrArg rBool HV.out), h.2⟩))
          clear hW
          refine wp_region_quiet_below (by kernel_rfl) (by kernel_rfl) ?_
          repeat (go_big_quiet_step (first | exact cV _ _))
          refine wpQuiet_nil ?_
          intro _ hw
          obtain ⟨⟨dq, osq⟩, hw⟩ := hw
          subst hw
          have hbq := bTrans hwb (below_regrown W dq osq)
          clear c0 c1 c2 c3 c4 c5 c6 c7 cV
          go_wp2
          exact ⟨⟨k + 1, by omega, by simp, hnx, bTrans hb hbq⟩, by simp only [intOf]; omega⟩
        · obtain ⟨m, rfl⟩ : ∃ m, k = m + 1 := ⟨k - 1, by omega⟩
          obtain ⟨p, g', off', hp, hA, p0, -⟩ := RowF.at_ (hr.below hb) (show m < n by omega)
          obtain ⟨rfl, rfl⟩ : g = g' ∧ off = off' := by simpa using hA
          clear hA hk0
          have hpe := Lib.hid (prevId_succ hp)
          by_cases hpf : p.id < f.id
          · have hpg : ¬ f.id ≤ p.id := by omega
            have hnx : FlInv l (m + 1 + 1) := by
              have := HS.out
              rw [hpe.out] at this
              simpa [FlInv, hpf] using this
            clear hpf
            go_wp2_with fail
            refine region_at fun W hW => ?_
            have hwb : Below wr.heap.size wr W := by rw [hW.out]; exact bAlloc (Below.refl _ _) _
            have c0 := cell_regrown (show W.cell? ⟨wr.heap.size, 0, none⟩ = some (.int .i64 f.id) by rw [hW.out]; simp)
            have c1 := cell_regrown (show W.cell? ⟨wr.heap.size, 1, none⟩ = some (.int .i64 f.kind) by rw [hW.out]; simp)
            have c2 := cell_regrown (show W.cell? ⟨wr.heap.size, 2, none⟩ = some (.string f.frm) by rw [hW.out]; simp)
            have c3 := cell_regrown (show W.cell? ⟨wr.heap.size, 3, none⟩ = some (.string f.to) by rw [hW.out]; simp)
            have c4 := cell_regrown (show W.cell? ⟨wr.heap.size, 4, none⟩ = some (.int .i64 f.pose.turn) by rw [hW.out]; simp)
            have c5 := cell_regrown (show W.cell? ⟨wr.heap.size, 5, none⟩ = some (.int .i64 f.pose.x) by rw [hW.out]; simp)
            have c6 := cell_regrown (show W.cell? ⟨wr.heap.size, 6, none⟩ = some (.int .i64 f.pose.y) by rw [hW.out]; simp)
            have c7 := cell_regrown (show W.cell? ⟨wr.heap.size, 7, none⟩ = some (.int .i64 f.weight) by rw [hW.out]; simp)
            have cV : ∀ d os, Calls Tryz.prog 66 #[vFactor f.id f.kind f.frm f.to f.pose.turn f.pose.x f.pose.y f.weight] (Go.Sort.grow (redrawn W d) os) fun e w2 => e = .returned (.bool true) ∧ ∃ p : Regrown, w2 = Go.Sort.grow (redrawn W p.d) p.os := fun d os => Calls.regrown_of ((impl_IsValidFactor_c f.id f.kind f.frm f.to f.pose.turn f.pose.x f.pose.y f.weight _ hsz.1 hsz.2).mono (fun _ _ h => ⟨h.1.trans (congrArg rBool HV.out), h.2⟩))
            have e0 := cell_regrown (bCell hwb p0)
            clear hW
            refine wp_region_quiet_below (by kernel_rfl) (by kernel_rfl) ?_
            repeat (go_big_quiet_step (first | exact cV _ _))
            refine wpQuiet_nil ?_
            intro _ hw
            obtain ⟨⟨dq, osq⟩, hw⟩ := hw
            subst hw
            have hbq := bTrans hwb (below_regrown W dq osq)
            clear c0 c1 c2 c3 c4 c5 c6 c7 cV e0
            go_wp2
            exact ⟨⟨m + 1 + 1, by omega, by simp, hnx, bTrans hb hbq⟩, by simp only [intOf]; omega⟩
          · have hpg : f.id ≤ p.id := by omega
            have hfin := FlInv.no HS (.inr (by rw [hpe.out]; simpa using hpf))
            clear hpf
            go_wp2_with fail
            refine region_at fun W hW => ?_
            have hwb : Below wr.heap.size wr W := by rw [hW.out]; exact bAlloc (Below.refl _ _) _
            have c0 := cell_regrown (show W.cell? ⟨wr.heap.size, 0, none⟩ = some (.int .i64 f.id) by rw [hW.out]; simp)
            have c1 := cell_regrown (show W.cell? ⟨wr.heap.size, 1, none⟩ = some (.int .i64 f.kind) by rw [hW.out]; simp)
            have c2 := cell_regrown (show W.cell? ⟨wr.heap.size, 2, none⟩ = some (.string f.frm) by rw [hW.out]; simp)
            have c3 := cell_regrown (show W.cell? ⟨wr.heap.size, 3, none⟩ = some (.string f.to) by rw [hW.out]; simp)
            have c4 := cell_regrown (show W.cell? ⟨wr.heap.size, 4, none⟩ = some (.int .i64 f.pose.turn) by rw [hW.out]; simp)
            have c5 := cell_regrown (show W.cell? ⟨wr.heap.size, 5, none⟩ = some (.int .i64 f.pose.x) by rw [hW.out]; simp)
            have c6 := cell_regrown (show W.cell? ⟨wr.heap.size, 6, none⟩ = some (.int .i64 f.pose.y) by rw [hW.out]; simp)
            have c7 := cell_regrown (show W.cell? ⟨wr.heap.size, 7, none⟩ = some (.int .i64 f.weight) by rw [hW.out]; simp)
            have cV : ∀ d os, Calls Tryz.prog 66 #[vFactor f.id f.kind f.frm f.to f.pose.turn f.pose.x f.pose.y f.weight] (Go.Sort.grow (redrawn W d) os) fun e w2 => e = .returned (.bool true) ∧ ∃ p : Regrown, w2 = Go.Sort.grow (redrawn W p.d) p.os := fun d os => Calls.regrown_of ((impl_IsValidFactor_c f.id f.kind f.frm f.to f.pose.turn f.pose.x f.pose.y f.weight _ hsz.1 hsz.2).mono (fun _ _ h => ⟨h.1.trans (congrArg rBool HV.out), h.2⟩))
            have e0 := cell_regrown (bCell hwb p0)
            clear hW
            refine wp_region_quiet_below (by kernel_rfl) (by kernel_rfl) ?_
            repeat (go_big_quiet_step (first | exact cV _ _))
            refine wpQuiet_nil ?_
            intro _ hw
            obtain ⟨⟨dq, osq⟩, hw⟩ := hw
            subst hw
            have hbq := bTrans hwb (below_regrown W dq osq)
            clear c0 c1 c2 c3 c4 c5 c6 c7 cV e0
            go_wp2
            go_ret
            exact ⟨by rw [hfin.out]; rfl, bTrans hb hbq⟩
    · have hd := hi.done hl hlt
      go_wp2_with fail
      refine Calls.mono (impl_NamesOf_c A n c l _ (by omega) (hr.below hb)) ?_
      rintro e w2 ⟨v2, rfl, ho2, hb2, hn2⟩
      have hL := Lib.hid ho2.len
      go_wp2_with fail
      go_ret
      refine ⟨ret_bool ?_, bTrans hb hb2⟩
      have h1 := hL.out
      have h2 : l.length ≤ 40 := by rw [hl.out]; exact hn40
      simp only [List.length_map] at h1
      simp [isFL, hd.out, h1, h2]; omega
set_option maxHeartbeats 8000000 in
theorem spec_IsFactorList_c (A : Option Addr) (n c : Nat) (l : List Factor) (w : World) (hn : n ≤ 1048576) (hr : RowF w A n l) (hs : ∀ f ∈ l, f.frm.size ≤ 1048576 ∧ f.to.size ≤ 1048576) :
    Calls Tryz.prog 49 #[.slice A n c] w fun e w' => e = rBool (isFL l) ∧ Below w.heap.size w w' := by
  have hl := hr.len
  go_enter Tryz.func49, Tryz.ntmps49
  go_wp2_with fail
  go_loopw [7, 3] (fun i j wr => ∃ (k : Nat), k ≤ n ∧ i = .int .i64 k ∧ FlInv l k ∧ Below w.heap.size w wr) (fun i _ _ => n - (intOf i).toNat)
  case atStart => exact ⟨0, by omega, rfl, rfl, Below.refl _ _⟩
  case round =>
    obtain ⟨k, hk, rfl, hi, hb⟩ := hrel
    by_cases hlt : k < n
    · obtain ⟨f, g, off, hf, rfl, g0, g1, g2, g3, g4, g5, g6, g7⟩ := RowF.at_ (hr.below hb) hlt
      have hst := hi.step hf
      have hsz := hs f (List.mem_of_getElem? hf.out)
      generalize hv : vldFactor f = bv at hst
      have HV := Lib.hid hv
      have HS := Lib.hid hst
      clear hv hst hi
      cases bv
      · have hfin := FlInv.no HS (.inl rfl)
        go_wp2_with fail
        refine region_at fun W hW => ?_
        have hwb : Below wr.heap.size wr W := by rw [hW.out]; exact bAlloc (Below.refl _ _) _
        have c0 := cell_regrown (show W.cell? ⟨wr.heap.size, 0, none⟩ = some (.int .i64 f.id) by rw [hW.out]; simp)
        have c1 := cell_regrown (show W.cell? ⟨wr.heap.size, 1, none⟩ = some (.int .i64 f.kind) by rw [hW.out]; simp)
        have c2 := cell_regrown (show W.cell? ⟨wr.heap.size, 2, none⟩ = some (.string f.frm) by rw [hW.out]; simp)
        have c3 := cell_regrown (show W.cell? ⟨wr.heap.size, 3, none⟩ = some (.string f.to) by rw [hW.out]; simp)
        have c4 := cell_regrown (show W.cell? ⟨wr.heap.size, 4, none⟩ = some (.int .i64 f.pose.turn) by rw [hW.out]; simp)
        have c5 := cell_regrown (show W.cell? ⟨wr.heap.size, 5, none⟩ = some (.int .i64 f.pose.x) by rw [hW.out]; simp)
        have c6 := cell_regrown (show W.cell? ⟨wr.heap.size, 6, none⟩ = some (.int .i64 f.pose.y) by rw [hW.out]; simp)
        have c7 := cell_regrown (show W.cell? ⟨wr.heap.size, 7, none⟩ = some (.int .i64 f.weight) by rw [hW.out]; simp)
        have cV : ∀ d os, Calls Tryz.prog 76 #[vFactor f.id f.kind f.frm f.to f.pose.turn f.pose.x f.pose.y f.weight] (Go.Sort.grow (redrawn W d) os) fun e w2 => e = .returned (.bool false) ∧ ∃ p : Regrown, w2 = Go.Sort.grow (redrawn W p.d) p.os := fun d os => Calls.regrown_of ((spec_IsValidFactor_c f.id f.kind f.frm f.to f.pose.turn f.pose.x f.pose.y f.weight _ hsz.1 hsz.2).mono (fun _ _ h => ⟨h.1.trans (congrArg rBool HV.out), h.2⟩))
        clear hW
        refine wp_region_quiet_below (by kernel_rfl) (by kernel_rfl) ?_
        repeat (go_big_quiet_step (first | exact cV _ _))
        refine wpQuiet_nil ?_
        intro _ hw
        obtain ⟨⟨dq, osq⟩, hw⟩ := hw
        subst hw
        have hbq := bTrans hwb (below_regrown W dq osq)
        clear c0 c1 c2 c3 c4 c5 c6 c7 cV
        go_wp2
        go_ret
        exact ⟨by rw [hfin.out]; rfl, bTrans hb hbq⟩
      · by_cases hk0 : k = 0
        · have hkz : ¬ 0 < k := by omega
          have hnx : FlInv l (k + 1) := by
            have := HS.out
            subst hk0
            simpa [FlInv, prevId] using this
          clear hk0
          go_wp2_with fail
          refine region_at fun W hW => ?_
          have hwb : Below wr.heap.size wr W := by rw [hW.out]; exact bAlloc (Below.refl _ _) _
          have c0 := cell_regrown (show W.cell? ⟨wr.heap.size, 0, none⟩ = some (.int .i64 f.id) by rw [hW.out]; simp)
          have c1 := cell_regrown (show W.cell? ⟨wr.heap.size, 1, none⟩ = some (.int .i64 f.kind) by rw [hW.out]; simp)
          have c2 := cell_regrown (show W.cell? ⟨wr.heap.size, 2, none⟩ = some (.string f.frm) by rw [hW.out]; simp)
          have c3 := cell_regrown (show W.cell? ⟨wr.heap.size, 3, none⟩ = some (.string f.to) by rw [hW.out]; simp)
          have c4 := cell_regrown (show W.cell? ⟨wr.heap.size, 4, none⟩ = some (.int .i64 f.pose.turn) by rw [hW.out]; simp)
          have c5 := cell_regrown (show W.cell? ⟨wr.heap.size, 5, none⟩ = some (.int .i64 f.pose.x) by rw [hW.out]; simp)
          have c6 := cell_regrown (show W.cell? ⟨wr.heap.size, 6, none⟩ = some (.int .i64 f.pose.y) by rw [hW.out]; simp)
          have c7 := cell_regrown (show W.cell? ⟨wr.heap.size, 7, none⟩ = some (.int .i64 f.weight) by rw [hW.out]; simp)
          have cV : ∀ d os, Calls Tryz.prog 76 #[vFactor f.id f.kind f.frm f.to f.pose.turn f.pose.x f.pose.y f.weight] (Go.Sort.grow (redrawn W d) os) fun e w2 => e = .returned (.bool true) ∧ ∃ p : Regrown, w2 = Go.Sort.grow (redrawn W p.d) p.os := fun d os => Calls.regrown_of ((spec_IsValidFactor_c f.id f.kind f.frm f.to f.pose.turn f.pose.x f.pose.y f.weight _ hsz.1 hsz.2).mono (fun _ _ h => ⟨h.1.trans (congrArg rBool HV.out), h.2⟩))
          clear hW
          refine wp_region_quiet_below (by kernel_rfl) (by kernel_rfl) ?_
          repeat (go_big_quiet_step (first | exact cV _ _))
          refine wpQuiet_nil ?_
          intro _ hw
          obtain ⟨⟨dq, osq⟩, hw⟩ := hw
          subst hw
          have hbq := bTrans hwb (below_regrown W dq osq)
          clear c0 c1 c2 c3 c4 c5 c6 c7 cV
          go_wp2
          exact ⟨⟨k + 1, by omega, by simp, hnx, bTrans hb hbq⟩, by simp only [intOf]; omega⟩
        · obtain ⟨m, rfl⟩ : ∃ m, k = m + 1 := ⟨k - 1, by omega⟩
          obtain ⟨p, g', off', hp, hA, p0, -⟩ := RowF.at_ (hr.below hb) (show m < n by omega)
          obtain ⟨rfl, rfl⟩ : g = g' ∧ off = off' := by simpa using hA
          clear hA hk0
          have hpe := Lib.hid (prevId_succ hp)
          by_cases hpf : p.id < f.id
          · have hpg : ¬ f.id ≤ p.id := by omega
            have hnx : FlInv l (m + 1 + 1) := by
              have := HS.out
              rw [hpe.out] at this
              simpa [FlInv, hpf] using this
            clear hpf
            go_wp2_with fail
            refine region_at fun W hW => ?_
            have hwb : Below wr.heap.size wr W := by rw [hW.out]; exact bAlloc (Below.refl _ _) _
            have c0 := cell_regrown (show W.cell? ⟨wr.heap.size, 0, none⟩ = some (.int .i64 f.id) by rw [hW.out]; simp)
            have c1 := cell_regrown (show W.cell? ⟨wr.heap.size, 1, none⟩ = some (.int .i64 f.kind) by rw [hW.out]; simp)
            have c2 := cell_regrown (show W.cell? ⟨wr.heap.size, 2, none⟩ = some (.string f.frm) by rw [hW.out]; simp)
            have c3 := cell_regrown (show W.cell? ⟨wr.heap.size, 3, none⟩ = some (.string f.to) by rw [hW.out]; simp)
            have c4 := cell_regrown (show W.cell? ⟨wr.heap.size, 4, none⟩ = some (.int .i64 f.pose.turn) by rw [hW.out]; simp)
            have c5 := cell_regrown (show W.cell? ⟨wr.heap.size, 5, none⟩ = some (.int .i64 f.pose.x) by rw [hW.out]; simp)
            have c6 := cell_regrown (show W.cell? ⟨wr.heap.size, 6, none⟩ = some (.int .i64 f.pose.y) by rw [hW.out]; simp)
            have c7 := cell_regrown (show W.cell? ⟨wr.heap.size, 7, none⟩ = some (.int .i64 f.weight) by rw [hW.out]; simp)
            have cV : ∀ d os, Calls Tryz.prog 76 #[vFactor f.id f.kind f.frm f.to f.pose.turn f.pose.x f.pose.y f.weight] (Go.Sort.grow (redrawn W d) os) fun e w2 => e = .returned (.bool true) ∧ ∃ p : Regrown, w2 = Go.Sort.grow (redrawn W p.d) p.os := fun d os => Calls.regrown_of ((spec_IsValidFactor_c f.id f.kind f.frm f.to f.pose.turn f.pose.x f.pose.y f.weight _ hsz.1 hsz.2).mono (fun _ _ h => ⟨h.1.trans (congrArg rBool HV.out), h.2⟩))
            have e0 := cell_regrown (bCell hwb p0)
            clear hW
            refine wp_region_quiet_below (by kernel_rfl) (by kernel_rfl) ?_
            repeat (go_big_quiet_step (first | exact cV _ _))
            refine wpQuiet_nil ?_
            intro _ hw
            obtain ⟨⟨dq, osq⟩, hw⟩ := hw
            subst hw
            have hbq := bTrans hwb (below_regrown W dq osq)
            clear c0 c1 c2 c3 c4 c5 c6 c7 cV e0
            go_wp2
            exact ⟨⟨m + 1 + 1, by omega, by simp, hnx, bTrans hb hbq⟩, by simp only [intOf]; omega⟩
          · have hpg : f.id ≤ p.id := by omega
            have hfin := FlInv.no HS (.inr (by rw [hpe.out]; simpa using hpf))
            clear hpf
            go_wp2_with fail
            refine region_at fun W hW => ?_
            have hwb : Below wr.heap.size wr W := by rw [hW.out]; exact bAlloc (Below.refl _ _) _
            have c0 := cell_regrown (show W.cell? ⟨wr.heap.size, 0, none⟩ = some (.int .i64 f.id) by rw [hW.out]; simp)
            have c1 := cell_regrown (show W.cell? ⟨wr.heap.size, 1, none⟩ = some (.int .i64 f.kind) by rw [hW.out]; simp)
            have c2 := cell_regrown (show W.cell? ⟨wr.heap.size, 2, none⟩ = some (.string f.frm) by rw [hW.out]; simp)
            have c3 := cell_regrown (show W.cell? ⟨wr.heap.size, 3, none⟩ = some (.string f.to) by rw [hW.out]; simp)
            have c4 := cell_regrown (show W.cell? ⟨wr.heap.size, 4, none⟩ = some (.int .i64 f.pose.turn) by rw [hW.out]; simp)
            have c5 := cell_regrown (show W.cell? ⟨wr.heap.size, 5, none⟩ = some (.int .i64 f.pose.x) by rw [hW.out]; simp)
            have c6 := cell_regrown (show W.cell? ⟨wr.heap.size, 6, none⟩ = some (.int .i64 f.pose.y) by rw [hW.out]; simp)
            have c7 := cell_regrown (show W.cell? ⟨wr.heap.size, 7, none⟩ = some (.int .i64 f.weight) by rw [hW.out]; simp)
            have cV : ∀ d os, Calls Tryz.prog 76 #[vFactor f.id f.kind f.frm f.to f.pose.turn f.pose.x f.pose.y f.weight] (Go.Sort.grow (redrawn W d) os) fun e w2 => e = .returned (.bool true) ∧ ∃ p : Regrown, w2 = Go.Sort.grow (redrawn W p.d) p.os := fun d os => Calls.regrown_of ((spec_IsValidFactor_c f.id f.kind f.frm f.to f.pose.turn f.pose.x f.pose.y f.weight _ hsz.1 hsz.2).mono (fun _ _ h => ⟨h.1.trans (congrArg rBool HV.out), h.2⟩))
            have e0 := cell_regrown (bCell hwb p0)
            clear hW
            refine wp_region_quiet_below (by kernel_rfl) (by kernel_rfl) ?_
            repeat (go_big_quiet_step (first | exact cV _ _))
            refine wpQuiet_nil ?_
            intro _ hw
            obtain ⟨⟨dq, osq⟩, hw⟩ := hw
            subst hw
            have hbq := bTrans hwb (below_regrown W dq osq)
            clear c0 c1 c2 c3 c4 c5 c6 c7 cV e0
            go_wp2
            go_ret
            exact ⟨by rw [hfin.out]; rfl, bTrans hb hbq⟩
    · have hd := hi.done hl hlt
      by_cases h40 : n ≤ 40
      · go_wp2_with fail
        refine Calls.mono (spec_NamesOf_c A n c l _ (by omega) (hr.below hb)) ?_
        rintro e w2 ⟨v2, rfl, ho2, hb2, hn2⟩
        have hL := Lib.hid ho2.len
        go_wp2_with fail
        go_ret
        refine ⟨ret_bool ?_, bTrans hb hb2⟩
        have h1 := hL.out
        have h2 : l.length ≤ 40 := by rw [hl.out]; exact h40
        simp only [List.length_map] at h1
        simp [isFL, hd.out, h1, h2]; omega
      · have hfin : Hid (isFL l = false) := by
          have : ¬ l.length ≤ 40 := by rw [hl.out]; omega
          simp [Hid, isFL, this]
        go_wp2_with fail
        go_ret
        exact ⟨by rw [hfin.out]; rfl, hb⟩
end Go.Proofs.YtebcdjpddoaajaaGreatDoor

/- IsPlaceList: what the two of it answer. -/
namespace Go.Proofs.YtebcdjpddoaajaaGreatDoor
open Go.RowKit
set_option linter.unusedVariables false
set_option linter.unusedSimpArgs false
set_option maxHeartbeats 800000
set_option maxRecDepth 100000

theorem Row.take_ {α : Type} {w : World} {A : Option Addr} {n sz : Nat} {l : List α} {c : α → List Value} (h : Row w A n sz (l.map c)) {k : Nat} (hk : k ≤ n) : Row w A k sz ((l.take k).map c) := by
  have hl : l.length = n := h.len
  refine ⟨by simp; omega, fun i cs hi => ?_⟩
  rw [List.map_take] at hi
  have hik : i < k := by
    have := (List.getElem?_eq_some_iff.1 hi).1
    simp at this; omega
  rw [List.getElem?_take, if_pos hik] at hi
  exact h.2 i cs hi
def plL : List Place → List ByteArray → Bool
  | [], _ => true
  | p :: r, seen => vldPlace p && (!hasStr seen p.name && plL r (seen ++ [p.name]))
def isPL (l : List Place) : Bool := decide (l.length ≤ 16) && plL l []
/-- the names of the first k -/
def nmT (l : List Place) (k : Nat) : List ByteArray := (l.take k).map (·.name)
def PlInv (l : List Place) (k : Nat) : Prop := plL l [] = plL (l.drop k) (nmT l k)
theorem PlInv.step {l : List Place} {k : Nat} {p : Place} (h : PlInv l k) (hf : Hid (l[k]? = some p)) : plL l [] = (vldPlace p && (!hasStr (nmT l k) p.name && plL (l.drop (k + 1)) (nmT l (k + 1)))) := by
  unfold PlInv at h
  have h1 : l[k]? = some p := hf
  obtain ⟨hk, rfl⟩ := List.getElem?_eq_some_iff.1 h1
  rw [h, drop_at hf, plL]
  have e : nmT l (k + 1) = nmT l k ++ [l[k].name] := by
    unfold nmT; rw [List.take_succ_eq_append_getElem hk, List.map_append]; rfl
  rw [e]
theorem PlInv.done {l : List Place} {k n : Nat} (h : PlInv l k) (hl : Hid (l.length = n)) (hk : ¬ k < n) : Hid (plL l [] = true) := by
  unfold PlInv at h; rw [Hid, h, drop_end hl hk]; rfl
theorem nmT_zero (l : List Place) : nmT l 0 = [] := by simp [nmT]
theorem nmT_succ {l : List Place} {k : Nat} {p : Place} (hf : Hid (l[k]? = some p)) : nmT l (k + 1) = nmT l k ++ [p.name] := by
  have h1 : l[k]? = some p := hf
  obtain ⟨hk, rfl⟩ := List.getElem?_eq_some_iff.1 h1
  unfold nmT; rw [List.take_succ_eq_append_getElem hk, List.map_append]; rfl
/-- the inner search: through the first j of the first k -/
def SeenInv (l : List Place) (k j : Nat) (s : ByteArray) : Prop := hasStr (nmT l k) s = hasStr ((nmT l k).drop j) s
theorem SeenInv.step {l : List Place} {k j : Nat} {s : ByteArray} {q : Place} (h : SeenInv l k j s) (hf : Hid ((l.take k)[j]? = some q)) : hasStr (nmT l k) s = ((q.name.toList == s.toList) || hasStr ((nmT l k).drop (j + 1)) s) := by
  unfold SeenInv at h
  have e : Hid ((nmT l k)[j]? = some q.name) := by
    have : (l.take k)[j]? = some q := hf
    show ((l.take k).map (·.name))[j]? = _
    rw [List.getElem?_map, this]; rfl
  rw [h, drop_at e]; rfl
theorem SeenInv.done {l : List Place} {k j : Nat} {s : ByteArray} (h : SeenInv l k j s) (hl : Hid (l.length = l.length)) (hk : ¬ j < k) : Hid (hasStr (nmT l k) s = false) := by
  unfold SeenInv at h
  rw [Hid, h, List.drop_eq_nil_of_le (by simp [nmT]; omega)]; rfl

end Go.Proofs.YtebcdjpddoaajaaGreatDoor
