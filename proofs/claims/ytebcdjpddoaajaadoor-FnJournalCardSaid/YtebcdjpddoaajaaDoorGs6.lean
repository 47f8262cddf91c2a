/- Texts of this proof, one behind the other: Sz, To. -/
import Derived.Test.YtebcdjpddoaajaaDoorProg
import Derived.Test.YtebcdjpddoaajaaDoorGs3
/- The laws' screens on size: what they answer. -/
namespace Go.Proofs.YtebcdjpddoaajaaDoor
open Go.RowKit
set_option linter.unusedVariables false
set_option linter.unusedSimpArgs false
set_option maxHeartbeats 400000

theorem szFactor_c (id : Int) (kind : Int) (fr : ByteArray) (to : ByteArray) (t : Int) (x : Int) (y : Int) (wt : Int) (left : Int) (w : World) (h1 : 0 ≤ left) (h2 : left ≤ 1048576) (h_fr : fr.size ≤ maxLen) (h_to : to.size ≤ maxLen) :
    Calls Tryd.prog 77 #[vFactor id kind fr to t x y wt, .int .i64 left] w fun e w' => SzPost left (fr.size + to.size) e ∧ Below w.heap.size w w' := by
  unfold maxLen at h_fr h_to
  go_enter Tryd.func77, Tryd.ntmps77
  go_wp2
  all_goals (go_ret; exact ⟨⟨_, rfl, by unfold Hid; omega⟩, bAlloc (Below.refl _ _) _⟩)




end Go.Proofs.YtebcdjpddoaajaaDoor

/- The laws' own copies: what they make reads as what they were handed, in new memory. -/
namespace Go.Proofs.YtebcdjpddoaajaaDoor
open Go.RowKit
set_option linter.unusedVariables false
set_option linter.unusedSimpArgs false
set_option maxHeartbeats 400000

-- infos
theorem info_Factor : (Tryd.prog.info? 28).map (fun i => (i.zero, i.size, i.bytes)) = some (some (.agg #[.int .i64 0, .int .i64 0, .string ByteArray.empty, .string ByteArray.empty, .int .i64 0, .int .i64 0, .int .i64 0, .int .i64 0]), 8, 80) := by kernel_rfl
theorem size_Factor : (Tryd.prog.info? 28).map (·.size) = some 8 := by kernel_rfl
def zeroFactor : List Value := [.int .i64 0, .int .i64 0, .string ByteArray.empty, .string ByteArray.empty, .int .i64 0, .int .i64 0, .int .i64 0, .int .i64 0]
theorem info_String : (Tryd.prog.info? 9).map (fun i => (i.zero, i.size, i.bytes)) = some (some (.string ByteArray.empty), 1, 16) := by kernel_rfl
theorem size_String : (Tryd.prog.info? 9).map (·.size) = some 1 := by kernel_rfl
theorem toPose_c (t x y : Int) (w : World) : Calls Tryd.prog 110 #[vPose t x y] w fun e w' => e = .returned (vPose t x y) ∧
    ((w.alloc (.cells #[.int .i64 t, .int .i64 x, .int .i64 y] 69)).alloc (.cells #[.int .i64 t, .int .i64 x, .int .i64 y] 26)).alloc (.cells #[.int .i64 t, .int .i64 x, .int .i64 y] 26) = w' := by
  go_enter Tryd.func110, Tryd.ntmps110
  go_wp2
  exact bodyPost_ret (v := vPose t x y) (by simp [results, Tryd.results110, go_sem]) rfl ⟨rfl, rfl⟩

theorem toFactor_x (id kind : Int) (fr to : ByteArray) (t x y wt : Int) (w : World) :
    Calls Tryd.prog 80 #[vFactor id kind fr to t x y wt] w fun e w' => e = .returned (vFactor id kind fr to t x y wt) ∧
      (((((w.alloc (.cells #[.int .i64 id, .int .i64 kind, .string fr, .string to, .int .i64 t, .int .i64 x, .int .i64 y, .int .i64 wt] 71)).alloc (.cells #[.int .i64 id, .int .i64 kind, .string fr, .string to, .int .i64 t, .int .i64 x, .int .i64 y, .int .i64 wt] 28)).alloc (.cells #[.int .i64 id, .int .i64 kind, .string fr, .string to, .int .i64 t, .int .i64 x, .int .i64 y, .int .i64 wt] 28)).alloc (.cells #[.int .i64 t, .int .i64 x, .int .i64 y] 69)).alloc (.cells #[.int .i64 t, .int .i64 x, .int .i64 y] 26)).alloc (.cells #[.int .i64 t, .int .i64 x, .int .i64 y] 26) = w' := by
  go_enter Tryd.func80, Tryd.ntmps80
  go_wp2_with (go_at_call 110; refine (toPose_c _ _ _ _).mono ?_; rintro e w1 ⟨rfl, rfl⟩)
  exact bodyPost_ret (v := vFactor id kind fr to t x y wt) (by simp [results, Tryd.results80, go_sem]) rfl ⟨rfl, rfl⟩
theorem toFactor_c (id kind : Int) (fr to : ByteArray) (t x y wt : Int) (w : World) :
    Calls Tryd.prog 80 #[vFactor id kind fr to t x y wt] w fun e w' => e = .returned (vFactor id kind fr to t x y wt) ∧ Below w.heap.size w w' :=
  (toFactor_x id kind fr to t x y wt w).mono fun e w' ⟨h1, h2⟩ => ⟨h1, by rw [← h2]; exact bAlloc (bAlloc (bAlloc (bAlloc (bAlloc (bAlloc (Below.refl _ _) _) _) _) _) _) _⟩



end Go.Proofs.YtebcdjpddoaajaaDoor
