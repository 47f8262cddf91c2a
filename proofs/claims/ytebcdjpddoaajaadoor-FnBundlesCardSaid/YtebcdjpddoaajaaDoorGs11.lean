/- Texts of this proof, one behind the other: Fmt. -/
import Derived.Lib.QuietBelow
import Derived.Lib.Hide
import Derived.Deep.RegionHeld3
import Derived.Deep.RegionWith
import Derived.Test.YtebcdjpddoaajaaDoorGs1
import Derived.Test.YtebcdjpddoaajaaDoorGs3
/- The reference's FormatInt: the numeral, for every int. -/
namespace Go.Proofs.YtebcdjpddoaajaaDoor
open Go.RowKit
set_option linter.unusedVariables false
set_option linter.unusedSimpArgs false
set_option maxHeartbeats 400000
set_option maxRecDepth 100000
/-- string([]byte{x}) -/
theorem conv1 (w : World) (x : Int) : (convert 22 9 (.slice (some { block := w.heap.size, off := 0 }) 1 1)).run Tryd.prog (w.alloc (.cells #[.int .u8 x] 5)) = .ok (.string ⟨#[UInt8.ofNat x.toNat]⟩) (w.alloc (.cells #[.int .u8 x] 5)) := by
  rw [run_convert_bytes_string _ _ _ 5 (some ⟨w.heap.size, 0, none⟩) 1 1 Tryd.underlying22 Tryd.underlying5 Tryd.underlying9]
  have hl := run_loadCells_list (P := Tryd.prog) (w.alloc (.cells #[.int .u8 x] 5)) ⟨w.heap.size, 0, none⟩ ([x].map (Value.int .u8)) (fun j v hj => by
    cases j with
    | zero => simp only [List.map_cons, List.getElem?_cons_zero, Option.some.injEq] at hj; subst hj; go_simp
    | succ j => simp at hj)
  rw [run_bytesToString _ _ 1 1 [x] hl]
  rfl
theorem conv1c {W : World} {b : Nat} {x : Int} (hc : W.cell? ⟨b, 0, none⟩ = some (.int .u8 x)) : (convert 22 9 (.slice (some { block := b, off := 0 }) 1 1)).run Tryd.prog W = .ok (.string ⟨#[UInt8.ofNat x.toNat]⟩) W := by
  rw [run_convert_bytes_string _ _ _ 5 (some ⟨b, 0, none⟩) 1 1 Tryd.underlying22 Tryd.underlying5 Tryd.underlying9]
  have hl := run_loadCells_list (P := Tryd.prog) W ⟨b, 0, none⟩ ([x].map (Value.int .u8)) (fun j v hj => by
    cases j with
    | zero => simp only [List.map_cons, List.getElem?_cons_zero, Option.some.injEq] at hj; subst hj; simpa [Addr.add] using hc
    | succ j => simp at hj)
  rw [run_bytesToString _ _ 1 1 [x] hl]
  rfl
theorem cell_ad (w : World) (v : Value) (t : TypeId) : ((w.alloc (.cells #[v] t)).drew).cell? ⟨w.heap.size, 0, none⟩ = some v := by go_simp
theorem cell_a (w : World) (v : Value) (t : TypeId) : (w.alloc (.cells #[v] t)).cell? ⟨w.heap.size, 0, none⟩ = some v := by go_simp
theorem catOk {a b : ByteArray} (h : a.size + b.size ≤ 1099511627776) (w : World) : (Op.stringOp .add a b).run Tryd.prog w = .ok (.string (a ++ b)) w := run_string_add_sum w a b (by omega)
theorem spec_FormatInt_pos (N : Nat) (w : World) (hN : N ≤ 9223372036854775807) : Calls Tryd.prog 86 #[.int .i64 (N : Int)] w fun e w' => e = .returned (.string (itoaB (N : Int))) ∧ Below w.heap.size w w' := by
  go_enter Tryd.func86, Tryd.ntmps86
  go_wp2
  go_loopw [0, 3] (fun i s wr => ∃ (n : Nat) (t : ByteArray), n ≤ 9223372036854775807 ∧ i = .int .i64 (n : Int) ∧ s = .string t ∧ ItoInv N n t ∧ Below w.heap.size w wr) (fun i _ _ => (intOf i).toNat)
  case atStart => exact ⟨N, _, hN, rfl, rfl, ItoInv.start N, Below.refl _ _⟩
  case round =>
    obtain ⟨n, t, hn, rfl, rfl, hi, hb⟩ := hrel
    have hts := hi.size hN
    by_cases hlt : 9 < n
    · have hcv := conv1 wr (48 + (n : Int) % 10)
      have e1 : (48 + (n : Int) % 10).toNat = 48 + n % 10 := by omega
      rw [e1] at hcv
      have hnx := hi.next hlt rfl
      have hca := fun W => catOk (a := ⟨#[UInt8.ofNat (48 + n % 10)]⟩) (b := t) (by show 1 + _ ≤ _; omega) W
      generalize (ByteArray.mk #[UInt8.ofNat (48 + n % 10)] ++ t) = t2 at hca hnx
      generalize (ByteArray.mk #[UInt8.ofNat (48 + n % 10)]) = t1 at hca hcv
      go_wp2
      exact ⟨⟨n / 10, t2, by omega, by simp, rfl, hnx, bAlloc hb _⟩, by simp only [intOf]; omega⟩
    · have hcv := conv1 wr (48 + (n : Int))
      have e1 : (48 + (n : Int)).toNat = 48 + n := by omega
      rw [e1] at hcv
      have hnx := hi.done (by omega)
      have hca := fun W => catOk (a := ⟨#[UInt8.ofNat (48 + n)]⟩) (b := t) (by show 1 + _ ≤ _; omega) W
      rw [hnx] at hca
      generalize (ByteArray.mk #[UInt8.ofNat (48 + n)]) = t1 at hca hcv
      go_wp2
      go_ret
      exact ⟨rfl, bAlloc hb _⟩
theorem tdiv10 {n : Int} (h : n < 0) : n.tdiv 10 = -((-n) / 10) := by
  obtain ⟨m, rfl⟩ : ∃ m : Nat, n = -(m : Int) := ⟨n.natAbs, by omega⟩
  rw [Int.neg_tdiv, Int.neg_neg, Int.tdiv_eq_ediv_of_nonneg (by omega)]
theorem tmod10 {n : Int} (h : n < 0) : n.tmod 10 = -((-n) % 10) := by
  obtain ⟨m, rfl⟩ : ∃ m : Nat, n = -(m : Int) := ⟨n.natAbs, by omega⟩
  rw [Int.neg_tmod, Int.neg_neg, Int.tmod_eq_emod_of_nonneg (by omega)]
theorem spec_FormatInt_neg : ∀ (k : Nat) (n : Int), n < 0 → -9223372036854775808 ≤ n → n.natAbs ≤ k → ∀ w : World,
    Calls Tryd.prog 86 #[.int .i64 n] w fun e w' => e = .returned (.string (itoaB n)) ∧ Below w.heap.size w w'
  | 0, n, h0, _, hk, _ => by omega
  | k + 1, n, h0, hlo, hk, w => by
    have hd := tdiv10 h0
    have hm := tmod10 h0
    by_cases h1 : -10 < n
    · have hcv := fun W => conv1 W (48 - n)
      have hnx := itoa_neg1 h0 h1
      have hca := fun W => catOk (a := ⟨#[45]⟩) (b := ⟨#[UInt8.ofNat (48 - n).toNat]⟩) (by show 1 + 1 ≤ _; omega) W
      rw [← hnx] at hca
      have hq : n.tdiv 10 = 0 := by omega
      generalize (ByteArray.mk #[UInt8.ofNat (48 - n).toNat]) = t1 at hca hcv
      clear hnx hd hm
      go_enter Tryd.func86, Tryd.ntmps86
      go_wp2
      go_ret
      exact ⟨rfl, bAlloc (Below.refl _ _) _⟩
    · have hq : n.tdiv 10 ≠ 0 := by omega
      have ih := spec_FormatInt_neg k (n.tdiv 10) (by omega) (by omega) (by omega)
      have hr0 : n.tmod 10 ≤ 0 := by omega
      have hr1 : -9 ≤ n.tmod 10 := by omega
      have hcv := fun W => conv1 W (48 - n.tmod 10)
      have hnx := itoa_neg2 (n := n) (by omega)
      have hsz := itoaB_size (n := n.tdiv 10) (by omega) (by omega)
      have hca := fun W => catOk (a := itoaB (n.tdiv 10)) (b := ⟨#[UInt8.ofNat (48 - n.tmod 10).toNat]⟩) (by show _ + 1 ≤ _; omega) W
      rw [← hnx] at hca
      generalize ht1 : (ByteArray.mk #[UInt8.ofNat (48 - n.tmod 10).toNat]) = t1 at hca hcv
      generalize itoaB (n.tdiv 10) = t2 at hca ih
      clear hnx hsz
      have hq0 : -922337203685477581 ≤ n.tdiv 10 := by omega
      have hq1 : n.tdiv 10 ≤ -1 := by omega
      generalize hQ : n.tdiv 10 = q at *
      generalize hR : n.tmod 10 = r at *
      clear hd hm h1 hk
      have IH := Lib.hid ih
      clear ih
      go_enter Tryd.func86, Tryd.ntmps86
      go_wp2_with fail
      have hw1 : IntKind.i64.wrap q = q := by rw [IntKind.wrap_i64]; omega
      have hw2 : IntKind.i64.wrap (48 - r) = 48 - r := by rw [IntKind.wrap_i64]; omega
      have hw3 : IntKind.u8.wrap (48 - r) = 48 - r := by simp [IntKind.wrap, IntKind.bits, IntKind.signed]; omega
      have hcvd : ∀ W : World, (convert 22 9 (.slice (some { block := W.heap.size, off := 0 }) 1 1)).run Tryd.prog (W.alloc (.cells #[.int .u8 (48 - r)] 5)).drew = .ok (.string t1) (W.alloc (.cells #[.int .u8 (48 - r)] 5)).drew := fun W => by have := conv1c (cell_ad W (.int .u8 (48 - r)) 5); rw [ht1] at this; exact this
      go_region_with (first | (go_at_call 86; refine (IH.out _).mono ?_; rintro e w1 ⟨rfl, hb1⟩; first | (have hcv2 := conv1c (bCell hb1 (cell_ad w (.int .u8 (48 - r)) 5)); rw [ht1] at hcv2) | skip))
      all_goals
        go_wp2
        go_ret
        exact ⟨rfl, by repeat (first | with_reducible exact Below.refl _ _ | with_reducible refine bAlloc ?_ _ | with_reducible refine bDrew ?_ | with_reducible refine bTrans ?_ hb1)⟩
/-- spec.FormatInt: the numeral -/
theorem spec_FormatInt_c (n : Int) (w : World) (h0 : -9223372036854775808 ≤ n) (h1 : n ≤ 9223372036854775807) : Calls Tryd.prog 86 #[.int .i64 n] w fun e w' => e = .returned (.string (itoaB n)) ∧ Below w.heap.size w w' := by
  by_cases hn : n < 0
  · exact spec_FormatInt_neg _ n hn h0 (Nat.le_refl _) w
  · obtain ⟨m, rfl⟩ := Int.eq_ofNat_of_zero_le (show 0 ≤ n by omega)
    exact spec_FormatInt_pos m w (by omega)
end Go.Proofs.YtebcdjpddoaajaaDoor
